/-
  OutqCopies, walked.
-/
import Derived.Test.YtneeagabmdpjgaaPt
import Derived.Test.YtneeagabmdpjgaaSb
import Derived.Test.YtneeagabmdpjgaaRa
import Derived.Test.YtneeagabmdpjgaaRb
namespace Go.Proofs.Ytneeagabmdpjgaa
open Go.RowKit Go.Shelf
set_option linter.unusedVariables false
set_option linter.unusedSimpArgs false
attribute [local go_sem] Oper.semAt_some
attribute [local go_sem] run_eql_func53

set_option maxHeartbeats 3200000 in
set_option maxRecDepth 100000 in
theorem copies_any (m : Int) (ao : Option Addr) (n cap : Nat) (zs : List OV) (x y : OV) (zero : Bool) (w : World) (h : OActs w ao n zs) (hx : x.Ok (fun k => k < w.heap.size) w) (hy : y.Ok (fun k => k < w.heap.size) w) :
    Calls Try.prog 6 #[.int .i64 m, .slice ao n cap, .agg #[.int .i64 x.what, .int .i64 x.n, .slice x.a x.ls.length x.c, .int .i64 y.what, .int .i64 y.n, .slice y.a y.ls.length y.c], .bool zero] w (Yes w) := by
  have HWorks := Lib.hid works_true
  have HNum := Lib.hid num_any
  have T1 := Lib.hid (Bt.start w x y)
  have HA := Lib.hid h
  have HX := Lib.hid hx
  have HY := Lib.hid hy
  obtain ⟨xL, hxL⟩ : ∃ L, L = x.ls.length := ⟨_, rfl⟩
  obtain ⟨yL, hyL⟩ : ∃ L, L = y.ls.length := ⟨_, rfl⟩
  obtain ⟨w1, hw1⟩ : ∃ W, W = (w.alloc (.cells #[.int .i64 x.what, .int .i64 x.n, .slice x.a xL x.c, .int .i64 y.what, .int .i64 y.n, .slice y.a yL y.c] 49)).alloc (.cells #[.bool false] 4) := ⟨_, rfl⟩
  rw [← hxL, ← hyL]
  rw [← hxL, ← hyL, ← hw1] at T1
  have HFew := Lib.hid (few_any ao n cap zs 30 w1 (h.below T1.out.below) (by decide))
  have E1 := Lib.hid hw1
  have HXL := Lib.hid hxL
  have HYL := Lib.hid hyL
  clear h hx hy hw1 hxL hyL
  refine (callsIn_wide (n := 7)).1 ?_
  refine callsIn_of_wp_marks Try.func6 rfl trivial ?_ rfl
  simp only [Try.ntmps6, List.size_toArray, List.length_cons, List.length_nil, Nat.reduceAdd, Nat.reduceSub, Array.replicate_succ, Array.replicate_zero, List.push_toArray, List.append_toArray, List.nil_append, List.cons_append]
  refine wpIn_wide.2 ?_
  go_wp2_with (go_at_call 7; fail)
  rw [← E1.out]
  refine HFew.out.mono ?_
  rintro e w2 ⟨b, rfl, hfew, rfl⟩
  obtain ⟨_, _, cr, fr⟩ := T1.out.cells
  have hl1 := T1.out.lt
  cases b with
  | false =>
    go_wp2_with fail
    refine (HWorks.out _).mono ?_
    rintro e w12 ⟨rfl, hb⟩
    have B12 := Lib.hid (T1.out.bel hb)
    obtain ⟨_, _, c6, f6⟩ := B12.out.cells
    have hl := B12.out.lt
    clear hb T1
    go_wp2_with fail
    refine ⟨.bool true, ?_, rfl, B12.out.below.setCell (p := ⟨w.heap.size + 1, 0, none⟩) (by simp) _⟩
    simp [results, Try.f6, go_sem, c6]
  | true =>
    have HF1 := Lib.hid (hfew rfl)
    have HFew2 := Lib.hid (few_any _ 2 2 [x, y] 2 _ (T1.out.acts HX.out HY.out) (by decide))
    have hl0 : w.heap.size < w1.heap.size := by omega
    clear hfew HFew
    go_wp2_with (go_at_call 7; fail)
    refine HFew2.out.mono ?_
    rintro e w2 ⟨b, rfl, hfew, rfl⟩
    cases b with
    | false =>
      go_wp2_with fail
      refine (HWorks.out _).mono ?_
      rintro e w12 ⟨rfl, hb⟩
      have B12 := Lib.hid (T1.out.bel hb)
      obtain ⟨_, _, c6, f6⟩ := B12.out.cells
      have hl := B12.out.lt
      clear hb T1
      go_wp2_with fail
      refine ⟨.bool true, ?_, rfl, B12.out.below.setCell (p := ⟨w.heap.size + 1, 0, none⟩) (by simp) _⟩
      simp [results, Try.f6, go_sem, c6]
    | true =>
      have HX3 := Lib.hid ((hfew rfl).2 0 (by omega))
      have HY3 := Lib.hid ((hfew rfl).2 1 (by omega))
      clear hfew HFew2
      by_cases hm0 : m < 0
      · have t0 : decide (m < 0) = true := by simpa using hm0
        go_wp2_with fail
        refine (HWorks.out _).mono ?_
        rintro e w12 ⟨rfl, hb⟩
        have B12 := Lib.hid (T1.out.bel hb)
        obtain ⟨_, _, c6, f6⟩ := B12.out.cells
        have hl := B12.out.lt
        clear hb T1
        go_wp2_with fail
        refine ⟨.bool true, ?_, rfl, B12.out.below.setCell (p := ⟨w.heap.size + 1, 0, none⟩) (by simp) _⟩
        simp [results, Try.f6, go_sem, c6]
      by_cases hm1 : 1048576 < m
      · have t0 : decide (m < 0) = false := by simpa using hm0
        have t1 : decide (1048576 < m) = true := by simpa using hm1
        go_wp2_with fail
        refine (HWorks.out _).mono ?_
        rintro e w12 ⟨rfl, hb⟩
        have B12 := Lib.hid (T1.out.bel hb)
        obtain ⟨_, _, c6, f6⟩ := B12.out.cells
        have hl := B12.out.lt
        clear hb T1
        go_wp2_with fail
        refine ⟨.bool true, ?_, rfl, B12.out.below.setCell (p := ⟨w.heap.size + 1, 0, none⟩) (by simp) _⟩
        simp [results, Try.f6, go_sem, c6]
      have t0 : decide (m < 0) = false := by simpa using hm0
      have t1 : decide (1048576 < m) = false := by simpa using hm1
      have HNew := Lib.hid (New_os m w w1 (by omega) (by omega) T1.out.below)
      have HRef := Lib.hid (fun w => refNew_any m w (by omega) (by omega))
      have HACX : Hid (∀ K1 W p ra nq rc g lim, lim ≤ 80000 → Qd w K1 m p ra nq rc g lim W → Calls Try.prog 19 #[.pointer (some ⟨p, 0, none⟩), .agg #[.slice ra nq rc, .int .i64 g, .int .i64 m], .agg #[.int .i64 x.what, .int .i64 x.n, .slice x.a xL x.c]] W fun e w' => ∃ (p' : Nat) (ra' : Option Addr) (n' rc' g' : Nat) (K' : Nat → Prop), e = .returned (.tuple #[.pointer (some ⟨p', 0, none⟩), .agg #[.slice ra' n' rc', .int .i64 g', .int .i64 m], .bool true]) ∧ (∀ q, K1 q → K' q) ∧ Qd w K' m p' ra' n' rc' g' (lim + 8) w' ∧ Mod (fun q => ¬ K1 q ∧ w.heap.size ≤ q) W w') := Lib.hid (fun K1 W p ra nq rc g lim hlim hQ => by
        have := hQ.act hlim x (HX.out.below hQ.below) HX3.out
        unfold dagg zagg at this
        rw [← HXL.out] at this
        exact this)
      have HACY : Hid (∀ K1 W p ra nq rc g lim, lim ≤ 80000 → Qd w K1 m p ra nq rc g lim W → Calls Try.prog 19 #[.pointer (some ⟨p, 0, none⟩), .agg #[.slice ra nq rc, .int .i64 g, .int .i64 m], .agg #[.int .i64 y.what, .int .i64 y.n, .slice y.a yL y.c]] W fun e w' => ∃ (p' : Nat) (ra' : Option Addr) (n' rc' g' : Nat) (K' : Nat → Prop), e = .returned (.tuple #[.pointer (some ⟨p', 0, none⟩), .agg #[.slice ra' n' rc', .int .i64 g', .int .i64 m], .bool true]) ∧ (∀ q, K1 q → K' q) ∧ Qd w K' m p' ra' n' rc' g' (lim + 8) w' ∧ Mod (fun q => ¬ K1 q ∧ w.heap.size ≤ q) W w') := Lib.hid (fun K1 W p ra nq rc g lim hlim hQ => by
        have := hQ.act hlim y (HY.out.below hQ.below) HY3.out
        unfold dagg zagg at this
        rw [← HYL.out] at this
        exact this)
      clear cr fr hl1 hl0
      go_wp2_with (go_at_call 9; fail)
      refine HNew.out.mono ?_
      rintro e w4 ⟨p, rfl, hq, hb4, _⟩
      have HQ0 := Lib.hid (Qd.start hq (fun q hq => hq.1))
      have HB4 := Lib.hid hb4
      clear hq hb4 HNew
      go_wp2_with (go_at_call 18; fail)
      refine (HRef.out _).mono ?_
      rintro e w5 ⟨rfl, hb5⟩
      obtain ⟨B, hB⟩ : ∃ B, B = w5.heap.size := ⟨_, rfl⟩
      obtain ⟨w6, hw6⟩ : ∃ W, W = w5.alloc (.cells #[.slice none 0 0, .int .i64 0, .int .i64 m] 43) := ⟨_, rfl⟩
      have hb6 : Below w5.heap.size w5 w6 := by rw [hw6]; exact (Below.refl _ w5).alloc (Nat.le_refl _) _
      have hk6 : Box B none 0 0 0 m w6 := by rw [hw6, hB]; exact alloc_blk_new w5 _
      have C0 : Hid (Cl w x y (More (More (fun q => w.heap.size ≤ q ∧ q < w1.heap.size) w4 w5) w5 w6) m p B none 0 0 0 (8 * 0) w6) := Lib.hid (by
        have hlt := T1.out.lt
        have hs4 := HB4.out.size
        have hs5 := hb5.size
        exact ⟨(HQ0.out.bel hb5).bel hb6, hk6, .inr ⟨by omega, blk_lt hk6⟩, (((T1.out.bel HB4.out).bel hb5).bel hb6), .inl (.inl ⟨Nat.le_refl _, by omega⟩), .inl (.inl ⟨by omega, by omega⟩), by omega⟩)
      have E6 := Lib.hid hw6
      have EB := Lib.hid hB
      clear hb5 hb6 hk6 hw6 hB HQ0 HB4 T1
      go_wp2_with fail
      rw [← E6.out, ← EB.out]
      clear E6 EB
      go_loopg [9, 13] n (fun gk v9 v13 wr => ∃ i p : Nat, v9 = .pointer (some ⟨p, 0, none⟩) ∧ v13 = .int .i64 i ∧ i ≤ n ∧ gk = n - i ∧ ∃ K ra nq rc g, Cl w x y K m p B ra nq rc g (8 * i) wr)
      case atStart => exact ⟨0, p, rfl, rfl, by omega, rfl, _, _, _, _, _, C0.out⟩
      case round =>
        obtain ⟨i, p, rfl, rfl, hi, hgk, K, ra, nq, rc, g, hcl⟩ := hrel
        have HG := Lib.hid hgk
        have HCL := Lib.hid hcl
        obtain ⟨c0, c1, c2⟩ := hcl.box.cells
        have l0 := blk_lt hcl.box
        have hi30 : i ≤ 30 := by have := HF1.out.1; omega
        have HLIM : Hid (8 * i ≤ 80000) := Lib.hid (by omega)
        clear hgk hcl C0
        by_cases hlt : i < n
        · have d1 : decide ((i : Int) < n) = true := by simpa using hlt
          obtain ⟨b, off, rfl, hbl, hc⟩ := HA.out.2.2 (by omega)
          obtain ⟨z, hz, z0, z1, z2, hok⟩ := hc i hlt
          have hfw := HF1.out.2 i hlt
          rw [← hz] at hfw
          obtain ⟨zw, hzw⟩ : ∃ zw, zw = z.what := ⟨_, rfl⟩
          obtain ⟨zn, hzn⟩ : ∃ zn, zn = z.n := ⟨_, rfl⟩
          obtain ⟨zL, hzL⟩ : ∃ zL, zL = z.ls.length := ⟨_, rfl⟩
          have HACT : Hid (∀ K1 W p ra nq rc g lim, lim ≤ 80000 → Qd w K1 m p ra nq rc g lim W → Calls Try.prog 19 #[.pointer (some ⟨p, 0, none⟩), .agg #[.slice ra nq rc, .int .i64 g, .int .i64 m], .agg #[.int .i64 zw, .int .i64 zn, .slice z.a zL z.c]] W fun e w' => ∃ (p' : Nat) (ra' : Option Addr) (n' rc' g' : Nat) (K' : Nat → Prop), e = .returned (.tuple #[.pointer (some ⟨p', 0, none⟩), .agg #[.slice ra' n' rc', .int .i64 g', .int .i64 m], .bool true]) ∧ (∀ q, K1 q → K' q) ∧ Qd w K' m p' ra' n' rc' g' (lim + 8) w' ∧ Mod (fun q => ¬ K1 q ∧ w.heap.size ≤ q) W w') := Lib.hid (fun K1 W p ra nq rc g lim hlim hQ => by
            have := hQ.act hlim z (hok.below hQ.below) hfw
            unfold dagg zagg at this
            rw [← hzw, ← hzn, ← hzL] at this
            exact this)
          have HSS : Hid (∀ (W : World), Below w.heap.size w W → Box B ra nq rc g m W → (fun W : World => W.cell? ⟨B, 0, none⟩ = some (.slice ra nq rc) ∧ W.cell? ⟨B, 1, none⟩ = some (.int .i64 g) ∧ W.cell? ⟨B, 2, none⟩ = some (.int .i64 m) ∧ W.cell? ⟨b, off + i * 3, none⟩ = some (.int .i64 zw) ∧ W.cell? ⟨b, off + i * 3 + 1, none⟩ = some (.int .i64 zn) ∧ W.cell? ⟨b, off + i * 3 + 2, none⟩ = some (.slice z.a zL z.c)) W) := Lib.hid (fun W hb hB => ⟨hB.cells.1, hB.cells.2.1, hB.cells.2.2, by rw [hzw]; exact (hb.cell (p := ⟨b, off + i * 3, none⟩) hbl).trans z0, by rw [hzn]; exact (hb.cell (p := ⟨b, off + i * 3 + 1, none⟩) hbl).trans z1, by rw [hzL]; exact (hb.cell (p := ⟨b, off + i * 3 + 2, none⟩) hbl).trans z2⟩)
          obtain ⟨_, _, _, y0, y1, y2⟩ := HSS.out _ HCL.out.qd.below HCL.out.box
          have lb : b < wr.heap.size := Nat.lt_of_lt_of_le hbl HCL.out.qd.below.size
          clear hc z0 z1 z2 hok hz hfw hzw hzn hzL
          go_upto_region 8 with fail
          refine wp_region_noPanic ?_
          refine wp_region_K 12 (fun W => W.cell? ⟨B, 0, none⟩ = some (.slice ra nq rc) ∧ W.cell? ⟨B, 1, none⟩ = some (.int .i64 g) ∧ W.cell? ⟨B, 2, none⟩ = some (.int .i64 m) ∧ W.cell? ⟨b, off + i * 3, none⟩ = some (.int .i64 zw) ∧ W.cell? ⟨b, off + i * 3 + 1, none⟩ = some (.int .i64 zn) ∧ W.cell? ⟨b, off + i * 3 + 2, none⟩ = some (.slice z.a zL z.c)) (by kernel_rfl) ?_
          obtain ⟨wd, hwd⟩ : ∃ W, W = (wr).drew := ⟨_, rfl⟩
          have HBd : Hid (Below (wr).heap.size (wr) wd) := Lib.hid (by rw [hwd]; exact Below.drewN' (wr) 1)
          have hS0 : (fun W : World => W.cell? ⟨B, 0, none⟩ = some (.slice ra nq rc) ∧ W.cell? ⟨B, 1, none⟩ = some (.int .i64 g) ∧ W.cell? ⟨B, 2, none⟩ = some (.int .i64 m) ∧ W.cell? ⟨b, off + i * 3, none⟩ = some (.int .i64 zw) ∧ W.cell? ⟨b, off + i * 3 + 1, none⟩ = some (.int .i64 zn) ∧ W.cell? ⟨b, off + i * 3 + 2, none⟩ = some (.slice z.a zL z.c)) wd := by rw [hwd]; exact ⟨c0, c1, c2, y0, y1, y2⟩
          rw [← hwd]
          have P1 : Hid (Cl w x y K m p B ra nq rc g (8 * i) wd) := Lib.hid (by rw [hwd]; exact HCL.out.drewN 1)
          clear hwd
          refine' wpAnyK_take (i := 0) (oi := { dst := some 61, op := Op.move (Operand.tmp 9), type := 25, pos := "law.go:178", after := #[], guard := none }) (v := ?v1001) rfl (by kernel_rfl) (by kernel_rfl) (by kernel_rfl) [] (by kernel_rfl) (by decide) (by kernel_rfl) (by kernel_rfl) (fun _ _ _ h => h) hS0 (.inl ⟨by first | rfl | simp [Region.wanted, yielded], ?hy1001⟩) ?rest1001
          case hy1001 => (intro W hW; obtain ⟨f1, f2, f3, f4, f5, f6⟩ := hW; go_simp; try with_reducible rfl)
          simp only [Act.put, List.setIfInBounds_toArray, List.set_cons_zero, List.set_cons_succ]
          refine' wpAnyK_take (i := 1) (oi := { dst := some 62, op := Op.load 43 (Operand.tmp 11), type := 43, pos := "law.go:178", after := #[], guard := none }) (v := ?v1002) rfl (by kernel_rfl) (by kernel_rfl) (by kernel_rfl) [] (by kernel_rfl) (by decide) (by kernel_rfl) (by kernel_rfl) (fun _ _ _ h => h) hS0 (.inl ⟨by first | rfl | simp [Region.wanted, yielded], ?hy1002⟩) ?rest1002
          case hy1002 => (intro W hW; obtain ⟨f1, f2, f3, f4, f5, f6⟩ := hW; go_simp; try with_reducible rfl)
          simp only [Act.put, List.setIfInBounds_toArray, List.set_cons_zero, List.set_cons_succ]
          refine' wpAnyK_take (i := 2) (oi := { dst := some 63, op := Op.move (Operand.tmp 1), type := 22, pos := "law.go:178", after := #[], guard := none }) (v := ?v1003) rfl (by kernel_rfl) (by kernel_rfl) (by kernel_rfl) [] (by kernel_rfl) (by decide) (by kernel_rfl) (by kernel_rfl) (fun _ _ _ h => h) hS0 (.inl ⟨by first | rfl | simp [Region.wanted, yielded], ?hy1003⟩) ?rest1003
          case hy1003 => (intro W hW; obtain ⟨f1, f2, f3, f4, f5, f6⟩ := hW; go_simp; try with_reducible rfl)
          simp only [Act.put, List.setIfInBounds_toArray, List.set_cons_zero, List.set_cons_succ]
          refine' wpAnyK_take (i := 3) (oi := { dst := some 64, op := Op.move (Operand.tmp 13), type := 3, pos := "law.go:178", after := #[], guard := none }) (v := ?v1004) rfl (by kernel_rfl) (by kernel_rfl) (by kernel_rfl) [] (by kernel_rfl) (by decide) (by kernel_rfl) (by kernel_rfl) (fun _ _ _ h => h) hS0 (.inl ⟨by first | rfl | simp [Region.wanted, yielded], ?hy1004⟩) ?rest1004
          case hy1004 => (intro W hW; obtain ⟨f1, f2, f3, f4, f5, f6⟩ := hW; go_simp; try with_reducible rfl)
          simp only [Act.put, List.setIfInBounds_toArray, List.set_cons_zero, List.set_cons_succ]
          refine' wpAnyK_take (i := 4) (oi := { dst := some 65, op := Op.indexAddr 22 (Operand.tmp 63) (Operand.tmp 64), type := 0, pos := "law.go:178", after := #[{ on := 2, ground := Ground.data }, { on := 3, ground := Ground.data }], guard := none }) (v := ?v1005) rfl (by kernel_rfl) (by kernel_rfl) (by kernel_rfl) [] (by kernel_rfl) (by decide) (by kernel_rfl) (by kernel_rfl) (fun _ _ _ h => h) hS0 (.inl ⟨by first | rfl | simp [Region.wanted, yielded], ?hy1005⟩) ?rest1005
          case hy1005 => (intro W hW; obtain ⟨f1, f2, f3, f4, f5, f6⟩ := hW; go_simp; try with_reducible rfl)
          simp only [Act.put, List.setIfInBounds_toArray, List.set_cons_zero, List.set_cons_succ]
          refine' wpAnyK_take (i := 5) (oi := { dst := some 66, op := Op.load 32 (Operand.tmp 65), type := 32, pos := "law.go:178", after := #[{ on := 4, ground := Ground.data }], guard := none }) (v := ?v1006) rfl (by kernel_rfl) (by kernel_rfl) (by kernel_rfl) [] (by kernel_rfl) (by decide) (by kernel_rfl) (by kernel_rfl) (fun _ _ _ h => h) hS0 (.inl ⟨by first | rfl | simp [Region.wanted, yielded], ?hy1006⟩) ?rest1006
          case hy1006 => (intro W hW; obtain ⟨f1, f2, f3, f4, f5, f6⟩ := hW; go_simp; try with_reducible rfl)
          simp only [Act.put, List.setIfInBounds_toArray, List.set_cons_zero, List.set_cons_succ]
          refine wpAnyK_ready (rs := [6]) (by kernel_rfl) (by simp) ?_
          refine AllReadyK.cons (o := { dst := some 67, op := Op.call { callee := Callee.value (Operand.func 19), args := #[Operand.tmp 61, Operand.tmp 62, Operand.tmp 66], argTypes := #[25, 43, 32] }, type := 46, pos := "law.go:178", after := #[{ on := 0, ground := Ground.data }, { on := 1, ground := Ground.data }, { on := 5, ground := Ground.data }], guard := none }) rfl (fun KK hK => ?_) (AllReadyK.nil)
          try simp only [List.getElem_toArray, List.getElem_cons_succ, List.getElem_cons_zero]
          go_simp
          refine (HACT.out _ _ p ra nq rc g (8 * i) HLIM.out P1.out.qd).mono ?_
          rintro e w2 ⟨p', ra', n', rc', g', K2, rfl, k12, hq2, hm2⟩
          obtain ⟨hb72, ht2, hst⟩ := P1.out.step k12 hq2 hm2
          have HB72 := Lib.hid hb72
          have HST := Lib.hid hst
          have hS2 : (fun W : World => W.cell? ⟨B, 0, none⟩ = some (.slice ra nq rc) ∧ W.cell? ⟨B, 1, none⟩ = some (.int .i64 g) ∧ W.cell? ⟨B, 2, none⟩ = some (.int .i64 m) ∧ W.cell? ⟨b, off + i * 3, none⟩ = some (.int .i64 zw) ∧ W.cell? ⟨b, off + i * 3 + 1, none⟩ = some (.int .i64 zn) ∧ W.cell? ⟨b, off + i * 3 + 2, none⟩ = some (.slice z.a zL z.c)) w2 := HSS.out w2 hq2.below hb72
          clear hq2 hm2 k12 hb72 ht2 hst
          refine hK.out _ _ (fun _ => hS2) ?_
          clear hK KK
          try simp only [Act.put, List.setIfInBounds_toArray, List.set_cons_zero, List.set_cons_succ]
          refine' wpAnyK_take (i := 7) (oi := { dst := some 60, op := Op.move (Operand.tmp 67), type := 46, pos := "law.go:178", after := #[{ on := 6, ground := Ground.data }], guard := none }) (v := ?v1007) rfl (by kernel_rfl) (by kernel_rfl) (by kernel_rfl) [] (by kernel_rfl) (by decide) (by kernel_rfl) (by kernel_rfl) (fun _ _ _ h => h) hS2 (.inl ⟨by first | rfl | simp [Region.wanted, yielded], ?hy1007⟩) ?rest1007
          case hy1007 => (intro W hW; obtain ⟨f1, f2, f3, f4, f5, f6⟩ := hW; go_simp; try with_reducible rfl)
          simp only [Act.put, List.setIfInBounds_toArray, List.set_cons_zero, List.set_cons_succ]
          refine' wpAnyK_take (i := 8) (oi := { dst := some 68, op := Op.extract (Operand.tmp 60) 0, type := 25, pos := "law.go:178", after := #[{ on := 7, ground := Ground.data }], guard := none }) (v := ?v1008) rfl (by kernel_rfl) (by kernel_rfl) (by kernel_rfl) [] (by kernel_rfl) (by decide) (by kernel_rfl) (by kernel_rfl) (fun _ _ _ h => h) hS2 (.inl ⟨by first | rfl | simp [Region.wanted, yielded], ?hy1008⟩) ?rest1008
          case hy1008 => (intro W hW; obtain ⟨f1, f2, f3, f4, f5, f6⟩ := hW; go_simp; try with_reducible rfl)
          simp only [Act.put, List.setIfInBounds_toArray, List.set_cons_zero, List.set_cons_succ]
          refine' wpAnyK_take (i := 9) (oi := { dst := some 69, op := Op.extract (Operand.tmp 60) 1, type := 43, pos := "law.go:178", after := #[{ on := 7, ground := Ground.data }, { on := 11, ground := Ground.gcOnly Departure.lateStores }], guard := none }) (v := ?v1009) rfl (by kernel_rfl) (by kernel_rfl) (by kernel_rfl) [] (by kernel_rfl) (by decide) (by kernel_rfl) (by kernel_rfl) (fun _ _ _ h => h) hS2 (.inl ⟨by first | rfl | simp [Region.wanted, yielded], ?hy1009⟩) ?rest1009
          case hy1009 => (intro W hW; obtain ⟨f1, f2, f3, f4, f5, f6⟩ := hW; go_simp; try with_reducible rfl)
          simp only [Act.put, List.setIfInBounds_toArray, List.set_cons_zero, List.set_cons_succ]
          refine' wpAnyK_take (i := 11) (oi := { dst := some 9, op := Op.assign (Operand.tmp 68), type := 25, pos := "law.go:178", after := #[{ on := 8, ground := Ground.data }, { on := 6, ground := Ground.chain }, { on := 0, ground := Ground.phase }, { on := 1, ground := Ground.phase }, { on := 2, ground := Ground.phase }, { on := 3, ground := Ground.phase }, { on := 4, ground := Ground.phase }, { on := 5, ground := Ground.phase }, { on := 6, ground := Ground.phase }, { on := 7, ground := Ground.phase }, { on := 8, ground := Ground.phase }, { on := 9, ground := Ground.textOnly Departure.lateStores }, { on := 10, ground := Ground.textOnly Departure.lateStores }], guard := none }) (v := ?v1010) rfl (by kernel_rfl) (by kernel_rfl) (by kernel_rfl) [] (by kernel_rfl) (by decide) (by kernel_rfl) (by kernel_rfl) (fun _ _ _ h => h) hS2 (.inl ⟨by first | rfl | simp [Region.wanted, yielded], ?hy1010⟩) ?rest1010
          case hy1010 => (intro W hW; obtain ⟨f1, f2, f3, f4, f5, f6⟩ := hW; go_simp; try with_reducible rfl)
          simp only [Act.put, List.setIfInBounds_toArray, List.set_cons_zero, List.set_cons_succ]
          refine wpAnyK_ready (rs := [10, 12]) (by kernel_rfl) (by simp) ?_
          refine AllReadyK.cons (o := { dst := some 70, op := Op.extract (Operand.tmp 60) 2, type := 4, pos := "law.go:178", after := #[{ on := 7, ground := Ground.data }, { on := 12, ground := Ground.gcOnly Departure.lateStores }], guard := none }) rfl (fun KK hK => ?_) (AllReadyK.cons (o := { dst := none, op := Op.store 43 (Operand.tmp 11) (Operand.tmp 69), type := 0, pos := "law.go:178", after := #[{ on := 9, ground := Ground.data }, { on := 11, ground := Ground.chain }, { on := 0, ground := Ground.phase }, { on := 1, ground := Ground.phase }, { on := 2, ground := Ground.phase }, { on := 3, ground := Ground.phase }, { on := 4, ground := Ground.phase }, { on := 5, ground := Ground.phase }, { on := 6, ground := Ground.phase }, { on := 7, ground := Ground.phase }, { on := 8, ground := Ground.phase }, { on := 9, ground := Ground.phase }, { on := 10, ground := Ground.textOnly Departure.lateStores }, { on := 11, ground := Ground.phase }], guard := none }) rfl (fun KK hK => ?_) (AllReadyK.nil))
          · try simp only [List.getElem_toArray, List.getElem_cons_succ, List.getElem_cons_zero]
            go_simp
            refine hK.out _ _ (fun _ => hS2) ?_
            clear hK KK
            try simp only [Act.put, List.setIfInBounds_toArray, List.set_cons_zero, List.set_cons_succ]
            refine wpAnyK_ready (rs := [12]) (by kernel_rfl) (by simp) ?_
            refine AllReadyK.cons (o := { dst := none, op := Op.store 43 (Operand.tmp 11) (Operand.tmp 69), type := 0, pos := "law.go:178", after := #[{ on := 9, ground := Ground.data }, { on := 11, ground := Ground.chain }, { on := 0, ground := Ground.phase }, { on := 1, ground := Ground.phase }, { on := 2, ground := Ground.phase }, { on := 3, ground := Ground.phase }, { on := 4, ground := Ground.phase }, { on := 5, ground := Ground.phase }, { on := 6, ground := Ground.phase }, { on := 7, ground := Ground.phase }, { on := 8, ground := Ground.phase }, { on := 9, ground := Ground.phase }, { on := 10, ground := Ground.textOnly Departure.lateStores }, { on := 11, ground := Ground.phase }], guard := none }) rfl (fun KK hK => ?_) (AllReadyK.nil)
            try simp only [List.getElem_toArray, List.getElem_cons_succ, List.getElem_cons_zero]
            obtain ⟨s0, s1, s2⟩ := HB72.out.cells
            have s3 := frozen_blk HB72.out 0
            have s4 := frozen_blk HB72.out 1
            have s5 := frozen_blk HB72.out 2
            have s6 := blk_lt HB72.out
            go_simp
            clear s0 s1 s2 s3 s4 s5 s6
            refine hK.out _ _ (fun h => absurd (show true = false from h) (by decide)) ?_
            clear hK KK
            try simp only [Act.put, List.setIfInBounds_toArray, List.set_cons_zero, List.set_cons_succ]
            refine wpAnyK_done (by kernel_rfl) ?_ _
            refine NoPanic.normal ?_
            obtain ⟨K3, hcl⟩ := HST.out
            have HCl := Lib.hid hcl
            obtain ⟨w3, hw3⟩ : ∃ W, W = (((w2.setCell ⟨B, 0, none⟩ (.slice ra' n' rc')).setCell ⟨B, 1, none⟩ (.int .i64 g')).setCell ⟨B, 2, none⟩ (.int .i64 m)) := ⟨_, rfl⟩
            rw [← hw3] at HCl ⊢
            clear HST hw3 hcl HB72 hS2 hS0
            go_wp2_with fail
            go_roundg (n - (i + 1))
            case measure => have := HG.out; omega
            case rel => exact ⟨i + 1, p', rfl, by go_num, by omega, rfl, _, _, _, _, _, { HCl.out with qd := HCl.out.qd.wide (by omega) }⟩
          · try simp only [List.getElem_toArray, List.getElem_cons_succ, List.getElem_cons_zero]
            obtain ⟨s0, s1, s2⟩ := HB72.out.cells
            have s3 := frozen_blk HB72.out 0
            have s4 := frozen_blk HB72.out 1
            have s5 := frozen_blk HB72.out 2
            have s6 := blk_lt HB72.out
            go_simp
            clear s0 s1 s2 s3 s4 s5 s6
            refine hK.out _ _ (fun h => absurd (show true = false from h) (by decide)) ?_
            clear hK KK
            try simp only [Act.put, List.setIfInBounds_toArray, List.set_cons_zero, List.set_cons_succ]
            refine wpAnyK_ready (rs := [10]) (by kernel_rfl) (by simp) ?_
            refine AllReadyK.cons (o := { dst := some 70, op := Op.extract (Operand.tmp 60) 2, type := 4, pos := "law.go:178", after := #[{ on := 7, ground := Ground.data }, { on := 12, ground := Ground.gcOnly Departure.lateStores }], guard := none }) rfl (fun KK hK => ?_) (AllReadyK.nil)
            try simp only [List.getElem_toArray, List.getElem_cons_succ, List.getElem_cons_zero]
            go_simp
            refine hK.out _ _ (fun h => absurd (show true = false from h) (by decide)) ?_
            clear hK KK
            try simp only [Act.put, List.setIfInBounds_toArray, List.set_cons_zero, List.set_cons_succ]
            refine wpAnyK_done (by kernel_rfl) ?_ _
            refine NoPanic.normal ?_
            obtain ⟨K3, hcl⟩ := HST.out
            have HCl := Lib.hid hcl
            obtain ⟨w3, hw3⟩ : ∃ W, W = (((w2.setCell ⟨B, 0, none⟩ (.slice ra' n' rc')).setCell ⟨B, 1, none⟩ (.int .i64 g')).setCell ⟨B, 2, none⟩ (.int .i64 m)) := ⟨_, rfl⟩
            rw [← hw3] at HCl ⊢
            clear HST hw3 hcl HB72 hS2 hS0
            go_wp2_with fail
            go_roundg (n - (i + 1))
            case measure => have := HG.out; omega
            case rel => exact ⟨i + 1, p', rfl, by go_num, by omega, rfl, _, _, _, _, _, { HCl.out with qd := HCl.out.qd.wide (by omega) }⟩
        · obtain rfl : i = n := by omega
          have d1 : decide ((i : Int) < i) = false := by simp
          obtain ⟨wq, hwq⟩ : ∃ W, W = wr := ⟨_, rfl⟩
          subst hwq
          have hn30 := HF1.out.1
          have hcl := HCL.out
          obtain ⟨hks, hle, fs, part, bs, ls, h1, h2, h3, h4, h5⟩ := hcl.qd
          have hnq : nq ≤ 400 := by omega
          have H1 := Lib.hid h1
          have H2 := Lib.hid h2
          have H345 := Lib.hid (And.intro hks (And.intro h3 (And.intro h4 h5)))
          have HCp := Lib.hid h1.copy
          clear HF1 HA hi HG hlt HLIM hks h1 h2 h3 h4 h5 hcl hle
          go_wp2_with (go_at_call 23; fail)
          refine HCp.out.mono ?_
          rintro e v1 ⟨c, rfl, hc1, hb1⟩
          have hwq := HCL.out.qd.below.size
          obtain ⟨hks, h3, h4, h5⟩ := H345.out
          obtain ⟨K1, hK1⟩ : ∃ K1, K1 = More K wq v1 := ⟨_, rfl⟩
          have HK1 : Hid (∀ k, wq.heap.size ≤ k → k < v1.heap.size → K1 k) := Lib.hid (fun k g1 g2 => by rw [hK1]; exact .inr ⟨g1, g2⟩)
          have HK01 : Hid (∀ k, K k → K1 k) := Lib.hid (fun k g1 => by rw [hK1]; exact .inl g1)
          have HKs1 : Hid (∀ k, K1 k → w.heap.size ≤ k) := Lib.hid (by rw [hK1]; exact More.lo hks hwq)
          have O1 : Hid (OS w K1 p m fs part bs v1) := Lib.hid (by rw [hK1]; exact H1.out.grow hb1)
          have HC1 := Lib.hid hc1
          have D1 : Hid (DQ (fun k => K k ∧ k < wq.heap.size) v1 ra rc ls) := Lib.hid ((H2.out.mono (fun k g1 g2 => ⟨g2, g1⟩)).below hb1)
          have hs1 := hb1.size
          have HACT := Lib.hid (act_any (w := w) (Ka := fun k => K k ∧ k < wq.heap.size) x O1.out HKs1.out (D1.out.mono (fun k _ g2 => ⟨HK01.out k g2.1, g2⟩)) h3 h4 (by omega) (HX.out.below O1.out.below) HX3.out)
          unfold Acted dagg zagg at HACT
          rw [← HXL.out] at HACT
          have BX1 := Lib.hid (HCL.out.box.bel hb1)
          have BT1 := Lib.hid (HCL.out.bt.bel hb1)
          clear hK1 hc1 hb1 HCp H1 H2 c0 c1 c2 l0
          obtain ⟨c0, c1, c2⟩ := BX1.out.cells
          obtain ⟨⟨x0, x1, x2⟩, _, _, _⟩ := BT1.out.cells
          rw [← HXL.out] at x2
          have l0 := blk_lt BX1.out
          have l1 : w.heap.size < v1.heap.size := by have := BT1.out.lt; omega
          go_wp2_with (go_at_call 19; fail)
          refine HACT.out.mono ?_
          rintro e v2 ⟨p2, part2, fs2, bs2, ls2, g2, n2, ra2, rc2, K2, rfl, hn2, hst2, hd2, ht2, hle2, hby2⟩
          have hm2 := hst2.mod
          have hs2 := hm2.size
          have hwlt := HCL.out.bt.lt
          have HM2 := Lib.hid hm2
          have HST2 := Lib.hid hst2
          have HD2 := Lib.hid hd2
          have HT2 := Lib.hid (And.intro hn2 (And.intro ht2 (hby2 h5)))
          have BX2 := Lib.hid (BX1.out.mod hm2 (fun e => e.1 (HK01.out _ HCL.out.kb)))
          have BT2 := Lib.hid (BT1.out.keep (HK01.out _ HCL.out.kt) (HK01.out _ HCL.out.kr) hm2)
          have D2 := Lib.hid (D1.out.mod hm2 (fun k g1 e => e.1 (HK01.out k g1.1)))
          have C2 : Hid (OS w (More (fun k => w.heap.size ≤ k ∧ k < wq.heap.size) v1 v2) c m fs part bs v2) := Lib.hid (HC1.out.turn2 (S := fun k => (¬ K1 k ∧ w.heap.size ≤ k) ∧ k < v1.heap.size) ⟨hm2.os, hm2.tape, hm2.output, hm2.size, fun k hk hn => hm2.block k hk (fun e => hn ⟨e, hk⟩)⟩ (fun k e => ⟨e.1.2, by
            rcases Nat.lt_or_ge k wq.heap.size with hlt | hge
            · exact hlt
            · exact absurd (HK1.out k hge e.2) e.1.1⟩) (fun k e => e.1.2))
          obtain ⟨X15, hX15⟩ : ∃ B, B = v2.heap.size := ⟨_, rfl⟩
          obtain ⟨v3, hv3⟩ : ∃ W, W = v2.alloc (.cells #[.slice ra2 n2 rc2, .int .i64 g2, .int .i64 m] 43) := ⟨_, rfl⟩
          have hb3 : Below v2.heap.size v2 v3 := by rw [hv3]; exact (Below.refl _ v2).alloc (Nat.le_refl _) _
          have hk3 : Box X15 ra2 n2 rc2 g2 m v3 := by rw [hv3, hX15]; exact alloc_blk_new v2 _
          obtain ⟨Kc, hKc⟩ : ∃ Kc, Kc = More (More (fun k => w.heap.size ≤ k ∧ k < wq.heap.size) v1 v2) v2 v3 := ⟨_, rfl⟩
          have HKc : Hid (∀ k, w.heap.size ≤ k → k < v3.heap.size → Kc k ∨ (wq.heap.size ≤ k ∧ k < v1.heap.size)) := Lib.hid (fun k g1 g2 => by
            rw [hKc]
            by_cases a1 : k < wq.heap.size
            · exact .inl (.inl (.inl ⟨g1, a1⟩))
            · by_cases a2 : k < v1.heap.size
              · exact .inr ⟨by omega, a2⟩
              · by_cases a3 : k < v2.heap.size
                · exact .inl (.inl (.inr ⟨by omega, a3⟩))
                · exact .inl (.inr ⟨by omega, g2⟩))
          have HKc0 : Hid (∀ k, w.heap.size ≤ k → k < wq.heap.size → Kc k) := Lib.hid (fun k g1 g2 => by rw [hKc]; exact .inl (.inl ⟨g1, g2⟩))
          have HKc1 : Hid (∀ k, v1.heap.size ≤ k → k < v3.heap.size → Kc k) := Lib.hid (fun k g1 g2 => by
            rcases HKc.out k (by omega) g2 with h | h
            · exact h
            · omega)
          have HKcs : Hid (∀ k, Kc k → w.heap.size ≤ k) := Lib.hid (by rw [hKc]; exact More.lo (More.lo (fun k g => g.1) (by omega)) (by omega))
          have C3 : Hid (OS w Kc c m fs part bs v3) := Lib.hid (by rw [hKc]; exact C2.out.grow hb3)
          have Q3 := Lib.hid (hst2.os.grow hb3)
          have D3 := Lib.hid (D2.out.below hb3)
          have DX3 := Lib.hid ((hd2.mono (U := fun q => (K2 q ∧ ((K q ∧ q < wq.heap.size) ∨ v1.heap.size ≤ q)) ∧ q < v2.heap.size) (fun k g1 g2 => ⟨g2, g1⟩)).below hb3)
          have BX3 := Lib.hid (BX2.out.bel hb3)
          have BT3 := Lib.hid (BT2.out.bel hb3)
          have K15 := Lib.hid hk3
          have hX15l : v2.heap.size ≤ X15 := by omega
          have E3 := Lib.hid hv3
          have E15 := Lib.hid hX15
          have hs3 := hb3.size
          have HACY0 := Lib.hid (act_any (w := w) (Ka := fun k => K k ∧ k < wq.heap.size) y C3.out HKcs.out (D3.out.mono (fun k _ g2 => ⟨HKc0.out k (hks k g2.1) g2.2, g2⟩)) h3 h4 (by omega) (HY.out.below C3.out.below) HY3.out)
          unfold Acted dagg zagg at HACY0
          rw [← HYL.out] at HACY0
          clear hKc hm2 hst2 hd2 ht2 hby2 C2 D2 BX2 BT2 c0 c1 c2 x0 x1 x2 l0 l1 HACT hX15
          obtain ⟨c0, c1, c2⟩ := BX3.out.cells
          obtain ⟨_, ⟨y0, y1, y2⟩, _, _⟩ := BT3.out.cells
          rw [← HYL.out] at y2
          have l0 := blk_lt BX3.out
          have l1 : w.heap.size < v3.heap.size := by omega
          rw [hv3] at c0 c1 c2 y0 y1 y2 l0 l1
          clear hv3 hb3 hk3
          go_wp2_with (go_at_call 19; fail)
          rw [← E3.out] at l1 l0 ⊢
          rw [← E15.out]
          clear c0 c1 c2 y0 y1 y2
          refine HACY0.out.mono ?_
          rintro e v4 ⟨p4, part4, fs4, bs4, ls4, g4, n4, ra4, rc4, K4, rfl, hn4, hst4, hd4, ht4, hle4, hby4⟩
          have hm4 := hst4.mod
          have hs4 := hm4.size
          have hwlt3 : w.heap.size + 1 < wq.heap.size := by omega
          have BT4 := BT3.out.keep (HKc0.out _ (Nat.le_refl _) (by omega)) (HKc0.out _ (by omega) hwlt3) hm4
          have KX15 : Kc X15 := HKc1.out _ (by omega) (blk_lt K15.out)
          have B15 := K15.out.mod hm4 (fun e => e.1 KX15)
          have Q4 := Q3.out.turn2 (S := fun k => (¬ Kc k ∧ w.heap.size ≤ k) ∧ k < v3.heap.size) ⟨hm4.os, hm4.tape, hm4.output, hm4.size, fun k hk hn => hm4.block k hk (fun e => hn ⟨e, hk⟩)⟩ (fun k e => by
            rcases HKc.out k e.1.2 e.2 with h | h
            · exact absurd h e.1.1
            · exact .inl (HST2.out.sub k (HK1.out k h.1 h.2))) (fun k e => e.1.2)
          have DX4 := DX3.out.mod hm4 (fun k g1 e => by
            obtain ⟨⟨_, g2⟩, g3⟩ := g1
            rcases g2 with g2 | g2
            · exact e.1 (HKc0.out k (hks k g2.1) g2.2)
            · exact e.1 (HKc1.out k g2 (by omega)))
          obtain ⟨X17, hX17⟩ : ∃ B, B = v4.heap.size := ⟨_, rfl⟩
          obtain ⟨v5, hv5⟩ : ∃ W, W = v4.alloc (.cells #[.slice ra4 n4 rc4, .int .i64 g4, .int .i64 m] 43) := ⟨_, rfl⟩
          have hb5 : Below v4.heap.size v4 v5 := by rw [hv5]; exact (Below.refl _ v4).alloc (Nat.le_refl _) _
          have hk5 : Box X17 ra4 n4 rc4 g4 m v5 := by rw [hv5, hX17]; exact alloc_blk_new v4 _
          obtain ⟨hn2, ht2, hby2⟩ := HT2.out
          have hby4 := hby4 h5
          have Q5 := Q4.grow hb5
          have C5 := hst4.os.grow hb5
          have DX5 := DX4.below hb5
          have DY5 := hd4.below hb5
          have i2 := Q5.inv
          have i4 := C5.inv
          have n2l := ht2.n i2
          have n4l := ht4.n i4
          have b2l := Q5.bounds
          have b4l := C5.bounds
          obtain ⟨SB, hSB⟩ : ∃ b, b = decide (m = m ∧ g2 = g4 ∧ lens ls2 = lens ls4 ∧ ls2.flatten.drop g2 = ls4.flatten.drop g4) := ⟨_, rfl⟩
          have hSB2 : decide (m = m ∧ part2 = part4 ∧ fs2 = fs4 ∧ bs2 = bs4) = SB := by
            rw [hSB, ht2.part, ht4.part, ht2.fs, ht4.fs, ht2.bs, ht4.bs]
            exact decide_eq_decide.2 (by rw [Int.ofNat_inj])
          have hSB3 : decide (m = m ∧ part4 = part2 ∧ fs4 = fs2 ∧ bs4 = bs2) = SB := by
            rw [← hSB2]
            exact decide_eq_decide.2 ⟨fun ⟨a, b, c, d⟩ => ⟨a, b.symm, c.symm, d.symm⟩, fun ⟨a, b, c, d⟩ => ⟨a, b.symm, c.symm, d.symm⟩⟩
          have hhead : ∀ {ls : List (List Int)} {g : Nat} {fs bs : List Int} {part : Int}, Tie ls g fs part bs → OInv fs part bs → ∀ x l, ls = x :: l → g ≤ x.length := fun {ls g fs bs part} ht hi x l e => by
            have := hi.head x.length (lens l) (by rw [ht.fs, e]; rfl)
            rw [ht.part] at this
            omega
          have HRS : Hid (Calls Try.prog 24 #[.agg #[.slice ra2 n2 rc2, .int .i64 g2, .int .i64 m], .agg #[.slice ra4 n4 rc4, .int .i64 g4, .int .i64 m]] v5 fun e w' => e = .returned (.bool SB) ∧ Below v5.heap.size v5 w') := Lib.hid (by
            have := refSame_any ra2 ra4 n2 n4 rc2 rc4 g2 g4 m m ls2 ls4 v5 (by have := DX5.at_; rwa [hn2] at this) (by have := DY5.at_; rwa [hn4] at this) hby2 hby4 (hhead ht2 i2) (hhead ht4 i4) (ht2.big i2) (ht4.big i4) (by omega) (by omega)
            rw [← hSB] at this
            exact this)
          have HIQ : Hid (∀ W, Below v5.heap.size v5 W → Calls Try.prog 20 #[.pointer (some ⟨p2, 0, none⟩), .agg #[.slice ra2 n2 rc2, .int .i64 g2, .int .i64 m], .int .i64 9999] W (Yes W)) := Lib.hid (fun W hW => by
            have := is_o ra2 rc2 g2 n2 ls2 9999 (Q5.grow hW) (DX5.below hW) hn2 ht2
            unfold dagg at this
            exact this)
          have HIC : Hid (∀ W, Below v5.heap.size v5 W → Calls Try.prog 20 #[.pointer (some ⟨p4, 0, none⟩), .agg #[.slice ra4 n4 rc4, .int .i64 g4, .int .i64 m], .int .i64 9999] W (Yes W)) := Lib.hid (fun W hW => by
            have := is_o ra4 rc4 g4 n4 ls4 9999 (C5.grow hW) (DY5.below hW) hn4 ht4
            unfold dagg at this
            exact this)
          have HSQ : Hid (∀ W, Below v5.heap.size v5 W → Calls Try.prog 25 #[.pointer (some ⟨p2, 0, none⟩), .pointer (some ⟨p4, 0, none⟩)] W fun e w' => e = .returned (.bool SB) ∧ Below W.heap.size W w') := Lib.hid (fun W hW => by
            have := (Q5.grow hW).same (C5.grow hW)
            rw [hSB2] at this
            exact this.mono (fun e w' ⟨a, q, b⟩ => ⟨a, by rw [b]; exact Below.drewN' W q⟩))
          have HSC : Hid (∀ W, Below v5.heap.size v5 W → Calls Try.prog 25 #[.pointer (some ⟨p4, 0, none⟩), .pointer (some ⟨p2, 0, none⟩)] W fun e w' => e = .returned (.bool SB) ∧ Below W.heap.size W w') := Lib.hid (fun W hW => by
            have := (C5.grow hW).same (Q5.grow hW)
            rw [hSB3] at this
            exact this.mono (fun e w' ⟨a, q, b⟩ => ⟨a, by rw [b]; exact Below.drewN' W q⟩))
          have HQ3c : Hid (∃ q3, ∀ W, Below v5.heap.size v5 W → W.cell? ⟨p2, 3, none⟩ = some (.pointer (some ⟨q3, 0, none⟩))) := Lib.hid (by
            obtain ⟨sv, gg, q3, vs, a1, _⟩ := Q5.at_
            exact ⟨q3, fun W hW => (hW.cell (p := ⟨p2, 3, none⟩) a1.lt).trans a1.c3⟩)
          have B15' := Lib.hid (B15.bel hb5)
          have B17 := Lib.hid hk5
          have T5 := Lib.hid (BT4.bel hb5)
          have E5 := Lib.hid hv5
          have E17 := Lib.hid hX17
          clear hSB hSB2 hSB3 hhead Q4 Q5 C5 DX4 DX5 DY5 hst4 hd4 ht4 hm4 hn4 hn2 ht2 hby2 hby4 i2 i4 n2l n4l b2l b4l KX15 B15 BT4 HACY0 C3 Q3 D3 DX3 BX3 BT3 K15 E3 E15 HM2 HST2 HD2 HT2 D1 O1 HC1 H345 HKc HKc0 HKc1 HKcs HK1 HK01 HKs1 BX1 BT1 HCL l0 l1 hle2 hle4 h3 h4 h5 hks
          obtain ⟨c0, c1, c2⟩ := B15'.out.cells
          obtain ⟨d0, d1, d2⟩ := B17.out.cells
          have l0 := blk_lt B15'.out
          have l1 := blk_lt B17.out
          rw [hv5] at c0 c1 c2 d0 d1 d2 l0 l1
          clear hv5 hb5 hk5
          go_wp2_with (go_at_call 24; fail)
          rw [← E5.out, ← E17.out]
          clear c0 c1 c2 d0 d1 d2 l0 l1 hX17 E17 E5
          refine HRS.out.mono ?_
          rintro e v6 ⟨rfl, hb6⟩
          have HB6 := Lib.hid hb6
          obtain ⟨c0, c1, c2⟩ := (B15'.out.bel hb6).cells
          have l0 := blk_lt (B15'.out.bel hb6)
          clear hb6 HRS
          go_wp2_with (first | (go_at_call 10; refine (HNum.out _ _).mono ?_; rintro e w' ⟨rfl, rfl⟩) | (go_at_call 20; fail))
          refine (HIQ.out v6 HB6.out).mono ?_
          rintro e v7 ⟨rfl, hb7⟩
          have HB7 := Lib.hid (HB6.out.trans (hb7.mono HB6.out.size))
          clear c0 c1 c2 l0 hb7
          obtain ⟨c0, c1, c2⟩ := (B17.out.bel HB7.out).cells
          have l0 := blk_lt (B17.out.bel HB7.out)
          go_wp2_with (go_at_call 20; fail)
          refine (HIC.out v7 HB7.out).mono ?_
          rintro e v8 ⟨rfl, hb8⟩
          have HB8 := Lib.hid (HB7.out.trans (hb8.mono HB7.out.size))
          clear c0 c1 c2 l0 hb8
          have hSS : (SB != SB) = false := by simp
          go_wp2_with (go_at_call 25; fail)
          refine (HSQ.out v8 HB8.out).mono ?_
          rintro e v9 ⟨rfl, hb9⟩
          have HB9 := Lib.hid (HB8.out.trans (hb9.mono HB8.out.size))
          clear hb9
          go_wp2_with (go_at_call 25; fail)
          refine (HSC.out v9 HB9.out).mono ?_
          rintro e v10 ⟨rfl, hb10⟩
          have HB10 := Lib.hid (HB9.out.trans (hb10.mono HB9.out.size))
          have T10 := Lib.hid (T5.out.bel HB10.out)
          clear hb10 HB6 HB7 HB8 HB9 hSS HIQ HIC HSQ HSC B15' B17
          go_upto_if 131 with fail
          go_cut [20] from 132 to 133 (fun s wx => ∃ a, s = .pointer a ∧ NilO wx a ∧ Below v10.heap.size v10 wx)
          case first =>
            cases zero with
            | false =>
              go_wp2
              go_meet
              exact ⟨none, rfl, .inl rfl, Below.refl _ _⟩
            | true =>
              go_wp2
              go_meet
              exact ⟨some ⟨v10.heap.size, 0, none⟩, rfl, .inr ⟨v10.heap.size, rfl, by simp, cell_blk (alloc_blk_new v10 _) 3 _ rfl⟩, (Below.refl _ v10).alloc (Nat.le_refl _) _⟩
          case rest =>
            obtain ⟨an, rfl, hN, hbc⟩ := hcut
            have HBC := Lib.hid (HB10.out.trans (hbc.mono HB10.out.size))
            have TC := Lib.hid (T10.out.bel hbc)
            have N1 := Lib.hid (Take_onone an 1 wc hN)
            have N2 := Lib.hid (Clear_onone an wc hN)
            have N3 := Lib.hid (All_onone an wc hN)
            have HN := Lib.hid hN
            clear hN hbc HB10 T10
            go_wp2_with (first | (go_at_call 14; refine N1.out.mono ?_; rintro e w' ⟨rfl, rfl⟩) | (go_at_call 13; refine N2.out.mono ?_; rintro e w' ⟨rfl, rfl⟩) | (go_at_call 22; fail))
            refine N3.out.mono ?_
            rintro e v12 ⟨rfl, hk, hb⟩
            obtain ⟨Bn, hBn⟩ : ∃ B, B = wc.heap.size := ⟨_, rfl⟩
            have hBl : Bn < v12.heap.size := by rw [hBn]; exact blk_lt hk
            rw [← hBn] at hk ⊢
            have HN12 := Lib.hid (HN.out.below hb)
            have HB12 := Lib.hid (HBC.out.trans (hb.mono HBC.out.size))
            have T12 := Lib.hid (TC.out.bel hb)
            have HC12 := Lib.hid (cell_blk hk 0 _ rfl)
            clear hk hb N1 N2 N3 HN HBC TC hBn
            go_wp2_with fail
            refine (wpIn_wide (n := 7)).1 ?_
            refine' wpIn_range_deep (F := Fence.wide) rfl (by omega) (gf := 46) (lb := #[.pointer (some ⟨Bn, 0, none⟩)]) rfl trivial (enters_of Try.func46 (by kernel_rfl) rfl) (n₀ := v12.heap.size) (Nat.le_refl _)
              (All46_deep 6 (by omega) Bn v12.heap.size none 0 0 [] (by omega) v12 (hBl) (Nat.le_refl _) HC12.out (fun hp => by omega)) (fun _ => rfl)
              (fun _ W' => Below v12.heap.size v12 W') (fun _ _ _ => False) (fun s U V hs hb => hs.trans hb) (fun c s U V hs hb => hs) (Below.refl _ _) _ ?assign1 ?body1 ?done1 ?stop1
            case assign1 =>
              intro l x W K hK
              gi_wp2
              exact hK
            case body1 =>
              intro l pre x W hW hI hlt
              exact absurd hlt (by omega)
            case stop1 =>
              rintro D c pre W hD hSp hIx hKd
              exact hIx.elim
            case done1 =>
              rintro D1 ys v13 hD1 rfl hI hKd1
              have HN13 := Lib.hid (HN12.out.below hI)
              have HB13 := Lib.hid (HB12.out.trans (hI.mono HB12.out.size))
              have T13 := Lib.hid (T12.out.bel hI)
              have HK13 := Lib.hid hKd1
              have hD1l := blk_lt hKd1
              have hl12 := T12.out.lt
              have hwD : w.heap.size + 1 < D1 := by omega
              clear hI hKd1 HN12 HB12 T12 HC12
              obtain ⟨w14, hw14⟩ : ∃ W, W = v13.alloc (.cells #[.string ⟨#[97]⟩] 9) := ⟨_, rfl⟩
              have hb14 : Below v13.heap.size v13 w14 := by rw [hw14]; exact (Below.refl _ v13).alloc (Nat.le_refl _) _
              have k14 : w14.heap[v13.heap.size]? = some (.cells #[.string ⟨#[97]⟩] 9 (0, 0)) := by rw [hw14]; exact alloc_blk_new _ _
              have HOf := Lib.hid (of_any v13.heap.size 1 1 [⟨#[97]⟩] w14 rfl (by omega) (blk_lt k14) (fun j hj => by
                obtain rfl : j = 0 := by omega
                exact cell_blk k14 0 _ rfl))
              have HB14 := Lib.hid hb14
              have E14 := Lib.hid hw14
              clear hb14 k14 hw14
              go_wp2_with (go_at_call 26; fail)
              rw [← E14.out]
              refine HOf.out.mono ?_
              rintro e w15 ⟨pa, pc, rfl, hb15, _, _⟩
              have hb := HB14.out.trans (hb15.mono HB14.out.size)
              have HN15 := Lib.hid (HN13.out.below hb)
              have T15 := Lib.hid (T13.out.bel hb)
              have HK15 := Lib.hid ((hb.block _ hD1l).trans HK13.out)
              have HB15 := Lib.hid (HB13.out.trans (hb.mono HB13.out.size))
              have hD15 : D1 < w15.heap.size := blk_lt HK15.out
              obtain ⟨q3, hq3⟩ := HQ3c.out
              have M1 := Lib.hid (Push_onone an pa 1 pc w15 HN15.out)
              have M2 := Lib.hid (Len_onone an w15 HN15.out)
              have M3 := Lib.hid (Frames_onone an w15 HN15.out)
              have M4 := Lib.hid (Begun_onone an w15 HN15.out)
              have M5 := Lib.hid (Room_onone an w15 HN15.out)
              have M6 := Lib.hid (Copy_onone an w15 HN15.out)
              have M7 := Lib.hid (Same_onone2 an none w15 HN15.out (.inl rfl))
              have M8 := Lib.hid (Same_oone p2 q3 an w15 (hq3 w15 HB15.out) HN15.out)
              clear hb15 hb hq3 HN13 T13 HK13 HB13 HOf HQ3c E14 HB14
              go_wp2_with (first | (go_at_call 11; refine M1.out.mono ?_; rintro e w' ⟨rfl, rfl⟩) | (go_at_call 10; refine (HNum.out _ _).mono ?_; rintro e w' ⟨rfl, rfl⟩) | (go_at_call 15; refine M2.out.mono ?_; rintro e w' ⟨rfl, rfl⟩) | (go_at_call 17; refine M3.out.mono ?_; rintro e w' ⟨rfl, rfl⟩) | (go_at_call 12; refine M4.out.mono ?_; rintro e w' ⟨rfl, rfl⟩) | (go_at_call 16; refine M5.out.mono ?_; rintro e w' ⟨rfl, rfl⟩) | (go_at_call 23; refine M6.out.mono ?_; rintro e w' ⟨rfl, rfl⟩) | (go_at_call 25; with_reducible refine M7.out.mono ?_; rintro e w' ⟨rfl, rfl⟩) | (go_at_call 25; with_reducible refine M8.out.mono ?_; rintro e w' ⟨rfl, rfl⟩) | (go_at_call 8; fail))
              refine (HWorks.out _).mono ?_
              rintro e w20 ⟨rfl, hb20⟩
              have T20 := Lib.hid (T15.out.bel hb20)
              have HK20 := Lib.hid ((hb20.block _ hD15).trans HK15.out)
              obtain ⟨_, _, c6, f6⟩ := T20.out.cells
              have hres := T20.out.lt
              clear hb20 M1 M2 M3 M4 M5 M6 M7 M8 T15 HK15 HN15 HB15
              go_wp2_with fail
              have hk1 := (KeepsOthers.setCell w20 ⟨w.heap.size + 1, 0, none⟩ (.bool true)).same D1 _ HK20.out rfl
              have hc6 := cell_kept (World.cell?_setCell_same' w20 ⟨w.heap.size + 1, 0, none⟩ (.bool true) (by rw [c6]; rfl)) (grownBy_putObj' _ D1 (.deferred none)) (fun r e => by cases e; exact ⟨_, hk1, rfl⟩)
              refine ⟨by simp, .inl ⟨_, _, rfl, run_takeDeferred hk1, ?_⟩⟩
              refine ⟨.bool true, ?_, rfl, (T20.out.below.setCell (p := ⟨w.heap.size + 1, 0, none⟩) (by simp) _).trans (belowK_b (w := w) (Nat.le_refl _) _ D1 _ _ (by omega) hk1 rfl rfl)⟩
              simp [results, Try.f6, go_sem, hc6]
end Go.Proofs.Ytneeagabmdpjgaa
