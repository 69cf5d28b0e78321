/-
  OutqAll, walked.
-/
import Derived.Test.YtneeagabmdpjgaaPt
import Derived.Test.YtneeagabmdpjgaaSb
namespace Go.Proofs.Ytneeagabmdpjgaa
open Go.RowKit Go.Shelf
set_option linter.unusedVariables false
set_option linter.unusedSimpArgs false
attribute [local go_sem] Oper.semAt_some
attribute [local go_sem] run_eql_func53

set_option maxHeartbeats 3200000 in
set_option maxRecDepth 100000 in
theorem all_any (m : Int) (ao : Option Addr) (n cap : Nat) (zs : List OV) (x y : OV) (w : World) (h : OActs w ao n zs) (hx : x.Ok (fun k => k < w.heap.size) w) (hy : y.Ok (fun k => k < w.heap.size) w) :
    Calls Try.prog 5 #[.int .i64 m, .slice ao n cap, .agg #[.int .i64 x.what, .int .i64 x.n, .slice x.a x.ls.length x.c, .int .i64 y.what, .int .i64 y.n, .slice y.a y.ls.length y.c]] w (Yes w) := by
  have HWorks := Lib.hid works_true
  have HNum := Lib.hid num_any
  have T1 := Lib.hid (Bt.start w x y)
  have HA := Lib.hid h
  have HX := Lib.hid hx
  have HY := Lib.hid hy
  obtain ⟨xL, hxL⟩ : ∃ L, L = x.ls.length := ⟨_, rfl⟩
  obtain ⟨yL, hyL⟩ : ∃ L, L = y.ls.length := ⟨_, rfl⟩
  obtain ⟨w1, hw1⟩ : ∃ W, W = (w.alloc (.cells #[.int .i64 x.what, .int .i64 x.n, .slice x.a xL x.c, .int .i64 y.what, .int .i64 y.n, .slice y.a yL y.c] 49)).alloc (.cells #[.bool false] 4) := ⟨_, rfl⟩
  rw [← hxL, ← hyL]
  rw [← hxL, ← hyL, ← hw1] at T1
  have HFew := Lib.hid (few_any ao n cap zs 30 w1 (h.below T1.out.below) (by decide))
  have E1 := Lib.hid hw1
  have HXL := Lib.hid hxL
  have HYL := Lib.hid hyL
  clear h hx hy hw1 hxL hyL
  refine (callsIn_wide (n := 7)).1 ?_
  refine callsIn_of_wp_marks Try.func5 rfl trivial ?_ rfl
  simp only [Try.ntmps5, List.size_toArray, List.length_cons, List.length_nil, Nat.reduceAdd, Nat.reduceSub, Array.replicate_succ, Array.replicate_zero, List.push_toArray, List.append_toArray, List.nil_append, List.cons_append]
  refine wpIn_wide.2 ?_
  go_wp2_with (go_at_call 7; fail)
  rw [← E1.out]
  refine HFew.out.mono ?_
  rintro e w2 ⟨b, rfl, hfew, rfl⟩
  obtain ⟨_, _, cr, fr⟩ := T1.out.cells
  have hl1 := T1.out.lt
  cases b with
  | false =>
    go_wp2_with fail
    refine (HWorks.out _).mono ?_
    rintro e w12 ⟨rfl, hb⟩
    have B12 := Lib.hid (T1.out.bel hb)
    obtain ⟨_, _, c6, f6⟩ := B12.out.cells
    have hl := B12.out.lt
    clear hb T1
    go_wp2_with fail
    refine ⟨.bool true, ?_, rfl, B12.out.below.setCell (p := ⟨w.heap.size + 1, 0, none⟩) (by simp) _⟩
    simp [results, Try.f5, go_sem, c6]
  | true =>
    have HF1 := Lib.hid (hfew rfl)
    have HFew2 := Lib.hid (few_any _ 2 2 [x, y] 2 _ (T1.out.acts HX.out HY.out) (by decide))
    have hl0 : w.heap.size < w1.heap.size := by omega
    clear hfew HFew
    go_wp2_with (go_at_call 7; fail)
    refine HFew2.out.mono ?_
    rintro e w2 ⟨b, rfl, hfew, rfl⟩
    cases b with
    | false =>
      go_wp2_with fail
      refine (HWorks.out _).mono ?_
      rintro e w12 ⟨rfl, hb⟩
      have B12 := Lib.hid (T1.out.bel hb)
      obtain ⟨_, _, c6, f6⟩ := B12.out.cells
      have hl := B12.out.lt
      clear hb T1
      go_wp2_with fail
      refine ⟨.bool true, ?_, rfl, B12.out.below.setCell (p := ⟨w.heap.size + 1, 0, none⟩) (by simp) _⟩
      simp [results, Try.f5, go_sem, c6]
    | true =>
      have HX3 := Lib.hid ((hfew rfl).2 0 (by omega))
      have HY3 := Lib.hid ((hfew rfl).2 1 (by omega))
      clear hfew HFew2
      by_cases hm0 : m < 0
      · have t0 : decide (m < 0) = true := by simpa using hm0
        go_wp2_with fail
        refine (HWorks.out _).mono ?_
        rintro e w12 ⟨rfl, hb⟩
        have B12 := Lib.hid (T1.out.bel hb)
        obtain ⟨_, _, c6, f6⟩ := B12.out.cells
        have hl := B12.out.lt
        clear hb T1
        go_wp2_with fail
        refine ⟨.bool true, ?_, rfl, B12.out.below.setCell (p := ⟨w.heap.size + 1, 0, none⟩) (by simp) _⟩
        simp [results, Try.f5, go_sem, c6]
      by_cases hm1 : 1048576 < m
      · have t0 : decide (m < 0) = false := by simpa using hm0
        have t1 : decide (1048576 < m) = true := by simpa using hm1
        go_wp2_with fail
        refine (HWorks.out _).mono ?_
        rintro e w12 ⟨rfl, hb⟩
        have B12 := Lib.hid (T1.out.bel hb)
        obtain ⟨_, _, c6, f6⟩ := B12.out.cells
        have hl := B12.out.lt
        clear hb T1
        go_wp2_with fail
        refine ⟨.bool true, ?_, rfl, B12.out.below.setCell (p := ⟨w.heap.size + 1, 0, none⟩) (by simp) _⟩
        simp [results, Try.f5, go_sem, c6]
      have t0 : decide (m < 0) = false := by simpa using hm0
      have t1 : decide (1048576 < m) = false := by simpa using hm1
      have HNew := Lib.hid (New_os m w w1 (by omega) (by omega) T1.out.below)
      have HRef := Lib.hid (fun w => refNew_any m w (by omega) (by omega))
      have HACX : Hid (∀ K1 W p ra nq rc g lim, lim ≤ 80000 → Qd w K1 m p ra nq rc g lim W → Calls Try.prog 19 #[.pointer (some ⟨p, 0, none⟩), .agg #[.slice ra nq rc, .int .i64 g, .int .i64 m], .agg #[.int .i64 x.what, .int .i64 x.n, .slice x.a xL x.c]] W fun e w' => ∃ (p' : Nat) (ra' : Option Addr) (n' rc' g' : Nat) (K' : Nat → Prop), e = .returned (.tuple #[.pointer (some ⟨p', 0, none⟩), .agg #[.slice ra' n' rc', .int .i64 g', .int .i64 m], .bool true]) ∧ (∀ q, K1 q → K' q) ∧ Qd w K' m p' ra' n' rc' g' (lim + 8) w' ∧ Mod (fun q => ¬ K1 q ∧ w.heap.size ≤ q) W w') := Lib.hid (fun K1 W p ra nq rc g lim hlim hQ => by
        have := hQ.act hlim x (HX.out.below hQ.below) HX3.out
        unfold dagg zagg at this
        rw [← HXL.out] at this
        exact this)
      have HACY : Hid (∀ K1 W p ra nq rc g lim, lim ≤ 80000 → Qd w K1 m p ra nq rc g lim W → Calls Try.prog 19 #[.pointer (some ⟨p, 0, none⟩), .agg #[.slice ra nq rc, .int .i64 g, .int .i64 m], .agg #[.int .i64 y.what, .int .i64 y.n, .slice y.a yL y.c]] W fun e w' => ∃ (p' : Nat) (ra' : Option Addr) (n' rc' g' : Nat) (K' : Nat → Prop), e = .returned (.tuple #[.pointer (some ⟨p', 0, none⟩), .agg #[.slice ra' n' rc', .int .i64 g', .int .i64 m], .bool true]) ∧ (∀ q, K1 q → K' q) ∧ Qd w K' m p' ra' n' rc' g' (lim + 8) w' ∧ Mod (fun q => ¬ K1 q ∧ w.heap.size ≤ q) W w') := Lib.hid (fun K1 W p ra nq rc g lim hlim hQ => by
        have := hQ.act hlim y (HY.out.below hQ.below) HY3.out
        unfold dagg zagg at this
        rw [← HYL.out] at this
        exact this)
      clear cr fr hl1 hl0
      go_wp2_with (go_at_call 9; fail)
      refine HNew.out.mono ?_
      rintro e w4 ⟨p, rfl, hq, hb4, _⟩
      have HQ0 := Lib.hid (Qd.start hq (fun q hq => hq.1))
      have HB4 := Lib.hid hb4
      clear hq hb4 HNew
      go_wp2_with (go_at_call 18; fail)
      refine (HRef.out _).mono ?_
      rintro e w5 ⟨rfl, hb5⟩
      obtain ⟨B, hB⟩ : ∃ B, B = w5.heap.size := ⟨_, rfl⟩
      obtain ⟨w6, hw6⟩ : ∃ W, W = w5.alloc (.cells #[.slice none 0 0, .int .i64 0, .int .i64 m] 43) := ⟨_, rfl⟩
      have hb6 : Below w5.heap.size w5 w6 := by rw [hw6]; exact (Below.refl _ w5).alloc (Nat.le_refl _) _
      have hk6 : Box B none 0 0 0 m w6 := by rw [hw6, hB]; exact alloc_blk_new w5 _
      have C0 : Hid (Cl w x y (More (More (fun q => w.heap.size ≤ q ∧ q < w1.heap.size) w4 w5) w5 w6) m p B none 0 0 0 (8 * 0) w6) := Lib.hid (by
        have hlt := T1.out.lt
        have hs4 := HB4.out.size
        have hs5 := hb5.size
        exact ⟨(HQ0.out.bel hb5).bel hb6, hk6, .inr ⟨by omega, blk_lt hk6⟩, (((T1.out.bel HB4.out).bel hb5).bel hb6), .inl (.inl ⟨Nat.le_refl _, by omega⟩), .inl (.inl ⟨by omega, by omega⟩), by omega⟩)
      have E6 := Lib.hid hw6
      have EB := Lib.hid hB
      clear hb5 hb6 hk6 hw6 hB HQ0 HB4 T1
      go_wp2_with fail
      rw [← E6.out, ← EB.out]
      clear E6 EB
      go_loopg [7, 11] n (fun gk v7 v11 wr => ∃ i p : Nat, v7 = .pointer (some ⟨p, 0, none⟩) ∧ v11 = .int .i64 i ∧ i ≤ n ∧ gk = n - i ∧ ∃ K ra nq rc g, Cl w x y K m p B ra nq rc g (8 * i) wr)
      case atStart => exact ⟨0, p, rfl, rfl, by omega, rfl, _, _, _, _, _, C0.out⟩
      case round =>
        obtain ⟨i, p, rfl, rfl, hi, hgk, K, ra, nq, rc, g, hcl⟩ := hrel
        have HG := Lib.hid hgk
        have HCL := Lib.hid hcl
        obtain ⟨c0, c1, c2⟩ := hcl.box.cells
        have l0 := blk_lt hcl.box
        have hi30 : i ≤ 30 := by have := HF1.out.1; omega
        have HLIM : Hid (8 * i ≤ 80000) := Lib.hid (by omega)
        clear hgk hcl C0
        by_cases hlt : i < n
        · have d1 : decide ((i : Int) < n) = true := by simpa using hlt
          obtain ⟨b, off, rfl, hbl, hc⟩ := HA.out.2.2 (by omega)
          obtain ⟨z, hz, z0, z1, z2, hok⟩ := hc i hlt
          have hfw := HF1.out.2 i hlt
          rw [← hz] at hfw
          obtain ⟨zw, hzw⟩ : ∃ zw, zw = z.what := ⟨_, rfl⟩
          obtain ⟨zn, hzn⟩ : ∃ zn, zn = z.n := ⟨_, rfl⟩
          obtain ⟨zL, hzL⟩ : ∃ zL, zL = z.ls.length := ⟨_, rfl⟩
          have HACT : Hid (∀ K1 W p ra nq rc g lim, lim ≤ 80000 → Qd w K1 m p ra nq rc g lim W → Calls Try.prog 19 #[.pointer (some ⟨p, 0, none⟩), .agg #[.slice ra nq rc, .int .i64 g, .int .i64 m], .agg #[.int .i64 zw, .int .i64 zn, .slice z.a zL z.c]] W fun e w' => ∃ (p' : Nat) (ra' : Option Addr) (n' rc' g' : Nat) (K' : Nat → Prop), e = .returned (.tuple #[.pointer (some ⟨p', 0, none⟩), .agg #[.slice ra' n' rc', .int .i64 g', .int .i64 m], .bool true]) ∧ (∀ q, K1 q → K' q) ∧ Qd w K' m p' ra' n' rc' g' (lim + 8) w' ∧ Mod (fun q => ¬ K1 q ∧ w.heap.size ≤ q) W w') := Lib.hid (fun K1 W p ra nq rc g lim hlim hQ => by
            have := hQ.act hlim z (hok.below hQ.below) hfw
            unfold dagg zagg at this
            rw [← hzw, ← hzn, ← hzL] at this
            exact this)
          have HSS : Hid (∀ (W : World), Below w.heap.size w W → Box B ra nq rc g m W → (fun W : World => W.cell? ⟨B, 0, none⟩ = some (.slice ra nq rc) ∧ W.cell? ⟨B, 1, none⟩ = some (.int .i64 g) ∧ W.cell? ⟨B, 2, none⟩ = some (.int .i64 m) ∧ W.cell? ⟨b, off + i * 3, none⟩ = some (.int .i64 zw) ∧ W.cell? ⟨b, off + i * 3 + 1, none⟩ = some (.int .i64 zn) ∧ W.cell? ⟨b, off + i * 3 + 2, none⟩ = some (.slice z.a zL z.c)) W) := Lib.hid (fun W hb hB => ⟨hB.cells.1, hB.cells.2.1, hB.cells.2.2, by rw [hzw]; exact (hb.cell (p := ⟨b, off + i * 3, none⟩) hbl).trans z0, by rw [hzn]; exact (hb.cell (p := ⟨b, off + i * 3 + 1, none⟩) hbl).trans z1, by rw [hzL]; exact (hb.cell (p := ⟨b, off + i * 3 + 2, none⟩) hbl).trans z2⟩)
          obtain ⟨_, _, _, y0, y1, y2⟩ := HSS.out _ HCL.out.qd.below HCL.out.box
          have lb : b < wr.heap.size := Nat.lt_of_lt_of_le hbl HCL.out.qd.below.size
          clear hc z0 z1 z2 hok hz hfw hzw hzn hzL
          go_upto_region 8 with fail
          refine wp_region_noPanic ?_
          refine wp_region_K 12 (fun W => W.cell? ⟨B, 0, none⟩ = some (.slice ra nq rc) ∧ W.cell? ⟨B, 1, none⟩ = some (.int .i64 g) ∧ W.cell? ⟨B, 2, none⟩ = some (.int .i64 m) ∧ W.cell? ⟨b, off + i * 3, none⟩ = some (.int .i64 zw) ∧ W.cell? ⟨b, off + i * 3 + 1, none⟩ = some (.int .i64 zn) ∧ W.cell? ⟨b, off + i * 3 + 2, none⟩ = some (.slice z.a zL z.c)) (by kernel_rfl) ?_
          obtain ⟨wd, hwd⟩ : ∃ W, W = (wr).drew := ⟨_, rfl⟩
          have HBd : Hid (Below (wr).heap.size (wr) wd) := Lib.hid (by rw [hwd]; exact Below.drewN' (wr) 1)
          have hS0 : (fun W : World => W.cell? ⟨B, 0, none⟩ = some (.slice ra nq rc) ∧ W.cell? ⟨B, 1, none⟩ = some (.int .i64 g) ∧ W.cell? ⟨B, 2, none⟩ = some (.int .i64 m) ∧ W.cell? ⟨b, off + i * 3, none⟩ = some (.int .i64 zw) ∧ W.cell? ⟨b, off + i * 3 + 1, none⟩ = some (.int .i64 zn) ∧ W.cell? ⟨b, off + i * 3 + 2, none⟩ = some (.slice z.a zL z.c)) wd := by rw [hwd]; exact ⟨c0, c1, c2, y0, y1, y2⟩
          rw [← hwd]
          have P1 : Hid (Cl w x y K m p B ra nq rc g (8 * i) wd) := Lib.hid (by rw [hwd]; exact HCL.out.drewN 1)
          clear hwd
          refine' wpAnyK_take (i := 0) (oi := { dst := some 55, op := Op.move (Operand.tmp 7), type := 25, pos := "law.go:146", after := #[], guard := none }) (v := ?v1001) rfl (by kernel_rfl) (by kernel_rfl) (by kernel_rfl) [] (by kernel_rfl) (by decide) (by kernel_rfl) (by kernel_rfl) (fun _ _ _ h => h) hS0 (.inl ⟨by first | rfl | simp [Region.wanted, yielded], ?hy1001⟩) ?rest1001
          case hy1001 => (intro W hW; obtain ⟨f1, f2, f3, f4, f5, f6⟩ := hW; go_simp; try with_reducible rfl)
          simp only [Act.put, List.setIfInBounds_toArray, List.set_cons_zero, List.set_cons_succ]
          refine' wpAnyK_take (i := 1) (oi := { dst := some 56, op := Op.load 43 (Operand.tmp 9), type := 43, pos := "law.go:146", after := #[], guard := none }) (v := ?v1002) rfl (by kernel_rfl) (by kernel_rfl) (by kernel_rfl) [] (by kernel_rfl) (by decide) (by kernel_rfl) (by kernel_rfl) (fun _ _ _ h => h) hS0 (.inl ⟨by first | rfl | simp [Region.wanted, yielded], ?hy1002⟩) ?rest1002
          case hy1002 => (intro W hW; obtain ⟨f1, f2, f3, f4, f5, f6⟩ := hW; go_simp; try with_reducible rfl)
          simp only [Act.put, List.setIfInBounds_toArray, List.set_cons_zero, List.set_cons_succ]
          refine' wpAnyK_take (i := 2) (oi := { dst := some 57, op := Op.move (Operand.tmp 1), type := 22, pos := "law.go:146", after := #[], guard := none }) (v := ?v1003) rfl (by kernel_rfl) (by kernel_rfl) (by kernel_rfl) [] (by kernel_rfl) (by decide) (by kernel_rfl) (by kernel_rfl) (fun _ _ _ h => h) hS0 (.inl ⟨by first | rfl | simp [Region.wanted, yielded], ?hy1003⟩) ?rest1003
          case hy1003 => (intro W hW; obtain ⟨f1, f2, f3, f4, f5, f6⟩ := hW; go_simp; try with_reducible rfl)
          simp only [Act.put, List.setIfInBounds_toArray, List.set_cons_zero, List.set_cons_succ]
          refine' wpAnyK_take (i := 3) (oi := { dst := some 58, op := Op.move (Operand.tmp 11), type := 3, pos := "law.go:146", after := #[], guard := none }) (v := ?v1004) rfl (by kernel_rfl) (by kernel_rfl) (by kernel_rfl) [] (by kernel_rfl) (by decide) (by kernel_rfl) (by kernel_rfl) (fun _ _ _ h => h) hS0 (.inl ⟨by first | rfl | simp [Region.wanted, yielded], ?hy1004⟩) ?rest1004
          case hy1004 => (intro W hW; obtain ⟨f1, f2, f3, f4, f5, f6⟩ := hW; go_simp; try with_reducible rfl)
          simp only [Act.put, List.setIfInBounds_toArray, List.set_cons_zero, List.set_cons_succ]
          refine' wpAnyK_take (i := 4) (oi := { dst := some 59, op := Op.indexAddr 22 (Operand.tmp 57) (Operand.tmp 58), type := 0, pos := "law.go:146", after := #[{ on := 2, ground := Ground.data }, { on := 3, ground := Ground.data }], guard := none }) (v := ?v1005) rfl (by kernel_rfl) (by kernel_rfl) (by kernel_rfl) [] (by kernel_rfl) (by decide) (by kernel_rfl) (by kernel_rfl) (fun _ _ _ h => h) hS0 (.inl ⟨by first | rfl | simp [Region.wanted, yielded], ?hy1005⟩) ?rest1005
          case hy1005 => (intro W hW; obtain ⟨f1, f2, f3, f4, f5, f6⟩ := hW; go_simp; try with_reducible rfl)
          simp only [Act.put, List.setIfInBounds_toArray, List.set_cons_zero, List.set_cons_succ]
          refine' wpAnyK_take (i := 5) (oi := { dst := some 60, op := Op.load 32 (Operand.tmp 59), type := 32, pos := "law.go:146", after := #[{ on := 4, ground := Ground.data }], guard := none }) (v := ?v1006) rfl (by kernel_rfl) (by kernel_rfl) (by kernel_rfl) [] (by kernel_rfl) (by decide) (by kernel_rfl) (by kernel_rfl) (fun _ _ _ h => h) hS0 (.inl ⟨by first | rfl | simp [Region.wanted, yielded], ?hy1006⟩) ?rest1006
          case hy1006 => (intro W hW; obtain ⟨f1, f2, f3, f4, f5, f6⟩ := hW; go_simp; try with_reducible rfl)
          simp only [Act.put, List.setIfInBounds_toArray, List.set_cons_zero, List.set_cons_succ]
          refine wpAnyK_ready (rs := [6]) (by kernel_rfl) (by simp) ?_
          refine AllReadyK.cons (o := { dst := some 61, op := Op.call { callee := Callee.value (Operand.func 19), args := #[Operand.tmp 55, Operand.tmp 56, Operand.tmp 60], argTypes := #[25, 43, 32] }, type := 46, pos := "law.go:146", after := #[{ on := 0, ground := Ground.data }, { on := 1, ground := Ground.data }, { on := 5, ground := Ground.data }], guard := none }) rfl (fun KK hK => ?_) (AllReadyK.nil)
          try simp only [List.getElem_toArray, List.getElem_cons_succ, List.getElem_cons_zero]
          go_simp
          refine (HACT.out _ _ p ra nq rc g (8 * i) HLIM.out P1.out.qd).mono ?_
          rintro e w2 ⟨p', ra', n', rc', g', K2, rfl, k12, hq2, hm2⟩
          obtain ⟨hb72, ht2, hst⟩ := P1.out.step k12 hq2 hm2
          have HB72 := Lib.hid hb72
          have HST := Lib.hid hst
          have hS2 : (fun W : World => W.cell? ⟨B, 0, none⟩ = some (.slice ra nq rc) ∧ W.cell? ⟨B, 1, none⟩ = some (.int .i64 g) ∧ W.cell? ⟨B, 2, none⟩ = some (.int .i64 m) ∧ W.cell? ⟨b, off + i * 3, none⟩ = some (.int .i64 zw) ∧ W.cell? ⟨b, off + i * 3 + 1, none⟩ = some (.int .i64 zn) ∧ W.cell? ⟨b, off + i * 3 + 2, none⟩ = some (.slice z.a zL z.c)) w2 := HSS.out w2 hq2.below hb72
          clear hq2 hm2 k12 hb72 ht2 hst
          refine hK.out _ _ (fun _ => hS2) ?_
          clear hK KK
          try simp only [Act.put, List.setIfInBounds_toArray, List.set_cons_zero, List.set_cons_succ]
          refine' wpAnyK_take (i := 7) (oi := { dst := some 54, op := Op.move (Operand.tmp 61), type := 46, pos := "law.go:146", after := #[{ on := 6, ground := Ground.data }], guard := none }) (v := ?v1007) rfl (by kernel_rfl) (by kernel_rfl) (by kernel_rfl) [] (by kernel_rfl) (by decide) (by kernel_rfl) (by kernel_rfl) (fun _ _ _ h => h) hS2 (.inl ⟨by first | rfl | simp [Region.wanted, yielded], ?hy1007⟩) ?rest1007
          case hy1007 => (intro W hW; obtain ⟨f1, f2, f3, f4, f5, f6⟩ := hW; go_simp; try with_reducible rfl)
          simp only [Act.put, List.setIfInBounds_toArray, List.set_cons_zero, List.set_cons_succ]
          refine' wpAnyK_take (i := 8) (oi := { dst := some 62, op := Op.extract (Operand.tmp 54) 0, type := 25, pos := "law.go:146", after := #[{ on := 7, ground := Ground.data }], guard := none }) (v := ?v1008) rfl (by kernel_rfl) (by kernel_rfl) (by kernel_rfl) [] (by kernel_rfl) (by decide) (by kernel_rfl) (by kernel_rfl) (fun _ _ _ h => h) hS2 (.inl ⟨by first | rfl | simp [Region.wanted, yielded], ?hy1008⟩) ?rest1008
          case hy1008 => (intro W hW; obtain ⟨f1, f2, f3, f4, f5, f6⟩ := hW; go_simp; try with_reducible rfl)
          simp only [Act.put, List.setIfInBounds_toArray, List.set_cons_zero, List.set_cons_succ]
          refine' wpAnyK_take (i := 9) (oi := { dst := some 63, op := Op.extract (Operand.tmp 54) 1, type := 43, pos := "law.go:146", after := #[{ on := 7, ground := Ground.data }, { on := 11, ground := Ground.gcOnly Departure.lateStores }], guard := none }) (v := ?v1009) rfl (by kernel_rfl) (by kernel_rfl) (by kernel_rfl) [] (by kernel_rfl) (by decide) (by kernel_rfl) (by kernel_rfl) (fun _ _ _ h => h) hS2 (.inl ⟨by first | rfl | simp [Region.wanted, yielded], ?hy1009⟩) ?rest1009
          case hy1009 => (intro W hW; obtain ⟨f1, f2, f3, f4, f5, f6⟩ := hW; go_simp; try with_reducible rfl)
          simp only [Act.put, List.setIfInBounds_toArray, List.set_cons_zero, List.set_cons_succ]
          refine' wpAnyK_take (i := 11) (oi := { dst := some 7, op := Op.assign (Operand.tmp 62), type := 25, pos := "law.go:146", after := #[{ on := 8, ground := Ground.data }, { on := 6, ground := Ground.chain }, { on := 0, ground := Ground.phase }, { on := 1, ground := Ground.phase }, { on := 2, ground := Ground.phase }, { on := 3, ground := Ground.phase }, { on := 4, ground := Ground.phase }, { on := 5, ground := Ground.phase }, { on := 6, ground := Ground.phase }, { on := 7, ground := Ground.phase }, { on := 8, ground := Ground.phase }, { on := 9, ground := Ground.textOnly Departure.lateStores }, { on := 10, ground := Ground.textOnly Departure.lateStores }], guard := none }) (v := ?v1010) rfl (by kernel_rfl) (by kernel_rfl) (by kernel_rfl) [] (by kernel_rfl) (by decide) (by kernel_rfl) (by kernel_rfl) (fun _ _ _ h => h) hS2 (.inl ⟨by first | rfl | simp [Region.wanted, yielded], ?hy1010⟩) ?rest1010
          case hy1010 => (intro W hW; obtain ⟨f1, f2, f3, f4, f5, f6⟩ := hW; go_simp; try with_reducible rfl)
          simp only [Act.put, List.setIfInBounds_toArray, List.set_cons_zero, List.set_cons_succ]
          refine wpAnyK_ready (rs := [10, 12]) (by kernel_rfl) (by simp) ?_
          refine AllReadyK.cons (o := { dst := some 64, op := Op.extract (Operand.tmp 54) 2, type := 4, pos := "law.go:146", after := #[{ on := 7, ground := Ground.data }, { on := 12, ground := Ground.gcOnly Departure.lateStores }], guard := none }) rfl (fun KK hK => ?_) (AllReadyK.cons (o := { dst := none, op := Op.store 43 (Operand.tmp 9) (Operand.tmp 63), type := 0, pos := "law.go:146", after := #[{ on := 9, ground := Ground.data }, { on := 11, ground := Ground.chain }, { on := 0, ground := Ground.phase }, { on := 1, ground := Ground.phase }, { on := 2, ground := Ground.phase }, { on := 3, ground := Ground.phase }, { on := 4, ground := Ground.phase }, { on := 5, ground := Ground.phase }, { on := 6, ground := Ground.phase }, { on := 7, ground := Ground.phase }, { on := 8, ground := Ground.phase }, { on := 9, ground := Ground.phase }, { on := 10, ground := Ground.textOnly Departure.lateStores }, { on := 11, ground := Ground.phase }], guard := none }) rfl (fun KK hK => ?_) (AllReadyK.nil))
          · try simp only [List.getElem_toArray, List.getElem_cons_succ, List.getElem_cons_zero]
            go_simp
            refine hK.out _ _ (fun _ => hS2) ?_
            clear hK KK
            try simp only [Act.put, List.setIfInBounds_toArray, List.set_cons_zero, List.set_cons_succ]
            refine wpAnyK_ready (rs := [12]) (by kernel_rfl) (by simp) ?_
            refine AllReadyK.cons (o := { dst := none, op := Op.store 43 (Operand.tmp 9) (Operand.tmp 63), type := 0, pos := "law.go:146", after := #[{ on := 9, ground := Ground.data }, { on := 11, ground := Ground.chain }, { on := 0, ground := Ground.phase }, { on := 1, ground := Ground.phase }, { on := 2, ground := Ground.phase }, { on := 3, ground := Ground.phase }, { on := 4, ground := Ground.phase }, { on := 5, ground := Ground.phase }, { on := 6, ground := Ground.phase }, { on := 7, ground := Ground.phase }, { on := 8, ground := Ground.phase }, { on := 9, ground := Ground.phase }, { on := 10, ground := Ground.textOnly Departure.lateStores }, { on := 11, ground := Ground.phase }], guard := none }) rfl (fun KK hK => ?_) (AllReadyK.nil)
            try simp only [List.getElem_toArray, List.getElem_cons_succ, List.getElem_cons_zero]
            obtain ⟨s0, s1, s2⟩ := HB72.out.cells
            have s3 := frozen_blk HB72.out 0
            have s4 := frozen_blk HB72.out 1
            have s5 := frozen_blk HB72.out 2
            have s6 := blk_lt HB72.out
            go_simp
            clear s0 s1 s2 s3 s4 s5 s6
            refine hK.out _ _ (fun h => absurd (show true = false from h) (by decide)) ?_
            clear hK KK
            try simp only [Act.put, List.setIfInBounds_toArray, List.set_cons_zero, List.set_cons_succ]
            refine wpAnyK_done (by kernel_rfl) ?_ _
            refine NoPanic.normal ?_
            obtain ⟨K3, hcl⟩ := HST.out
            have HCl := Lib.hid hcl
            obtain ⟨w3, hw3⟩ : ∃ W, W = (((w2.setCell ⟨B, 0, none⟩ (.slice ra' n' rc')).setCell ⟨B, 1, none⟩ (.int .i64 g')).setCell ⟨B, 2, none⟩ (.int .i64 m)) := ⟨_, rfl⟩
            rw [← hw3] at HCl ⊢
            clear HST hw3 hcl HB72 hS2 hS0
            go_wp2_with fail
            go_roundg (n - (i + 1))
            case measure => have := HG.out; omega
            case rel => exact ⟨i + 1, p', rfl, by go_num, by omega, rfl, _, _, _, _, _, { HCl.out with qd := HCl.out.qd.wide (by omega) }⟩
          · try simp only [List.getElem_toArray, List.getElem_cons_succ, List.getElem_cons_zero]
            obtain ⟨s0, s1, s2⟩ := HB72.out.cells
            have s3 := frozen_blk HB72.out 0
            have s4 := frozen_blk HB72.out 1
            have s5 := frozen_blk HB72.out 2
            have s6 := blk_lt HB72.out
            go_simp
            clear s0 s1 s2 s3 s4 s5 s6
            refine hK.out _ _ (fun h => absurd (show true = false from h) (by decide)) ?_
            clear hK KK
            try simp only [Act.put, List.setIfInBounds_toArray, List.set_cons_zero, List.set_cons_succ]
            refine wpAnyK_ready (rs := [10]) (by kernel_rfl) (by simp) ?_
            refine AllReadyK.cons (o := { dst := some 64, op := Op.extract (Operand.tmp 54) 2, type := 4, pos := "law.go:146", after := #[{ on := 7, ground := Ground.data }, { on := 12, ground := Ground.gcOnly Departure.lateStores }], guard := none }) rfl (fun KK hK => ?_) (AllReadyK.nil)
            try simp only [List.getElem_toArray, List.getElem_cons_succ, List.getElem_cons_zero]
            go_simp
            refine hK.out _ _ (fun h => absurd (show true = false from h) (by decide)) ?_
            clear hK KK
            try simp only [Act.put, List.setIfInBounds_toArray, List.set_cons_zero, List.set_cons_succ]
            refine wpAnyK_done (by kernel_rfl) ?_ _
            refine NoPanic.normal ?_
            obtain ⟨K3, hcl⟩ := HST.out
            have HCl := Lib.hid hcl
            obtain ⟨w3, hw3⟩ : ∃ W, W = (((w2.setCell ⟨B, 0, none⟩ (.slice ra' n' rc')).setCell ⟨B, 1, none⟩ (.int .i64 g')).setCell ⟨B, 2, none⟩ (.int .i64 m)) := ⟨_, rfl⟩
            rw [← hw3] at HCl ⊢
            clear HST hw3 hcl HB72 hS2 hS0
            go_wp2_with fail
            go_roundg (n - (i + 1))
            case measure => have := HG.out; omega
            case rel => exact ⟨i + 1, p', rfl, by go_num, by omega, rfl, _, _, _, _, _, { HCl.out with qd := HCl.out.qd.wide (by omega) }⟩
        · obtain rfl : i = n := by omega
          have d1 : decide ((i : Int) < i) = false := by simp
          obtain ⟨wq, hwq⟩ : ∃ W, W = wr := ⟨_, rfl⟩
          subst hwq
          have hn30 := HF1.out.1
          have hnq : nq ≤ 80000 := by have := HCL.out.qd.2.1; omega
          clear HF1 HA hi HG hlt HLIM
          obtain ⟨zv, hzl, hLeft, hAllv⟩ := HCL.out.qd.views (by omega)
          have HLeft := Lib.hid hLeft
          have HAllv := Lib.hid hAllv
          have HZL := Lib.hid hzl
          clear hzl hLeft hAllv
          go_wp2_with (go_at_call 21; fail)
          refine (HLeft.out _ (Below.refl _ _)).mono ?_
          rintro e v1 ⟨la, lc, rfl, hA1, hb1⟩
          obtain ⟨X12, hX12⟩ : ∃ X, X = v1.heap.size := ⟨_, rfl⟩
          obtain ⟨v2, hv2⟩ : ∃ W, W = v1.alloc (.cells #[.slice la nq lc] 50) := ⟨_, rfl⟩
          have hb2 : Below v1.heap.size v1 v2 := by rw [hv2]; exact (Below.refl _ v1).alloc (Nat.le_refl _) _
          have k2 : v2.heap[X12]? = some (.cells #[.slice la nq lc] 50 (0, 0)) := by rw [hv2, hX12]; exact alloc_blk_new _ _
          have hb02 := hb1.trans (hb2.mono hb1.size)
          have HB02 := Lib.hid hb02
          have HA2 := Lib.hid (hA1.below hb2)
          have K12 := Lib.hid k2
          have E2 := Lib.hid hv2
          have E12 := Lib.hid hX12
          have hX12l : wq.heap.size ≤ X12 := by have := hb1.size; omega
          clear hA1 hb1 hb2 k2 hb02 hv2 hX12 HLeft
          go_wp2_with (go_at_call 22; fail)
          rw [← E2.out, ← E12.out]
          refine (HAllv.out v2 HB02.out).mono ?_
          rintro e v3 ⟨Bq, qa, qc, rfl, hbx, hBq, hA3, hb3⟩
          obtain ⟨K3, hK3⟩ : ∃ K3, K3 = More (More K wq v2) v2 v3 := ⟨_, rfl⟩
          have hws := HB02.out.size
          have C3 : Hid (Cl w x y K3 m p B ra nq rc g (8 * i) v3) := Lib.hid (by rw [hK3]; exact (HCL.out.bel HB02.out).bel hb3)
          have V3 : Hid (Vw K3 X12 Bq la qa lc qc nq zv v3) := Lib.hid (by
            have hl := blk_lt K12.out
            have hlq := blk_lt hbx
            refine ⟨(hb3.block _ hl).trans K12.out, hbx, by rw [hK3]; exact .inl (.inr ⟨hX12l, hl⟩), by rw [hK3]; exact .inr ⟨hBq, hlq⟩, (((HA2.out.mono (U := fun k => wq.heap.size ≤ k ∧ k < v2.heap.size) (fun k h1 h2 => ⟨h2, h1⟩)).below hb3).mono (fun k _ hk => by rw [hK3]; exact .inl (.inr hk))), (hA3.mono (fun k h1 h2 => by rw [hK3]; exact .inr ⟨h2, h1⟩))⟩)
          clear hbx hBq hA3 hb3 hK3 HAllv HA2 K12 E2 E12 hX12l hws c0 c1 c2 l0
          obtain ⟨c0, c1, c2⟩ := C3.out.box.cells
          obtain ⟨⟨x0, x1, x2⟩, _, _, _⟩ := C3.out.bt.cells
          rw [← HXL.out] at x2
          have l0 := blk_lt C3.out.box
          have l1 : w.heap.size < v3.heap.size := by have := C3.out.bt.lt; omega
          have lX := blk_lt V3.out.x
          go_wp2_with (first | (go_at_call 10; refine (HNum.out _ _).mono ?_; rintro e w' ⟨rfl, rfl⟩) | (go_at_call 19; fail))
          refine (HACX.out K3 v3 p ra nq rc g (8 * i) (by omega) C3.out.qd).mono ?_
          rintro e v4 ⟨p4, ra4, n4, rc4, g4, K4, rfl, k34, hq4, hm4⟩
          obtain ⟨hbx4, hbt4, _⟩ := C3.out.step k34 hq4 hm4
          obtain ⟨B15, hB15⟩ : ∃ B, B = v4.heap.size := ⟨_, rfl⟩
          obtain ⟨v5, hv5⟩ : ∃ W, W = v4.alloc (.cells #[.slice ra4 n4 rc4, .int .i64 g4, .int .i64 m] 43) := ⟨_, rfl⟩
          have hb5 : Below v4.heap.size v4 v5 := by rw [hv5]; exact (Below.refl _ v4).alloc (Nat.le_refl _) _
          have hk5 : Box B15 ra4 n4 rc4 g4 m v5 := by rw [hv5, hB15]; exact alloc_blk_new v4 _
          obtain ⟨K5, hK5⟩ : ∃ K5, K5 = More K4 v4 v5 := ⟨_, rfl⟩
          have HQ5 : Hid (Qd w K5 m p4 ra4 n4 rc4 g4 (8 * i + 8) v5) := Lib.hid (by rw [hK5]; exact hq4.bel hb5)
          have V5 : Hid (Vw K5 X12 Bq la qa lc qc nq zv v5) := Lib.hid (by rw [hK5]; exact ((V3.out.mod hm4 (fun k h e => e.1 h)).mod (Mod.of_below hb5 (fun _ => False)) (fun _ _ h => h)).mono (fun k hk => .inl (k34 k hk)))
          have hbt5 := hbt4.bel hb5
          have HT5 := Lib.hid hbt5
          have HKT : Hid (K5 w.heap.size ∧ K5 (w.heap.size + 1)) := Lib.hid (by rw [hK5]; exact ⟨.inl (k34 _ C3.out.kt), .inl (k34 _ C3.out.kr)⟩)
          have E5 := Lib.hid hv5
          have E15 := Lib.hid hB15
          obtain ⟨q0, q1, q2⟩ := hk5.cells
          obtain ⟨_, ⟨y0, y1, y2⟩, _, _⟩ := hbt5.cells
          rw [← HYL.out] at y2
          have lq := blk_lt hk5
          have lt5 : w.heap.size < v5.heap.size := by have := hbt5.lt; omega
          clear c0 c1 c2 x0 x1 x2 l0 l1 lX hq4 hm4 hbx4 hbt4 hbt5 hb5 hk5 hK5 hB15 k34 HACX C3 V3
          rw [hv5] at q0 q1 q2 y0 y1 y2 lq lt5
          clear hv5
          go_wp2_with (go_at_call 19; fail)
          rw [← E5.out] at lt5 lq ⊢
          clear q0 q1 q2 y0 y1 y2
          refine (HACY.out K5 v5 p4 ra4 n4 rc4 g4 (8 * i + 8) (by omega) HQ5.out).mono ?_
          rintro e v6 ⟨p6, ra6, n6, rc6, g6, K6, rfl, k56, hq6, hm6⟩
          have FA := Lib.hid ((V5.out.mod hm6 (fun k h e => e.1 h)).fn (HT5.out.keep HKT.out.1 HKT.out.2 hm6))
          obtain ⟨lim, hlim⟩ : ∃ l, l = v6.heap.size := ⟨_, rfl⟩
          rw [← hlim] at FA
          clear hq6 hm6 k56 HACY HQ5 V5 HT5 HKT E5 E15 lq lt5
          go_wp2_with fail
          refine wp_loop_rounds 3 ?_
          rw [rounds_succ]
          go_upto_block 4 with fail
          have hbN := (Below.refl _ v6).alloc (Nat.le_refl _) (.cells #[.int .i64 0] 3)
          have hkN := alloc_blk_new v6 (.cells #[.int .i64 0] 3)
          obtain ⟨nb0, hnb⟩ : ∃ B, B = v6.heap.size := ⟨_, rfl⟩
          obtain ⟨wn0, hwn⟩ : ∃ W, W = v6.alloc (.cells #[.int .i64 0] 3) := ⟨_, rfl⟩
          rw [← hnb, ← hwn] at hkN
          rw [← hwn] at hbN
          rw [← hnb, ← hwn]
          have hnlt0 : nb0 < wn0.heap.size := blk_lt hkN
          have NC0 := Lib.hid (cell_blk hkN 0 (.int .i64 0) rfl)
          have NF0 := Lib.hid (frozen_blk hkN 0)
          have hln0 : lim ≤ nb0 := by have := FA.out.l4; omega
          have FN0 := Lib.hid (FA.out.bel hbN (by omega))
          clear hbN hkN hnb hwn FA
          refine range_cut (fun D W => wn0.heap.size ≤ D ∧ W.heap[D]? = some (.deferred (some [])) ∧ W.cell? ⟨nb0, 0, none⟩ = some (.int .i64 nq) ∧ Below nb0 wn0 W) ?first0 ?rest0
          case first0 =>
            go_wp2_with fail
            refine (wpIn_wide (n := 7)).1 ?_
            have hl1 := FN0.out.l1
            have hl2 := FN0.out.l2
            have hl3 := FN0.out.l3
            refine' wpIn_range_deep (F := Fence.wide) rfl (by omega) (gf := 46) (lb := #[.pointer (some ⟨Bq, 0, none⟩)]) rfl trivial (enters_of Try.func46 (by kernel_rfl) rfl) (n₀ := nb0) (by omega)
              (All46_deep 6 (by omega) Bq nb0 qa nq qc zv (by omega) wn0 (by omega) (by omega) (cell_blk FN0.out.q 0 _ rfl) (fun hp => by obtain ⟨g, off, e, hl, hc⟩ := FN0.out.lq hp; exact ⟨g, off, e, by omega, hc⟩)) (fun _ => rfl)
              (Rnd (List.finRange nq) (nq + 2) nb0 wn0) (Rxt (List.finRange nq) (nq + 2) nb0 wn0 4) (Rnd.ahead (by omega)) (Rxt.ahead (by omega)) (Rnd.start NC0.out NF0.out) _ ?assign ?body ?done ?stop
            case assign =>
              intro l x W K hK
              gi_wp2
              exact hK
            case done =>
              rintro D ys W hD rfl hI hKd
              obtain ⟨⟨c, hc, hcc⟩, hB⟩ := hI.whole
              rw [List.length_finRange] at hc
              obtain rfl : c = nq := by omega
              exact ⟨rfl, D, rfl, hD, hKd, hcc, hB⟩
            case stop =>
              rintro D c pre W hD hSp hIx hKd
              obtain ⟨rfl, ⟨c, hc, hcc⟩, hB⟩ := hIx.part hSp
              rw [List.length_finRange] at hc
              obtain rfl : c = nq := by omega
              refine wpIn_exit ?_
              exact ⟨rfl, D, rfl, hD, hKd, hcc, hB⟩
            case body =>
              rintro l pre xx W hW ⟨⟨hp, hC⟩, ⟨hc, hf⟩, hB⟩ hlt
              obtain ⟨b, off, rfl, hbl, hbc⟩ := FN0.out.ll (by omega)
              have FW := FN0.out.bel hB hln0
              have hcs := cell_blk FW.x 0 _ rfl
              have hcr := cell_blk FW.r 0 _ rfl
              have hfr := frozen_blk FW.r 0
              have hcb := (hB.cell (p := ⟨b, off + pre.length, none⟩) (by show b < nb0; omega)).trans (hbc pre.length hlt)
              have hmore := fin_more nq pre xx hp
              obtain ⟨pl, hpl⟩ : ∃ pl, pl = pre.length := ⟨_, rfl⟩
              obtain ⟨z, hz⟩ : ∃ z, z = zv.getD pre.length 0 := ⟨_, rfl⟩
              rw [← hz] at hcb
              rw [← hpl] at hc hcb hmore hlt hC
              obtain ⟨xi, hxi⟩ : ∃ xi, xi = xx.val := ⟨_, rfl⟩
              obtain ⟨xv, hxv⟩ : ∃ xv, xv = zv[xx.val]?.getD 0 := ⟨_, rfl⟩
              rw [← hxi] at hmore
              have hxl : xi < nq := by rw [hxi]; exact xx.isLt
              have hzx : xi = pl → xv = z := fun e => by rw [hxv, hz, ← hpl, ← hxi, e]; simp [List.getD]
              have HMore := Lib.hid hmore
              have HBl := Lib.hid hB
              have HPL := Lib.hid hpl
              have HC := Lib.hid hC
              have HZX := Lib.hid hzx
              have hgt : decide ((nq : Int) ≤ pl) = false := by simp; omega
              have hgt2 : decide (nq ≤ pl) = false := by simp; omega
              have hlt2 : (pl : Int) < nq := by omega
              have hl1 := FW.l1
              simp only [← hxv]
              simp only [← hxi]
              clear hmore hp hB hbc hz hpl hC hxi hxv hzx FW
              by_cases e1 : xi = pl
              · subst e1
                obtain rfl := HZX.out rfl
                have hvv : (xv != xv) = false := by simp
                have d0 : ((xi : Int) != (xi : Int)) = false := by simp
                have d00 : (xi != xi) = false := by simp
                gi_wp2
                exact ⟨(Stays.refl _ _).setCell (p := ⟨nb0, 0, none⟩) (by show nb0 < _; omega) _, (Below.refl nb0 W).setCell (p := ⟨nb0, 0, none⟩) (Nat.le_refl _) _, Rnd.more (HMore.out.2 (by first | trivial | rfl)) (by rw [HPL.out]) (by omega) (by rw [hc]; rfl) hf HBl.out⟩
              · have d1 : ((xi : Int) != (pl : Int)) = true := by simp; omega
                have d2 : (xi != pl) = true := by simpa using e1
                gi_wp2
                exact ⟨(Stays.refl _ _).setCell (p := ⟨w.heap.size + 1, 0, none⟩) (by show w.heap.size + 1 < _; omega) _, .inl ⟨rfl, fun h => e1 (HMore.out.1 h)⟩⟩
          case rest0 =>
            rintro D0 W0 ⟨hD0, hKd0, hcc, hB0⟩
            dsimp only
            have FR0 := Lib.hid (FN0.out.bel hB0 hln0)
            have HD0 := Lib.hid hKd0
            have cx := cell_blk FR0.out.x 0 _ rfl
            have lx := blk_lt FR0.out.x
            have ln : nb0 < W0.heap.size := by have := hB0.size; omega
            have dn : ((nq : Int) != nq) = false := by simp
            have dn2 : (nq != nq) = false := by simp
            have hlD0 : lim ≤ D0 := by omega
            clear hKd0 hB0 FN0 NC0 NF0
            go_wp2_with fail
            clear cx lx ln dn dn2 hcc
            rw [rounds_succ]
            go_upto_block 4 with fail
            have hbN := (Below.refl _ W0).alloc (Nat.le_refl _) (.cells #[.int .i64 0] 3)
            have hkN := alloc_blk_new W0 (.cells #[.int .i64 0] 3)
            obtain ⟨nb1, hnb⟩ : ∃ B, B = W0.heap.size := ⟨_, rfl⟩
            obtain ⟨wn1, hwn⟩ : ∃ W, W = W0.alloc (.cells #[.int .i64 0] 3) := ⟨_, rfl⟩
            rw [← hnb, ← hwn] at hkN
            rw [← hwn] at hbN
            rw [← hnb, ← hwn]
            have hnlt1 : nb1 < wn1.heap.size := blk_lt hkN
            have NC1 := Lib.hid (cell_blk hkN 0 (.int .i64 0) rfl)
            have NF1 := Lib.hid (frozen_blk hkN 0)
            have hln1 : lim ≤ nb1 := by have := FR0.out.l4; omega
            have FN1 := Lib.hid (FR0.out.bel hbN (by omega))
            have HE1 := Lib.hid ((hbN.block D0 (Array.getElem?_eq_some_iff.1 HD0.out).1).trans HD0.out)
            have hD0n : D0 < nb1 := by have := (Array.getElem?_eq_some_iff.1 HD0.out).1; omega
            clear hbN hkN hnb hwn FR0
            refine range_cut (fun D W => wn1.heap.size ≤ D ∧ W.heap[D]? = some (.deferred (some [])) ∧ W.cell? ⟨nb1, 0, none⟩ = some (.int .i64 nq) ∧ Below nb1 wn1 W) ?first1 ?rest1
            case first1 =>
              go_wp2_with fail
              refine (wpIn_wide (n := 7)).1 ?_
              have hl1 := FN1.out.l1
              have hl2 := FN1.out.l2
              have hl3 := FN1.out.l3
              refine' wpIn_range_deep (F := Fence.wide) rfl (by omega) (gf := 46) (lb := #[.pointer (some ⟨Bq, 0, none⟩)]) rfl trivial (enters_of Try.func46 (by kernel_rfl) rfl) (n₀ := nb1) (by omega)
                (All46_deep 6 (by omega) Bq nb1 qa nq qc zv (by omega) wn1 (by omega) (by omega) (cell_blk FN1.out.q 0 _ rfl) (fun hp => by obtain ⟨g, off, e, hl, hc⟩ := FN1.out.lq hp; exact ⟨g, off, e, by omega, hc⟩)) (fun _ => rfl)
                (Rnd (List.finRange nq) (nq + 2) nb1 wn1) (Rxt (List.finRange nq) (nq + 2) nb1 wn1 4) (Rnd.ahead (by omega)) (Rxt.ahead (by omega)) (Rnd.start NC1.out NF1.out) _ ?assign ?body ?done ?stop
              case assign =>
                intro l x W K hK
                gi_wp2
                exact hK
              case done =>
                rintro D ys W hD rfl hI hKd
                obtain ⟨⟨c, hc, hcc⟩, hB⟩ := hI.whole
                rw [List.length_finRange] at hc
                obtain rfl : c = nq := by omega
                exact ⟨rfl, D, rfl, hD, hKd, hcc, hB⟩
              case stop =>
                rintro D c pre W hD hSp hIx hKd
                obtain ⟨rfl, ⟨c, hc, hcc⟩, hB⟩ := hIx.part hSp
                rw [List.length_finRange] at hc
                obtain rfl : c = nq := by omega
                refine wpIn_exit ?_
                exact ⟨rfl, D, rfl, hD, hKd, hcc, hB⟩
              case body =>
                rintro l pre xx W hW ⟨⟨hp, hC⟩, ⟨hc, hf⟩, hB⟩ hlt
                obtain ⟨b, off, rfl, hbl, hbc⟩ := FN1.out.ll (by omega)
                have FW := FN1.out.bel hB hln1
                have hcs := cell_blk FW.x 0 _ rfl
                have hcr := cell_blk FW.r 0 _ rfl
                have hfr := frozen_blk FW.r 0
                have hcb := (hB.cell (p := ⟨b, off + pre.length, none⟩) (by show b < nb1; omega)).trans (hbc pre.length hlt)
                have hmore := fin_more nq pre xx hp
                obtain ⟨pl, hpl⟩ : ∃ pl, pl = pre.length := ⟨_, rfl⟩
                obtain ⟨z, hz⟩ : ∃ z, z = zv.getD pre.length 0 := ⟨_, rfl⟩
                rw [← hz] at hcb
                rw [← hpl] at hc hcb hmore hlt hC
                obtain ⟨xi, hxi⟩ : ∃ xi, xi = xx.val := ⟨_, rfl⟩
                obtain ⟨xv, hxv⟩ : ∃ xv, xv = zv[xx.val]?.getD 0 := ⟨_, rfl⟩
                rw [← hxi] at hmore
                have hxl : xi < nq := by rw [hxi]; exact xx.isLt
                have hzx : xi = pl → xv = z := fun e => by rw [hxv, hz, ← hpl, ← hxi, e]; simp [List.getD]
                have HMore := Lib.hid hmore
                have HBl := Lib.hid hB
                have HPL := Lib.hid hpl
                have HC := Lib.hid hC
                have HZX := Lib.hid hzx
                have hgt : decide ((nq : Int) ≤ pl) = false := by simp; omega
                have hgt2 : decide (nq ≤ pl) = false := by simp; omega
                have hlt2 : (pl : Int) < nq := by omega
                have hl1 := FW.l1
                simp only [← hxv]
                simp only [← hxi]
                clear hmore hp hB hbc hz hpl hC hxi hxv hzx FW
                by_cases e1 : xi = pl
                · subst e1
                  obtain rfl := HZX.out rfl
                  have hvv : (xv != xv) = false := by simp
                  have d0 : ((xi : Int) != (xi : Int)) = false := by simp
                  have d00 : (xi != xi) = false := by simp
                  gi_wp2
                  exact ⟨(Stays.refl _ _).setCell (p := ⟨nb1, 0, none⟩) (by show nb1 < _; omega) _, (Below.refl nb1 W).setCell (p := ⟨nb1, 0, none⟩) (Nat.le_refl _) _, Rnd.more (HMore.out.2 (by first | trivial | rfl)) (by rw [HPL.out]) (by omega) (by rw [hc]; rfl) hf HBl.out⟩
                · have d1 : ((xi : Int) != (pl : Int)) = true := by simp; omega
                  have d2 : (xi != pl) = true := by simpa using e1
                  gi_wp2
                  exact ⟨(Stays.refl _ _).setCell (p := ⟨w.heap.size + 1, 0, none⟩) (by show w.heap.size + 1 < _; omega) _, .inl ⟨rfl, fun h => e1 (HMore.out.1 h)⟩⟩
            case rest1 =>
              rintro D1 W1 ⟨hD1, hKd1, hcc, hB1⟩
              dsimp only
              have FR1 := Lib.hid (FN1.out.bel hB1 hln1)
              have HD1 := Lib.hid hKd1
              have HE2 := Lib.hid ((hB1.block D0 hD0n).trans HE1.out)
              have hlD1 : lim ≤ D1 := by omega
              have cx := cell_blk FR1.out.x 0 _ rfl
              have lx := blk_lt FR1.out.x
              have ln : nb1 < W1.heap.size := by have := hB1.size; omega
              have dn : ((nq : Int) != nq) = false := by simp
              have dn2 : (nq != nq) = false := by simp
              clear hKd1 hB1 HE1 FN1 NC1 NF1
              go_wp2_with fail
              clear cx lx ln dn dn2 hcc
              rw [rounds_succ]
              go_wp2_with (go_at_call 8; fail)
              refine (HWorks.out _).mono ?_
              rintro e w20 ⟨rfl, hb20⟩
              have FB := Lib.hid (FR1.out.bel hb20 FR1.out.l4)
              have HF1 := Lib.hid ((hb20.block D1 (Array.getElem?_eq_some_iff.1 HD1.out).1).trans HD1.out)
              have HF0 := Lib.hid ((hb20.block D0 (Array.getElem?_eq_some_iff.1 HE2.out).1).trans HE2.out)
              have hl1 := FB.out.l1
              have hl4 := FB.out.l4
              have hres : w.heap.size + 1 < w20.heap.size := by omega
              have c6 := cell_blk FB.out.r 0 _ rfl
              have f6 := frozen_blk FB.out.r 0
              have hD01 : D0 < D1 := by omega
              clear hb20 HD1 HE2
              go_wp2_with fail
              have hk1 := (KeepsOthers.setCell w20 ⟨w.heap.size + 1, 0, none⟩ (.bool true)).same D1 _ HF1.out rfl
              have hk0 := (KeepsOthers.setCell w20 ⟨w.heap.size + 1, 0, none⟩ (.bool true)).same D0 _ HF0.out rfl
              have hk00 := ((grownBy_putObj' (w20.setCell ⟨w.heap.size + 1, 0, none⟩ (.bool true)) D1 (.deferred none)).block D0 (Array.getElem?_eq_some_iff.1 hk0).1 (fun e => by cases e; omega)).trans hk0
              have hc5 := cell_kept (World.cell?_setCell_same' w20 ⟨w.heap.size + 1, 0, none⟩ (.bool true) (by rw [c6]; rfl)) (grownBy_putObj' _ D1 (.deferred none)) (fun r e => by cases e; exact ⟨_, hk1, rfl⟩)
              have hc6 := cell_kept hc5 (grownBy_putObj' _ D0 (.deferred none)) (fun r e => by cases e; exact ⟨_, hk00, rfl⟩)
              refine ⟨by simp, .inl ⟨_, _, rfl, run_takeDeferred hk1, ⟨by simp, .inl ⟨_, _, rfl, run_takeDeferred hk00, ?_⟩⟩⟩⟩
              refine ⟨.bool true, ?_, rfl, ((FB.out.below.setCell (p := ⟨w.heap.size + 1, 0, none⟩) (by simp) _).trans (belowK_b (w := w) (Nat.le_refl _) _ D1 _ _ (by omega) hk1 rfl rfl)).trans (belowK_b (w := w) (Nat.le_refl _) _ D0 _ _ (by omega) hk00 rfl rfl)⟩
              simp [results, Try.f5, go_sem, hc6]
end Go.Proofs.Ytneeagabmdpjgaa
