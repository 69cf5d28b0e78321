/-
  OutqPlays, walked.
-/
import Derived.Test.YtneeagabmdpjgaaPq
import Derived.Test.YtneeagabmdpjgaaOk
import Derived.Deep.CutBlock
namespace Go.Proofs.Ytneeagabmdpjgaa
open Go.RowKit
set_option linter.unusedVariables false
set_option linter.unusedSimpArgs false

/-- Between act and what is kept of it. -/
def PX (w : World) (m : Int) (B7 : Nat) (ra : Option Addr) (n rc g : Nat) (p' B10 : Nat) (ra' : Option Addr) (n' rc' g' lim : Nat) (W : World) : Prop :=
  ∃ K, Qd w K m p' ra' n' rc' g' lim W ∧ Box B7 ra n rc g m W ∧ K B7 ∧ Box B10 ra' n' rc' g' m W ∧ K B10 ∧ B7 ≠ B10
theorem PX.drewN {w : World} {m : Int} {B7 n rc g p' B10 n' rc' g' lim : Nat} {ra ra' : Option Addr} {W : World} (h : PX w m B7 ra n rc g p' B10 ra' n' rc' g' lim W) (k : Nat) : PX w m B7 ra n rc g p' B10 ra' n' rc' g' lim (W.drewN k) := by
  obtain ⟨K, h1, h2, h3, h4, h5, h6⟩ := h
  exact ⟨K, h1.drewN k, h2, h3, h4, h5, h6⟩
set_option maxHeartbeats 3200000 in
set_option maxRecDepth 100000 in
theorem plays_any (m : Int) (ao : Option Addr) (n cap : Nat) (zs : List OV) (w : World) (h : OActs w ao n zs) :
    Calls Try.prog 4 #[.int .i64 m, .slice ao n cap] w fun e w' => e = .returned (.bool true) ∧ Below w.heap.size w w' := by
  have HFew := Lib.hid (few_any ao n cap zs 50 w h (by decide))
  have HWorks := Lib.hid works_true
  have HNum := Lib.hid num_any
  have HA := Lib.hid h
  clear h
  go_enter Try.func4, Try.ntmps4
  go_wp2_with (go_at_call 7; fail)
  refine HFew.out.mono ?_
  rintro e w0 ⟨b, rfl, hfew, rfl⟩
  cases b with
  | false =>
    go_wp2_with (first | (go_at_call 8; refine (HWorks.out _).mono ?_; rintro e w' ⟨rfl, hb⟩))
    go_ret
    exact ⟨rfl, hb⟩
  | true =>
    obtain ⟨hn60, hall⟩ := hfew rfl
    have HAll := Lib.hid hall
    clear hfew hall HFew
    by_cases hbad : m < 0 ∨ 1048576 < m
    · have HNew := Lib.hid (fun w => calls_swap (New_obad m w hbad))
      have HRef := Lib.hid (fun w => refNew_bad m w hbad)
      clear hbad
      go_wp2_with (first | (go_at_call 9; refine (HNew.out _).mono ?_; rintro e w' ⟨rfl, rfl⟩) | (go_at_call 18; fail))
      refine (HRef.out _).mono ?_
      rintro e w1 ⟨rfl, hb1⟩
      have HB1 := Lib.hid hb1
      obtain ⟨w3, hw3⟩ : ∃ W, W = w1.alloc (.cells #[.slice none 0 0, .int .i64 0, .int .i64 0] 43) := ⟨_, rfl⟩
      have hb2 : Below w1.heap.size w1 w3 := by rw [hw3]; exact (Below.refl _ w1).alloc (Nat.le_refl _) _
      have HB2 := Lib.hid (hb1.trans (hb2.mono hb1.size))
      have E3 := Lib.hid hw3
      clear hb1 hb2 hw3
      go_wp2_with (go_at_call 10; refine (HNum.out _ _).mono ?_; rintro e w' ⟨rfl, rfl⟩)
      rw [← E3.out]
      go_loopg [9] 0 (fun gk v wr => v = .int .i64 0 ∧ wr = w3)
      case atStart => exact ⟨rfl, rfl⟩
      case round =>
        obtain ⟨rfl, hwr⟩ := hrel
        subst hwr
        by_cases hn0 : n = 0
        · subst hn0
          go_wp2_with (first | (go_at_call 8; refine (HWorks.out _).mono ?_; rintro e w' ⟨rfl, hb⟩))
          go_ret
          exact ⟨rfl, HB2.out.trans (hb.mono HB2.out.size)⟩
        · have d1 : decide ((0 : Int) < n) = true := by simp; omega
          have d2 : decide (0 < n) = true := by simp; omega
          go_wp2_with (first | (go_at_call 8; refine (HWorks.out _).mono ?_; rintro e w' ⟨rfl, hb⟩))
          go_ret
          exact ⟨rfl, HB2.out.trans (hb.mono HB2.out.size)⟩
    have hm0 : ¬ m < 0 := by omega
    have hm1 : ¬ 1048576 < m := by omega
    have HNew := Lib.hid (New_os m w w (by omega) (by omega) (Below.refl _ _))
    have HRef := Lib.hid (fun w => refNew_any m w (by omega) (by omega))
    clear hbad
    go_wp2_with (go_at_call 9; fail)
    refine HNew.out.mono ?_
    rintro e w1 ⟨p, rfl, hq, _, _⟩
    have HQ0 := Lib.hid (Qd.start hq (fun q hq => hq.1))
    clear hq HNew
    go_wp2_with (go_at_call 18; fail)
    refine (HRef.out _).mono ?_
    rintro e w2 ⟨rfl, hb2⟩
    obtain ⟨B7, hB7⟩ : ∃ B, B = w2.heap.size := ⟨_, rfl⟩
    obtain ⟨w3, hw3⟩ : ∃ W, W = w2.alloc (.cells #[.slice none 0 0, .int .i64 0, .int .i64 m] 43) := ⟨_, rfl⟩
    have hb3 : Below w2.heap.size w2 w3 := by rw [hw3]; exact (Below.refl _ w2).alloc (Nat.le_refl _) _
    have hk3 : Box B7 none 0 0 0 m w3 := by rw [hw3, hB7]; exact alloc_blk_new w2 _
    obtain ⟨K3, hK3⟩ : ∃ K3, K3 = More (More (fun q => w.heap.size ≤ q ∧ q < w.heap.size) w1 w2) w2 w3 := ⟨_, rfl⟩
    have HQ3 : Hid (Qd w K3 m p none 0 0 0 0 w3) := Lib.hid (by rw [hK3]; exact (HQ0.out.bel hb2).bel hb3)
    have HB3 := Lib.hid hk3
    have HK3 : Hid (K3 B7) := Lib.hid (by rw [hK3]; exact .inr ⟨by omega, blk_lt hk3⟩)
    have E3 := Lib.hid hw3
    have E7 := Lib.hid hB7
    have l3 := blk_lt hk3
    clear hb2 hb3 hk3 hw3 hB7 hK3 HQ0
    go_wp2_with (go_at_call 10; refine (HNum.out _ _).mono ?_; rintro e w' ⟨rfl, rfl⟩)
    rw [← E3.out, ← E7.out]
    clear l3 E3 E7
    go_loopg [5, 9] n (fun gk v5 v9 wr => ∃ i p : Nat, v5 = .pointer (some ⟨p, 0, none⟩) ∧ v9 = .int .i64 i ∧ i ≤ n ∧ gk = n - i ∧ ∃ K ra nq rc g, Qd w K m p ra nq rc g (8 * i) wr ∧ Box B7 ra nq rc g m wr ∧ K B7)
    case atStart => exact ⟨0, p, rfl, rfl, by omega, rfl, _, _, _, _, _, HQ3.out, HB3.out, HK3.out⟩
    case round =>
      obtain ⟨i, p, rfl, rfl, hi, hgk, K, ra, nq, rc, g, hq, hbx, hkb⟩ := hrel
      have HG := Lib.hid hgk
      have HQ := Lib.hid hq
      have HBX := Lib.hid hbx
      have HKB := Lib.hid hkb
      obtain ⟨c0, c1, c2⟩ := hbx.cells
      have l0 := blk_lt hbx
      have HLIM : Hid (8 * i ≤ 80000) := Lib.hid (by omega)
      clear hgk hq hbx hkb HQ3 HB3 HK3
      by_cases hlt : i < n
      · have d1 : decide ((i : Int) < n) = true := by simpa using hlt
        obtain ⟨b, off, rfl, hbl, hc⟩ := HA.out.2.2 (by omega)
        obtain ⟨z, hz, z0, z1, z2, hok⟩ := hc i hlt
        have hfw := HAll.out i hlt
        rw [← hz] at hfw
        have HFW := Lib.hid hfw
        obtain ⟨zw, hzw⟩ : ∃ zw, zw = z.what := ⟨_, rfl⟩
        obtain ⟨zn, hzn⟩ : ∃ zn, zn = z.n := ⟨_, rfl⟩
        obtain ⟨zL, hzL⟩ : ∃ zL, zL = z.ls.length := ⟨_, rfl⟩
        have HACT : Hid (∀ K1 W, Qd w K1 m p ra nq rc g (8 * i) W → Calls Try.prog 19 #[.pointer (some ⟨p, 0, none⟩), .agg #[.slice ra nq rc, .int .i64 g, .int .i64 m], .agg #[.int .i64 zw, .int .i64 zn, .slice z.a zL z.c]] W fun e w' => ∃ (p' : Nat) (ra' : Option Addr) (n' rc' g' : Nat) (K' : Nat → Prop), e = .returned (.tuple #[.pointer (some ⟨p', 0, none⟩), .agg #[.slice ra' n' rc', .int .i64 g', .int .i64 m], .bool true]) ∧ (∀ q, K1 q → K' q) ∧ Qd w K' m p' ra' n' rc' g' (8 * i + 8) w' ∧ Mod (fun q => ¬ K1 q ∧ w.heap.size ≤ q) W w') := Lib.hid (fun K1 W hQ => by
          have := hQ.act HLIM.out z (hok.below hQ.below) hfw
          unfold dagg zagg at this
          rw [← hzw, ← hzn, ← hzL] at this
          exact this)
        have HSS : Hid (∀ (W : World), Below w.heap.size w W → Box B7 ra nq rc g m W → (fun W : World => W.cell? ⟨B7, 0, none⟩ = some (.slice ra nq rc) ∧ W.cell? ⟨B7, 1, none⟩ = some (.int .i64 g) ∧ W.cell? ⟨B7, 2, none⟩ = some (.int .i64 m) ∧ W.cell? ⟨b, off + i * 3, none⟩ = some (.int .i64 zw) ∧ W.cell? ⟨b, off + i * 3 + 1, none⟩ = some (.int .i64 zn) ∧ W.cell? ⟨b, off + i * 3 + 2, none⟩ = some (.slice z.a zL z.c)) W) := Lib.hid (fun W hb hB => ⟨hB.cells.1, hB.cells.2.1, hB.cells.2.2, by rw [hzw]; exact (hb.cell (p := ⟨b, off + i * 3, none⟩) hbl).trans z0, by rw [hzn]; exact (hb.cell (p := ⟨b, off + i * 3 + 1, none⟩) hbl).trans z1, by rw [hzL]; exact (hb.cell (p := ⟨b, off + i * 3 + 2, none⟩) hbl).trans z2⟩)
        obtain ⟨_, _, _, y0, y1, y2⟩ := HSS.out _ HQ.out.below HBX.out
        have lb : b < wr.heap.size := Nat.lt_of_lt_of_le hbl HQ.out.below.size
        clear hc z0 z1 z2 hok hz hfw hzw hzn hzL
        go_upto_region 10 with fail
        go_cut [10, 11, 12] from 48 to 58 (fun s t u wx => ∃ p' B10 ra' n' rc' g', s = .pointer (some ⟨p', 0, none⟩) ∧ t = .pointer (some ⟨B10, 0, none⟩) ∧ u = .bool true ∧ PX w m B7 ra nq rc g p' B10 ra' n' rc' g' (8 * i + 8) wx)
        case first =>
          obtain ⟨wd, hwd⟩ : ∃ W, W = (wr).drew := ⟨_, rfl⟩
          have HBd : Hid (Below (wr).heap.size (wr) wd) := Lib.hid (by rw [hwd]; exact Below.drewN' (wr) 1)
          have hS0 : (fun W : World => W.cell? ⟨B7, 0, none⟩ = some (.slice ra nq rc) ∧ W.cell? ⟨B7, 1, none⟩ = some (.int .i64 g) ∧ W.cell? ⟨B7, 2, none⟩ = some (.int .i64 m) ∧ W.cell? ⟨b, off + i * 3, none⟩ = some (.int .i64 zw) ∧ W.cell? ⟨b, off + i * 3 + 1, none⟩ = some (.int .i64 zn) ∧ W.cell? ⟨b, off + i * 3 + 2, none⟩ = some (.slice z.a zL z.c)) wd := by rw [hwd]; exact ⟨c0, c1, c2, y0, y1, y2⟩
          refine wp_region_held_drew (S := fun W => W.cell? ⟨B7, 0, none⟩ = some (.slice ra nq rc) ∧ W.cell? ⟨B7, 1, none⟩ = some (.int .i64 g) ∧ W.cell? ⟨B7, 2, none⟩ = some (.int .i64 m) ∧ W.cell? ⟨b, off + i * 3, none⟩ = some (.int .i64 zw) ∧ W.cell? ⟨b, off + i * 3 + 1, none⟩ = some (.int .i64 zn) ∧ W.cell? ⟨b, off + i * 3 + 2, none⟩ = some (.slice z.a zL z.c)) (by kernel_rfl) (by rw [← hwd]; exact hS0) (fun hHeld => ?_)
          rw [← hwd] at hHeld ⊢
          have P1 : Hid (Qd w K m p ra nq rc g (8 * i) wd) := Lib.hid (by rw [hwd]; exact HQ.out.drewN 1)
          have B1 : Hid (Box B7 ra nq rc g m wd) := Lib.hid (by rw [hwd]; exact HBX.out)
          have K1e : ∃ K1, K1 = K := ⟨_, rfl⟩
          obtain ⟨K1, hK1⟩ := K1e
          rw [← hK1] at P1
          have KB1 : Hid (K1 B7) := Lib.hid (by rw [hK1]; exact HKB.out)
          clear hwd hS0 hK1
          refine' wpAnyH_take (i := 0) (oi := { dst := some 49, op := Op.move (Operand.tmp 5), type := 25, pos := "law.go:129", after := #[], guard := none }) (v := ?v1001) rfl (by kernel_rfl) (by kernel_rfl) (by kernel_rfl) (fun _ _ _ h => h) (.inl ⟨by first | rfl | simp [Region.wanted, yielded], ?hy1001⟩) (by assumption) ?rest1001
          case hy1001 => (intro W hW; obtain ⟨f1, f2, f3, f4, f5, f6⟩ := hW; go_simp; try with_reducible rfl)
          simp only [Act.put, List.setIfInBounds_toArray, List.set_cons_zero, List.set_cons_succ]
          refine' wpAnyH_take (i := 1) (oi := { dst := some 50, op := Op.load 43 (Operand.tmp 7), type := 43, pos := "law.go:129", after := #[], guard := none }) (v := ?v1002) rfl (by kernel_rfl) (by kernel_rfl) (by kernel_rfl) (fun _ _ _ h => h) (.inl ⟨by first | rfl | simp [Region.wanted, yielded], ?hy1002⟩) (by assumption) ?rest1002
          case hy1002 => (intro W hW; obtain ⟨f1, f2, f3, f4, f5, f6⟩ := hW; go_simp; try with_reducible rfl)
          simp only [Act.put, List.setIfInBounds_toArray, List.set_cons_zero, List.set_cons_succ]
          refine' wpAnyH_take (i := 2) (oi := { dst := some 51, op := Op.move (Operand.tmp 1), type := 22, pos := "law.go:129", after := #[], guard := none }) (v := ?v1003) rfl (by kernel_rfl) (by kernel_rfl) (by kernel_rfl) (fun _ _ _ h => h) (.inl ⟨by first | rfl | simp [Region.wanted, yielded], ?hy1003⟩) (by assumption) ?rest1003
          case hy1003 => (intro W hW; obtain ⟨f1, f2, f3, f4, f5, f6⟩ := hW; go_simp; try with_reducible rfl)
          simp only [Act.put, List.setIfInBounds_toArray, List.set_cons_zero, List.set_cons_succ]
          refine' wpAnyH_take (i := 3) (oi := { dst := some 52, op := Op.move (Operand.tmp 9), type := 3, pos := "law.go:129", after := #[], guard := none }) (v := ?v1004) rfl (by kernel_rfl) (by kernel_rfl) (by kernel_rfl) (fun _ _ _ h => h) (.inl ⟨by first | rfl | simp [Region.wanted, yielded], ?hy1004⟩) (by assumption) ?rest1004
          case hy1004 => (intro W hW; obtain ⟨f1, f2, f3, f4, f5, f6⟩ := hW; go_simp; try with_reducible rfl)
          simp only [Act.put, List.setIfInBounds_toArray, List.set_cons_zero, List.set_cons_succ]
          refine' wpAnyH_take (i := 4) (oi := { dst := some 53, op := Op.indexAddr 22 (Operand.tmp 51) (Operand.tmp 52), type := 0, pos := "law.go:129", after := #[{ on := 2, ground := Ground.data }, { on := 3, ground := Ground.data }], guard := none }) (v := ?v1005) rfl (by kernel_rfl) (by kernel_rfl) (by kernel_rfl) (fun _ _ _ h => h) (.inl ⟨by first | rfl | simp [Region.wanted, yielded], ?hy1005⟩) (by assumption) ?rest1005
          case hy1005 => (intro W hW; obtain ⟨f1, f2, f3, f4, f5, f6⟩ := hW; go_simp; try with_reducible rfl)
          simp only [Act.put, List.setIfInBounds_toArray, List.set_cons_zero, List.set_cons_succ]
          refine' wpAnyH_take (i := 5) (oi := { dst := some 54, op := Op.load 32 (Operand.tmp 53), type := 32, pos := "law.go:129", after := #[{ on := 4, ground := Ground.data }], guard := none }) (v := ?v1006) rfl (by kernel_rfl) (by kernel_rfl) (by kernel_rfl) (fun _ _ _ h => h) (.inl ⟨by first | rfl | simp [Region.wanted, yielded], ?hy1006⟩) (by assumption) ?rest1006
          case hy1006 => (intro W hW; obtain ⟨f1, f2, f3, f4, f5, f6⟩ := hW; go_simp; try with_reducible rfl)
          simp only [Act.put, List.setIfInBounds_toArray, List.set_cons_zero, List.set_cons_succ]
          refine wpAnyH_ready (rs := [6, 11]) (by kernel_rfl) (by simp) ?_
          refine AllReadyH.cons (o := { dst := some 55, op := Op.call { callee := Callee.value (Operand.func 19), args := #[Operand.tmp 49, Operand.tmp 50, Operand.tmp 54], argTypes := #[25, 43, 32] }, type := 46, pos := "law.go:129", after := #[{ on := 0, ground := Ground.data }, { on := 1, ground := Ground.data }, { on := 5, ground := Ground.data }], guard := none }) rfl (fun KK hK => ?_) (AllReadyH.cons (o := { dst := some 11, op := Op.alloc 43, type := 0, pos := "law.go:129", after := #[], guard := none }) rfl (fun KK hK => ?_) (AllReadyH.nil))
          · try simp only [List.getElem_toArray, List.getElem_cons_succ, List.getElem_cons_zero]
            go_simp
            refine (HACT.out _ _ P1.out).mono ?_
            rintro e w2 ⟨p', ra', n', rc', g', K2, rfl, k12, hq2, hm2⟩
            have hb72 := B1.out.mod hm2 (fun e => e.1 KB1.out)
            have hSn : (fun W : World => W.cell? ⟨B7, 0, none⟩ = some (.slice ra nq rc) ∧ W.cell? ⟨B7, 1, none⟩ = some (.int .i64 g) ∧ W.cell? ⟨B7, 2, none⟩ = some (.int .i64 m) ∧ W.cell? ⟨b, off + i * 3, none⟩ = some (.int .i64 zw) ∧ W.cell? ⟨b, off + i * 3 + 1, none⟩ = some (.int .i64 zn) ∧ W.cell? ⟨b, off + i * 3 + 2, none⟩ = some (.slice z.a zL z.c)) w2 := HSS.out w2 hq2.below hb72
            have HQ2 := Lib.hid hq2
            have HB72 := Lib.hid hb72
            have HK12 := Lib.hid k12
            clear hq2 hm2 k12 hb72
            refine hK.out _ _ (by assumption) (fun hHeld => ?_)
            clear hK KK
            try simp only [Act.put, List.setIfInBounds_toArray, List.set_cons_zero, List.set_cons_succ]
            refine' wpAnyH_take (i := 7) (oi := { dst := some 48, op := Op.move (Operand.tmp 55), type := 46, pos := "law.go:129", after := #[{ on := 6, ground := Ground.data }], guard := none }) (v := ?v1007) rfl (by kernel_rfl) (by kernel_rfl) (by kernel_rfl) (fun _ _ _ h => h) (.inl ⟨by first | rfl | simp [Region.wanted, yielded], ?hy1007⟩) (by assumption) ?rest1007
            case hy1007 => (intro W hW; obtain ⟨f1, f2, f3, f4, f5, f6⟩ := hW; go_simp; try with_reducible rfl)
            simp only [Act.put, List.setIfInBounds_toArray, List.set_cons_zero, List.set_cons_succ]
            refine' wpAnyH_take (i := 8) (oi := { dst := some 56, op := Op.extract (Operand.tmp 48) 0, type := 25, pos := "law.go:129", after := #[{ on := 7, ground := Ground.data }], guard := none }) (v := ?v1008) rfl (by kernel_rfl) (by kernel_rfl) (by kernel_rfl) (fun _ _ _ h => h) (.inl ⟨by first | rfl | simp [Region.wanted, yielded], ?hy1008⟩) (by assumption) ?rest1008
            case hy1008 => (intro W hW; obtain ⟨f1, f2, f3, f4, f5, f6⟩ := hW; go_simp; try with_reducible rfl)
            simp only [Act.put, List.setIfInBounds_toArray, List.set_cons_zero, List.set_cons_succ]
            refine' wpAnyH_take (i := 9) (oi := { dst := some 57, op := Op.extract (Operand.tmp 48) 1, type := 43, pos := "law.go:129", after := #[{ on := 7, ground := Ground.data }, { on := 12, ground := Ground.gcOnly Departure.lateStores }], guard := none }) (v := ?v1009) rfl (by kernel_rfl) (by kernel_rfl) (by kernel_rfl) (fun _ _ _ h => h) (.inl ⟨by first | rfl | simp [Region.wanted, yielded], ?hy1009⟩) (by assumption) ?rest1009
            case hy1009 => (intro W hW; obtain ⟨f1, f2, f3, f4, f5, f6⟩ := hW; go_simp; try with_reducible rfl)
            simp only [Act.put, List.setIfInBounds_toArray, List.set_cons_zero, List.set_cons_succ]
            refine' wpAnyH_take (i := 10) (oi := { dst := some 58, op := Op.extract (Operand.tmp 48) 2, type := 4, pos := "law.go:129", after := #[{ on := 7, ground := Ground.data }, { on := 13, ground := Ground.gcOnly Departure.lateStores }], guard := none }) (v := ?v1010) rfl (by kernel_rfl) (by kernel_rfl) (by kernel_rfl) (fun _ _ _ h => h) (.inl ⟨by first | rfl | simp [Region.wanted, yielded], ?hy1010⟩) (by assumption) ?rest1010
            case hy1010 => (intro W hW; obtain ⟨f1, f2, f3, f4, f5, f6⟩ := hW; go_simp; try with_reducible rfl)
            simp only [Act.put, List.setIfInBounds_toArray, List.set_cons_zero, List.set_cons_succ]
            refine wpAnyH_ready (rs := [11]) (by kernel_rfl) (by simp) ?_
            refine AllReadyH.cons (o := { dst := some 11, op := Op.alloc 43, type := 0, pos := "law.go:129", after := #[], guard := none }) rfl (fun KK hK => ?_) (AllReadyH.nil)
            try simp only [List.getElem_toArray, List.getElem_cons_succ, List.getElem_cons_zero]
            obtain ⟨w3, hw3⟩ : ∃ W, W = w2.alloc (.cells #[.slice none 0 0, .int .i64 0, .int .i64 0] 43) := ⟨_, rfl⟩
            obtain ⟨B10, hB10⟩ : ∃ B, B = w2.heap.size := ⟨_, rfl⟩
            have hbA : Below w2.heap.size w2 w3 := by rw [hw3]; exact (Below.refl _ w2).alloc (Nat.le_refl _) _
            have hkA : Box B10 none 0 0 0 0 w3 := by rw [hw3, hB10]; exact alloc_blk_new w2 (.cells #[.slice none 0 0, .int .i64 0, .int .i64 0] 43)
            obtain ⟨K3, hK3⟩ : ∃ K3, K3 = More K2 w2 w3 := ⟨_, rfl⟩
            have HQ3 : Hid (Qd w K3 m p' ra' n' rc' g' (8 * i + 8) w3) := Lib.hid (by rw [hK3]; exact HQ2.out.bel hbA)
            have HB7 := Lib.hid (HB72.out.bel hbA)
            have HB10 := Lib.hid hkA
            have HK10 : Hid (K3 B10) := Lib.hid (by rw [hK3]; exact .inr ⟨by omega, blk_lt hkA⟩)
            have HK7 : Hid (K3 B7) := Lib.hid (by rw [hK3]; exact .inl (HK12.out _ KB1.out))
            have HNE : Hid (B7 ≠ B10) := Lib.hid (by have := blk_lt HB72.out; omega)
            have hSn2 : (fun W : World => W.cell? ⟨B7, 0, none⟩ = some (.slice ra nq rc) ∧ W.cell? ⟨B7, 1, none⟩ = some (.int .i64 g) ∧ W.cell? ⟨B7, 2, none⟩ = some (.int .i64 m) ∧ W.cell? ⟨b, off + i * 3, none⟩ = some (.int .i64 zw) ∧ W.cell? ⟨b, off + i * 3 + 1, none⟩ = some (.int .i64 zn) ∧ W.cell? ⟨b, off + i * 3 + 2, none⟩ = some (.slice z.a zL z.c)) w3 := HSS.out w3 HQ3.out.below HB7.out
            clear hbA hkA hK3
            go_simp
            rw [← hw3, ← hB10]
            clear hw3 hB10
            refine hK.out _ _ (by assumption) (fun hHeld => ?_)
            clear hK KK
            try simp only [Act.put, List.setIfInBounds_toArray, List.set_cons_zero, List.set_cons_succ]
            refine' wpAnyH_take (i := 12) (oi := { dst := some 10, op := Op.assign (Operand.tmp 56), type := 25, pos := "law.go:129", after := #[{ on := 8, ground := Ground.data }, { on := 6, ground := Ground.chain }, { on := 0, ground := Ground.phase }, { on := 1, ground := Ground.phase }, { on := 2, ground := Ground.phase }, { on := 3, ground := Ground.phase }, { on := 4, ground := Ground.phase }, { on := 5, ground := Ground.phase }, { on := 6, ground := Ground.phase }, { on := 7, ground := Ground.phase }, { on := 8, ground := Ground.phase }, { on := 9, ground := Ground.textOnly Departure.lateStores }, { on := 10, ground := Ground.textOnly Departure.lateStores }, { on := 11, ground := Ground.phase }], guard := none }) (v := ?v1011) rfl (by kernel_rfl) (by kernel_rfl) (by kernel_rfl) (fun _ _ _ h => h) (.inl ⟨by first | rfl | simp [Region.wanted, yielded], ?hy1011⟩) (by assumption) ?rest1011
            case hy1011 => (intro W hW; obtain ⟨f1, f2, f3, f4, f5, f6⟩ := hW; go_simp; try with_reducible rfl)
            simp only [Act.put, List.setIfInBounds_toArray, List.set_cons_zero, List.set_cons_succ]
            refine wpAnyH_ready (rs := [13]) (by kernel_rfl) (by simp) ?_
            refine AllReadyH.cons (o := { dst := none, op := Op.store 43 (Operand.tmp 11) (Operand.tmp 57), type := 0, pos := "law.go:129", after := #[{ on := 11, ground := Ground.data }, { on := 9, ground := Ground.data }, { on := 12, ground := Ground.chain }, { on := 0, ground := Ground.phase }, { on := 1, ground := Ground.phase }, { on := 2, ground := Ground.phase }, { on := 3, ground := Ground.phase }, { on := 4, ground := Ground.phase }, { on := 5, ground := Ground.phase }, { on := 6, ground := Ground.phase }, { on := 7, ground := Ground.phase }, { on := 8, ground := Ground.phase }, { on := 9, ground := Ground.phase }, { on := 10, ground := Ground.textOnly Departure.lateStores }, { on := 11, ground := Ground.phase }, { on := 12, ground := Ground.phase }], guard := none }) rfl (fun KK hK => ?_) (AllReadyH.nil)
            try simp only [List.getElem_toArray, List.getElem_cons_succ, List.getElem_cons_zero]
            obtain ⟨s0, s1, s2⟩ := HB10.out.cells
            have s3 := frozen_blk HB10.out 0
            have s4 := frozen_blk HB10.out 1
            have s5 := frozen_blk HB10.out 2
            have s6 := blk_lt HB10.out
            go_simp
            obtain ⟨hbs, hms⟩ := HB10.out.set (a' := ra') (n' := n') (c' := rc') (g' := g') (m' := m)
            have HPX : Hid (PX w m B7 ra nq rc g p' B10 ra' n' rc' g' (8 * i + 8) (((w3.setCell ⟨B10, 0, none⟩ (.slice ra' n' rc')).setCell ⟨B10, 1, none⟩ (.int .i64 g')).setCell ⟨B10, 2, none⟩ (.int .i64 m))) := Lib.hid ⟨_, HQ3.out.box HB10.out HK10.out hms, HB7.out.mod hms (fun e => HNE.out e), .inl HK7.out, hbs, .inl HK10.out, HNE.out⟩
            have hSn3 : (fun W : World => W.cell? ⟨B7, 0, none⟩ = some (.slice ra nq rc) ∧ W.cell? ⟨B7, 1, none⟩ = some (.int .i64 g) ∧ W.cell? ⟨B7, 2, none⟩ = some (.int .i64 m) ∧ W.cell? ⟨b, off + i * 3, none⟩ = some (.int .i64 zw) ∧ W.cell? ⟨b, off + i * 3 + 1, none⟩ = some (.int .i64 zn) ∧ W.cell? ⟨b, off + i * 3 + 2, none⟩ = some (.slice z.a zL z.c)) (((w3.setCell ⟨B10, 0, none⟩ (.slice ra' n' rc')).setCell ⟨B10, 1, none⟩ (.int .i64 g')).setCell ⟨B10, 2, none⟩ (.int .i64 m)) := HSS.out _ (HQ3.out.box HB10.out HK10.out hms).below (HB7.out.mod hms (fun e => HNE.out e))
            clear s0 s1 s2 s3 s4 s5 s6 hbs hms
            refine hK.out _ _ (by assumption) (fun hHeld => ?_)
            clear hK KK
            try simp only [Act.put, List.setIfInBounds_toArray, List.set_cons_zero, List.set_cons_succ]
            refine' wpAnyH_take (i := 14) (oi := { dst := some 12, op := Op.assign (Operand.tmp 58), type := 4, pos := "law.go:129", after := #[{ on := 10, ground := Ground.data }, { on := 13, ground := Ground.chain }, { on := 0, ground := Ground.phase }, { on := 1, ground := Ground.phase }, { on := 2, ground := Ground.phase }, { on := 3, ground := Ground.phase }, { on := 4, ground := Ground.phase }, { on := 5, ground := Ground.phase }, { on := 6, ground := Ground.phase }, { on := 7, ground := Ground.phase }, { on := 8, ground := Ground.phase }, { on := 9, ground := Ground.phase }, { on := 10, ground := Ground.phase }, { on := 11, ground := Ground.phase }, { on := 12, ground := Ground.phase }, { on := 13, ground := Ground.phase }], guard := none }) (v := ?v1012) rfl (by kernel_rfl) (by kernel_rfl) (by kernel_rfl) (fun _ _ _ h => h) (.inl ⟨by first | rfl | simp [Region.wanted, yielded], ?hy1012⟩) (by assumption) ?rest1012
            case hy1012 => (intro W hW; obtain ⟨f1, f2, f3, f4, f5, f6⟩ := hW; go_simp; try with_reducible rfl)
            simp only [Act.put, List.setIfInBounds_toArray, List.set_cons_zero, List.set_cons_succ]
            refine wpAnyH_done (by kernel_rfl) ?_ _
            go_wp2_with fail
            go_meet
            exact ⟨p', B10, ra', n', rc', g', rfl, rfl, rfl, HPX.out⟩
          · try simp only [List.getElem_toArray, List.getElem_cons_succ, List.getElem_cons_zero]
            obtain ⟨wa, hwa⟩ : ∃ W, W = wd.alloc (.cells #[.slice none 0 0, .int .i64 0, .int .i64 0] 43) := ⟨_, rfl⟩
            obtain ⟨B10, hB10⟩ : ∃ B, B = wd.heap.size := ⟨_, rfl⟩
            have hbA : Below wd.heap.size wd wa := by rw [hwa]; exact (Below.refl _ wd).alloc (Nat.le_refl _) _
            have hkA : Box B10 none 0 0 0 0 wa := by rw [hwa, hB10]; exact alloc_blk_new wd (.cells #[.slice none 0 0, .int .i64 0, .int .i64 0] 43)
            obtain ⟨Ka, hKa⟩ : ∃ Ka, Ka = More K1 wd wa := ⟨_, rfl⟩
            have Pa : Hid (Qd w Ka m p ra nq rc g (8 * i) wa) := Lib.hid (by rw [hKa]; exact P1.out.bel hbA)
            have Ba := Lib.hid (B1.out.bel hbA)
            have B10a := Lib.hid hkA
            have KB10a : Hid (Ka B10) := Lib.hid (by rw [hKa]; exact .inr ⟨by omega, blk_lt hkA⟩)
            have KBa : Hid (Ka B7) := Lib.hid (by rw [hKa]; exact .inl KB1.out)
            have hne : B7 ≠ B10 := by have := blk_lt B1.out; omega
            have hSn : (fun W : World => W.cell? ⟨B7, 0, none⟩ = some (.slice ra nq rc) ∧ W.cell? ⟨B7, 1, none⟩ = some (.int .i64 g) ∧ W.cell? ⟨B7, 2, none⟩ = some (.int .i64 m) ∧ W.cell? ⟨b, off + i * 3, none⟩ = some (.int .i64 zw) ∧ W.cell? ⟨b, off + i * 3 + 1, none⟩ = some (.int .i64 zn) ∧ W.cell? ⟨b, off + i * 3 + 2, none⟩ = some (.slice z.a zL z.c)) wa := HSS.out wa Pa.out.below Ba.out
            clear hbA hkA hKa
            go_simp
            rw [← hwa, ← hB10]
            clear hwa hB10
            refine hK.out _ _ (by assumption) (fun hHeld => ?_)
            clear hK KK
            try simp only [Act.put, List.setIfInBounds_toArray, List.set_cons_zero, List.set_cons_succ]
            refine wpAnyH_ready (rs := [6]) (by kernel_rfl) (by simp) ?_
            refine AllReadyH.cons (o := { dst := some 55, op := Op.call { callee := Callee.value (Operand.func 19), args := #[Operand.tmp 49, Operand.tmp 50, Operand.tmp 54], argTypes := #[25, 43, 32] }, type := 46, pos := "law.go:129", after := #[{ on := 0, ground := Ground.data }, { on := 1, ground := Ground.data }, { on := 5, ground := Ground.data }], guard := none }) rfl (fun KK hK => ?_) (AllReadyH.nil)
            try simp only [List.getElem_toArray, List.getElem_cons_succ, List.getElem_cons_zero]
            go_simp
            refine (HACT.out _ _ Pa.out).mono ?_
            rintro e w3 ⟨p', ra', n', rc', g', K3, rfl, k12, hq2, hm2⟩
            have hb72 := Ba.out.mod hm2 (fun e => e.1 KBa.out)
            have hSn2 : (fun W : World => W.cell? ⟨B7, 0, none⟩ = some (.slice ra nq rc) ∧ W.cell? ⟨B7, 1, none⟩ = some (.int .i64 g) ∧ W.cell? ⟨B7, 2, none⟩ = some (.int .i64 m) ∧ W.cell? ⟨b, off + i * 3, none⟩ = some (.int .i64 zw) ∧ W.cell? ⟨b, off + i * 3 + 1, none⟩ = some (.int .i64 zn) ∧ W.cell? ⟨b, off + i * 3 + 2, none⟩ = some (.slice z.a zL z.c)) w3 := HSS.out w3 hq2.below hb72
            have HQ3 := Lib.hid hq2
            have HB7 := Lib.hid hb72
            have HB10 := Lib.hid (B10a.out.mod hm2 (fun e => e.1 KB10a.out))
            have HK7 := Lib.hid (k12 _ KBa.out)
            have HK10 := Lib.hid (k12 _ KB10a.out)
            have HNE := Lib.hid hne
            clear hq2 hm2 k12 hb72 hne
            refine hK.out _ _ (by assumption) (fun hHeld => ?_)
            clear hK KK
            try simp only [Act.put, List.setIfInBounds_toArray, List.set_cons_zero, List.set_cons_succ]
            refine' wpAnyH_take (i := 7) (oi := { dst := some 48, op := Op.move (Operand.tmp 55), type := 46, pos := "law.go:129", after := #[{ on := 6, ground := Ground.data }], guard := none }) (v := ?v1013) rfl (by kernel_rfl) (by kernel_rfl) (by kernel_rfl) (fun _ _ _ h => h) (.inl ⟨by first | rfl | simp [Region.wanted, yielded], ?hy1013⟩) (by assumption) ?rest1013
            case hy1013 => (intro W hW; obtain ⟨f1, f2, f3, f4, f5, f6⟩ := hW; go_simp; try with_reducible rfl)
            simp only [Act.put, List.setIfInBounds_toArray, List.set_cons_zero, List.set_cons_succ]
            refine' wpAnyH_take (i := 8) (oi := { dst := some 56, op := Op.extract (Operand.tmp 48) 0, type := 25, pos := "law.go:129", after := #[{ on := 7, ground := Ground.data }], guard := none }) (v := ?v1014) rfl (by kernel_rfl) (by kernel_rfl) (by kernel_rfl) (fun _ _ _ h => h) (.inl ⟨by first | rfl | simp [Region.wanted, yielded], ?hy1014⟩) (by assumption) ?rest1014
            case hy1014 => (intro W hW; obtain ⟨f1, f2, f3, f4, f5, f6⟩ := hW; go_simp; try with_reducible rfl)
            simp only [Act.put, List.setIfInBounds_toArray, List.set_cons_zero, List.set_cons_succ]
            refine' wpAnyH_take (i := 9) (oi := { dst := some 57, op := Op.extract (Operand.tmp 48) 1, type := 43, pos := "law.go:129", after := #[{ on := 7, ground := Ground.data }, { on := 12, ground := Ground.gcOnly Departure.lateStores }], guard := none }) (v := ?v1015) rfl (by kernel_rfl) (by kernel_rfl) (by kernel_rfl) (fun _ _ _ h => h) (.inl ⟨by first | rfl | simp [Region.wanted, yielded], ?hy1015⟩) (by assumption) ?rest1015
            case hy1015 => (intro W hW; obtain ⟨f1, f2, f3, f4, f5, f6⟩ := hW; go_simp; try with_reducible rfl)
            simp only [Act.put, List.setIfInBounds_toArray, List.set_cons_zero, List.set_cons_succ]
            refine' wpAnyH_take (i := 10) (oi := { dst := some 58, op := Op.extract (Operand.tmp 48) 2, type := 4, pos := "law.go:129", after := #[{ on := 7, ground := Ground.data }, { on := 13, ground := Ground.gcOnly Departure.lateStores }], guard := none }) (v := ?v1016) rfl (by kernel_rfl) (by kernel_rfl) (by kernel_rfl) (fun _ _ _ h => h) (.inl ⟨by first | rfl | simp [Region.wanted, yielded], ?hy1016⟩) (by assumption) ?rest1016
            case hy1016 => (intro W hW; obtain ⟨f1, f2, f3, f4, f5, f6⟩ := hW; go_simp; try with_reducible rfl)
            simp only [Act.put, List.setIfInBounds_toArray, List.set_cons_zero, List.set_cons_succ]
            refine' wpAnyH_take (i := 12) (oi := { dst := some 10, op := Op.assign (Operand.tmp 56), type := 25, pos := "law.go:129", after := #[{ on := 8, ground := Ground.data }, { on := 6, ground := Ground.chain }, { on := 0, ground := Ground.phase }, { on := 1, ground := Ground.phase }, { on := 2, ground := Ground.phase }, { on := 3, ground := Ground.phase }, { on := 4, ground := Ground.phase }, { on := 5, ground := Ground.phase }, { on := 6, ground := Ground.phase }, { on := 7, ground := Ground.phase }, { on := 8, ground := Ground.phase }, { on := 9, ground := Ground.textOnly Departure.lateStores }, { on := 10, ground := Ground.textOnly Departure.lateStores }, { on := 11, ground := Ground.phase }], guard := none }) (v := ?v1017) rfl (by kernel_rfl) (by kernel_rfl) (by kernel_rfl) (fun _ _ _ h => h) (.inl ⟨by first | rfl | simp [Region.wanted, yielded], ?hy1017⟩) (by assumption) ?rest1017
            case hy1017 => (intro W hW; obtain ⟨f1, f2, f3, f4, f5, f6⟩ := hW; go_simp; try with_reducible rfl)
            simp only [Act.put, List.setIfInBounds_toArray, List.set_cons_zero, List.set_cons_succ]
            refine wpAnyH_ready (rs := [13]) (by kernel_rfl) (by simp) ?_
            refine AllReadyH.cons (o := { dst := none, op := Op.store 43 (Operand.tmp 11) (Operand.tmp 57), type := 0, pos := "law.go:129", after := #[{ on := 11, ground := Ground.data }, { on := 9, ground := Ground.data }, { on := 12, ground := Ground.chain }, { on := 0, ground := Ground.phase }, { on := 1, ground := Ground.phase }, { on := 2, ground := Ground.phase }, { on := 3, ground := Ground.phase }, { on := 4, ground := Ground.phase }, { on := 5, ground := Ground.phase }, { on := 6, ground := Ground.phase }, { on := 7, ground := Ground.phase }, { on := 8, ground := Ground.phase }, { on := 9, ground := Ground.phase }, { on := 10, ground := Ground.textOnly Departure.lateStores }, { on := 11, ground := Ground.phase }, { on := 12, ground := Ground.phase }], guard := none }) rfl (fun KK hK => ?_) (AllReadyH.nil)
            try simp only [List.getElem_toArray, List.getElem_cons_succ, List.getElem_cons_zero]
            obtain ⟨s0, s1, s2⟩ := HB10.out.cells
            have s3 := frozen_blk HB10.out 0
            have s4 := frozen_blk HB10.out 1
            have s5 := frozen_blk HB10.out 2
            have s6 := blk_lt HB10.out
            go_simp
            obtain ⟨hbs, hms⟩ := HB10.out.set (a' := ra') (n' := n') (c' := rc') (g' := g') (m' := m)
            have HPX : Hid (PX w m B7 ra nq rc g p' B10 ra' n' rc' g' (8 * i + 8) (((w3.setCell ⟨B10, 0, none⟩ (.slice ra' n' rc')).setCell ⟨B10, 1, none⟩ (.int .i64 g')).setCell ⟨B10, 2, none⟩ (.int .i64 m))) := Lib.hid ⟨_, HQ3.out.box HB10.out HK10.out hms, HB7.out.mod hms (fun e => HNE.out e), .inl HK7.out, hbs, .inl HK10.out, HNE.out⟩
            have hSn3 : (fun W : World => W.cell? ⟨B7, 0, none⟩ = some (.slice ra nq rc) ∧ W.cell? ⟨B7, 1, none⟩ = some (.int .i64 g) ∧ W.cell? ⟨B7, 2, none⟩ = some (.int .i64 m) ∧ W.cell? ⟨b, off + i * 3, none⟩ = some (.int .i64 zw) ∧ W.cell? ⟨b, off + i * 3 + 1, none⟩ = some (.int .i64 zn) ∧ W.cell? ⟨b, off + i * 3 + 2, none⟩ = some (.slice z.a zL z.c)) (((w3.setCell ⟨B10, 0, none⟩ (.slice ra' n' rc')).setCell ⟨B10, 1, none⟩ (.int .i64 g')).setCell ⟨B10, 2, none⟩ (.int .i64 m)) := HSS.out _ (HQ3.out.box HB10.out HK10.out hms).below (HB7.out.mod hms (fun e => HNE.out e))
            clear s0 s1 s2 s3 s4 s5 s6 hbs hms
            refine hK.out _ _ (by assumption) (fun hHeld => ?_)
            clear hK KK
            try simp only [Act.put, List.setIfInBounds_toArray, List.set_cons_zero, List.set_cons_succ]
            refine' wpAnyH_take (i := 14) (oi := { dst := some 12, op := Op.assign (Operand.tmp 58), type := 4, pos := "law.go:129", after := #[{ on := 10, ground := Ground.data }, { on := 13, ground := Ground.chain }, { on := 0, ground := Ground.phase }, { on := 1, ground := Ground.phase }, { on := 2, ground := Ground.phase }, { on := 3, ground := Ground.phase }, { on := 4, ground := Ground.phase }, { on := 5, ground := Ground.phase }, { on := 6, ground := Ground.phase }, { on := 7, ground := Ground.phase }, { on := 8, ground := Ground.phase }, { on := 9, ground := Ground.phase }, { on := 10, ground := Ground.phase }, { on := 11, ground := Ground.phase }, { on := 12, ground := Ground.phase }, { on := 13, ground := Ground.phase }], guard := none }) (v := ?v1018) rfl (by kernel_rfl) (by kernel_rfl) (by kernel_rfl) (fun _ _ _ h => h) (.inl ⟨by first | rfl | simp [Region.wanted, yielded], ?hy1018⟩) (by assumption) ?rest1018
            case hy1018 => (intro W hW; obtain ⟨f1, f2, f3, f4, f5, f6⟩ := hW; go_simp; try with_reducible rfl)
            simp only [Act.put, List.setIfInBounds_toArray, List.set_cons_zero, List.set_cons_succ]
            refine wpAnyH_done (by kernel_rfl) ?_ _
            go_wp2_with fail
            go_meet
            exact ⟨p', B10, ra', n', rc', g', rfl, rfl, rfl, HPX.out⟩

        case rest =>
          obtain ⟨p', B10, ra', n', rc', g', rfl, rfl, rfl, hPX⟩ := hcut
          have HPX := Lib.hid hPX
          obtain ⟨_, _, _, _, hb10, _, _⟩ := hPX
          obtain ⟨c0, c1, c2⟩ := hb10.cells
          clear hb10 HSS
          go_upto_region 11 with fail
          obtain ⟨wd, hwd⟩ : ∃ W, W = (wc).drew := ⟨_, rfl⟩
          have HBd : Hid (Below (wc).heap.size (wc) wd) := Lib.hid (by rw [hwd]; exact Below.drewN' (wc) 1)
          have hS0 : (fun W : World => W.cell? ⟨B10, 0, none⟩ = some (.slice ra' n' rc') ∧ W.cell? ⟨B10, 1, none⟩ = some (.int .i64 g') ∧ W.cell? ⟨B10, 2, none⟩ = some (.int .i64 m)) wd := by rw [hwd]; exact ⟨c0, c1, c2⟩
          refine wp_region_held_drew (S := fun W => W.cell? ⟨B10, 0, none⟩ = some (.slice ra' n' rc') ∧ W.cell? ⟨B10, 1, none⟩ = some (.int .i64 g') ∧ W.cell? ⟨B10, 2, none⟩ = some (.int .i64 m)) (by kernel_rfl) (by rw [← hwd]; exact hS0) (fun hHeld => ?_)
          rw [← hwd] at hHeld ⊢
          have HWD := Lib.hid hwd
          clear hwd hS0
          refine' wpAnyH_take (i := 0) (oi := { dst := some 59, op := Op.move (Operand.tmp 10), type := 25, pos := "law.go:130", after := #[], guard := none }) (v := ?v2001) rfl (by kernel_rfl) (by kernel_rfl) (by kernel_rfl) (fun _ _ _ h => h) (.inl ⟨by first | rfl | simp [Region.wanted, yielded], ?hy2001⟩) (by assumption) ?rest2001
          case hy2001 => (intro W hW; obtain ⟨f1, f2, f3⟩ := hW; go_simp; try with_reducible rfl)
          simp only [Act.put, List.setIfInBounds_toArray, List.set_cons_zero, List.set_cons_succ]
          refine' wpAnyH_take (i := 1) (oi := { dst := some 60, op := Op.load 43 (Operand.tmp 11), type := 43, pos := "law.go:130", after := #[{ on := 2, ground := Ground.gcOnly Departure.lateStores }], guard := none }) (v := ?v2002) rfl (by kernel_rfl) (by kernel_rfl) (by kernel_rfl) (fun _ _ _ h => h) (.inl ⟨by first | rfl | simp [Region.wanted, yielded], ?hy2002⟩) (by assumption) ?rest2002
          case hy2002 => (intro W hW; obtain ⟨f1, f2, f3⟩ := hW; go_simp; try with_reducible rfl)
          simp only [Act.put, List.setIfInBounds_toArray, List.set_cons_zero, List.set_cons_succ]
          refine' wpAnyH_take (i := 2) (oi := { dst := some 5, op := Op.assign (Operand.tmp 59), type := 25, pos := "law.go:130", after := #[{ on := 0, ground := Ground.data }, { on := 0, ground := Ground.phase }, { on := 1, ground := Ground.textOnly Departure.lateStores }], guard := none }) (v := ?v2003) rfl (by kernel_rfl) (by kernel_rfl) (by kernel_rfl) (fun _ _ _ h => h) (.inl ⟨by first | rfl | simp [Region.wanted, yielded], ?hy2003⟩) (by assumption) ?rest2003
          case hy2003 => (intro W hW; obtain ⟨f1, f2, f3⟩ := hW; go_simp; try with_reducible rfl)
          simp only [Act.put, List.setIfInBounds_toArray, List.set_cons_zero, List.set_cons_succ]
          refine wpAnyH_ready (rs := [3]) (by kernel_rfl) (by simp) ?_
          refine AllReadyH.cons (o := { dst := none, op := Op.store 43 (Operand.tmp 7) (Operand.tmp 60), type := 0, pos := "law.go:130", after := #[{ on := 1, ground := Ground.data }, { on := 2, ground := Ground.chain }, { on := 0, ground := Ground.phase }, { on := 1, ground := Ground.phase }, { on := 2, ground := Ground.phase }], guard := none }) rfl (fun KK hK => ?_) (AllReadyH.nil)
          try simp only [List.getElem_toArray, List.getElem_cons_succ, List.getElem_cons_zero]
          have hpx := HPX.out.drewN 1
          obtain ⟨K4, hq4, hb74, k47, hb104, k410, hne4⟩ := hpx
          rw [show wc.drewN 1 = wc.drew from rfl, ← HWD.out] at hq4 hb74 hb104
          obtain ⟨s0, s1, s2⟩ := hb74.cells
          have s3 := frozen_blk hb74 0
          have s4 := frozen_blk hb74 1
          have s5 := frozen_blk hb74 2
          have s6 := blk_lt hb74
          go_simp
          obtain ⟨hbs, hms⟩ := hb74.set (a' := ra') (n' := n') (c' := rc') (g' := g') (m' := m)
          have HQ5 := Lib.hid (hq4.box hb74 k47 hms)
          have HB75 := Lib.hid hbs
          have HK75 : Hid (More K4 wd (((wd.setCell ⟨B7, 0, none⟩ (.slice ra' n' rc')).setCell ⟨B7, 1, none⟩ (.int .i64 g')).setCell ⟨B7, 2, none⟩ (.int .i64 m)) B7) := Lib.hid (.inl k47)
          have hSn2 : (fun W : World => W.cell? ⟨B10, 0, none⟩ = some (.slice ra' n' rc') ∧ W.cell? ⟨B10, 1, none⟩ = some (.int .i64 g') ∧ W.cell? ⟨B10, 2, none⟩ = some (.int .i64 m)) (((wd.setCell ⟨B7, 0, none⟩ (.slice ra' n' rc')).setCell ⟨B7, 1, none⟩ (.int .i64 g')).setCell ⟨B7, 2, none⟩ (.int .i64 m)) := (hb104.mod hms (fun e => hne4 e.symm)).cells
          clear s0 s1 s2 s3 s4 s5 s6 hbs hms hq4 hb74 hb104 k47 k410 hne4
          refine hK.out _ _ (by assumption) (fun hHeld => ?_)
          clear hK KK
          try simp only [Act.put, List.setIfInBounds_toArray, List.set_cons_zero, List.set_cons_succ]
          refine wpAnyH_done (by kernel_rfl) ?_ _
          obtain ⟨w5, hw5⟩ : ∃ W, W = (((wd.setCell ⟨B7, 0, none⟩ (.slice ra' n' rc')).setCell ⟨B7, 1, none⟩ (.int .i64 g')).setCell ⟨B7, 2, none⟩ (.int .i64 m)) := ⟨_, rfl⟩
          rw [← hw5] at HQ5 HB75 HK75 ⊢
          obtain ⟨K5, hK5⟩ : ∃ K5, K5 = More K4 wd w5 := ⟨_, rfl⟩
          rw [← hK5] at HQ5 HK75
          clear hw5 hK5 hSn2
          have HIS := Lib.hid (fun many => HQ5.out.is many)
          unfold dagg at HIS
          obtain ⟨c0, c1, c2⟩ := HB75.out.cells
          have l0 := blk_lt HB75.out
          go_wp2_with (go_at_call 20; refine (HIS.out _).mono ?_; rintro e w6 ⟨rfl, hb6⟩)
          have HQ6 := Lib.hid (HQ5.out.bel hb6)
          have HB76 := Lib.hid (HB75.out.bel hb6)
          clear hb6 c0 c1 c2 l0
          go_roundg (n - (i + 1))
          case measure => have := HG.out; omega
          case rel => exact ⟨i + 1, p', rfl, by go_num, by omega, rfl, _, ra', n', rc', g', HQ6.out.wide (by omega), HB76.out, .inl HK75.out⟩

      · obtain rfl : i = n := by omega
        have d1 : decide ((i : Int) < i) = false := by simp
        have HIS := Lib.hid (fun many => HQ.out.is many)
        unfold dagg at HIS
        go_wp2_with (go_at_call 20; fail)
        refine (HIS.out _).mono ?_
        rintro e w6 ⟨rfl, hb6⟩
        have HB6 := Lib.hid (HQ.out.below.trans (hb6.mono HQ.out.below.size))
        clear hb6
        go_wp2_with (first | (go_at_call 8; refine (HWorks.out _).mono ?_; rintro e w' ⟨rfl, hb⟩))
        go_ret
        exact ⟨rfl, HB6.out.trans (hb.mono HB6.out.size)⟩
end Go.Proofs.Ytneeagabmdpjgaa
