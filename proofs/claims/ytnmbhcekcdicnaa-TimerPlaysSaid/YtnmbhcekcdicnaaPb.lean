/-
 TimerPlays, walked.
-/
import Derived.Test.YtnmbhcekcdicnaaPa
namespace Go.Proofs.Ytnmbhcekcdicnaa
open Go.RowKit
set_option linter.unusedVariables false
set_option linter.unusedSimpArgs false

section
set_option maxHeartbeats 6400000
set_option maxRecDepth 100000
theorem noK {p : Prop} (h : true = false) : p := absurd h (by decide)
def pq1 : Oper := { dst := some 51, op := Op.move (Operand.tmp 7), type := 30, pos := "law.go:99", after := #[], guard := none }
def pq2 : Oper := { dst := some 52, op := Op.load 36 (Operand.tmp 9), type := 36, pos := "law.go:99", after := #[], guard := none }
def pq3 : Oper := { dst := some 53, op := Op.move (Operand.tmp 1), type := 22, pos := "law.go:99", after := #[], guard := none }
def pq4 : Oper := { dst := some 54, op := Op.move (Operand.tmp 11), type := 3, pos := "law.go:99", after := #[], guard := none }
def pq5 : Oper := { dst := some 55, op := Op.indexAddr 22 (Operand.tmp 53) (Operand.tmp 54), type := 0, pos := "law.go:99", after := #[{ on := 2, ground := Ground.data }, { on := 3, ground := Ground.data }], guard := none }
def pq6 : Oper := { dst := some 56, op := Op.load 28 (Operand.tmp 55), type := 28, pos := "law.go:99", after := #[{ on := 4, ground := Ground.data }], guard := none }
def pq7 : Oper := { dst := some 57, op := Op.call { callee := Callee.value (Operand.func 11), args := #[Operand.tmp 51, Operand.tmp 52, Operand.tmp 56], argTypes := #[30, 36, 28] }, type := 39, pos := "law.go:99", after := #[{ on := 0, ground := Ground.data }, { on := 1, ground := Ground.data }, { on := 5, ground := Ground.data }], guard := none }
def pq8 : Oper := { dst := some 13, op := Op.alloc 36, type := 0, pos := "law.go:99", after := #[], guard := none }
def pq9 : Oper := { dst := some 50, op := Op.move (Operand.tmp 57), type := 39, pos := "law.go:99", after := #[{ on := 6, ground := Ground.data }], guard := none }
def pq10 : Oper := { dst := some 58, op := Op.extract (Operand.tmp 50) 0, type := 30, pos := "law.go:99", after := #[{ on := 7, ground := Ground.data }], guard := none }
def pq11 : Oper := { dst := some 59, op := Op.extract (Operand.tmp 50) 1, type := 36, pos := "law.go:99", after := #[{ on := 7, ground := Ground.data }, { on := 12, ground := Ground.gcOnly Departure.lateStores }], guard := none }
def pq12 : Oper := { dst := some 60, op := Op.extract (Operand.tmp 50) 2, type := 4, pos := "law.go:99", after := #[{ on := 7, ground := Ground.data }, { on := 13, ground := Ground.gcOnly Departure.lateStores }], guard := none }
def pq13 : Oper := { dst := some 12, op := Op.assign (Operand.tmp 58), type := 30, pos := "law.go:99", after := #[{ on := 8, ground := Ground.data }, { on := 6, ground := Ground.chain }, { on := 0, ground := Ground.phase }, { on := 1, ground := Ground.phase }, { on := 2, ground := Ground.phase }, { on := 3, ground := Ground.phase }, { on := 4, ground := Ground.phase }, { on := 5, ground := Ground.phase }, { on := 6, ground := Ground.phase }, { on := 7, ground := Ground.phase }, { on := 8, ground := Ground.phase }, { on := 9, ground := Ground.textOnly Departure.lateStores }, { on := 10, ground := Ground.textOnly Departure.lateStores }, { on := 11, ground := Ground.phase }], guard := none }
def pq14 : Oper := { dst := none, op := Op.store 36 (Operand.tmp 13) (Operand.tmp 59), type := 0, pos := "law.go:99", after := #[{ on := 11, ground := Ground.data }, { on := 9, ground := Ground.data }, { on := 12, ground := Ground.chain }, { on := 0, ground := Ground.phase }, { on := 1, ground := Ground.phase }, { on := 2, ground := Ground.phase }, { on := 3, ground := Ground.phase }, { on := 4, ground := Ground.phase }, { on := 5, ground := Ground.phase }, { on := 6, ground := Ground.phase }, { on := 7, ground := Ground.phase }, { on := 8, ground := Ground.phase }, { on := 9, ground := Ground.phase }, { on := 10, ground := Ground.textOnly Departure.lateStores }, { on := 11, ground := Ground.phase }, { on := 12, ground := Ground.phase }], guard := none }
def pq15 : Oper := { dst := some 14, op := Op.assign (Operand.tmp 60), type := 4, pos := "law.go:99", after := #[{ on := 10, ground := Ground.data }, { on := 13, ground := Ground.chain }, { on := 0, ground := Ground.phase }, { on := 1, ground := Ground.phase }, { on := 2, ground := Ground.phase }, { on := 3, ground := Ground.phase }, { on := 4, ground := Ground.phase }, { on := 5, ground := Ground.phase }, { on := 6, ground := Ground.phase }, { on := 7, ground := Ground.phase }, { on := 8, ground := Ground.phase }, { on := 9, ground := Ground.phase }, { on := 10, ground := Ground.phase }, { on := 11, ground := Ground.phase }, { on := 12, ground := Ground.phase }, { on := 13, ground := Ground.phase }], guard := none }
attribute [local go_sem] pq1 pq2 pq3 pq4 pq5 pq6 pq7 pq8 pq9 pq10 pq11 pq12 pq13 pq14 pq15
theorem plays_out (most k i : Int) (ao : Option Addr) (n ca : Nat) (w : World) (hn : 60 < n) (hn2 : n ≤ maxLen) :
  Calls Try.prog 7 #[.int .i64 most, .slice ao n ca, .agg #[.int .i64 k, .int .u64 i]] w (Yes w) := by
 have HWk := Lib.hid works_true
 have d1 : decide (60 < n) = true := by simpa using hn
 have d2 : decide ((60 : Int) < n) = true := by simp; omega
 have B1 := Lib.hid ((Below.refl _ w).alloc (Nat.le_refl _) (.cells #[.int .i64 k, .int .u64 i] 26))
 clear hn
 go_enter Try.func7, Try.ntmps7
 go_wp2_with (go_at_call 8; refine (HWk.out _).mono ?_; rintro e w' ⟨rfl, hb⟩; have HB := Lib.hid (B1.out.trans (hb.mono B1.out.size)); clear hb)
 go_ret
 exact ⟨rfl, HB.out⟩
theorem plays_bad (most k i : Int) (ao : Option Addr) (n ca : Nat) (w : World) (hn : n ≤ 60) (hm : most < 1 ∨ 8192 < most) :
  Calls Try.prog 7 #[.int .i64 most, .slice ao n ca, .agg #[.int .i64 k, .int .u64 i]] w (Yes w) := by
 have HWk := Lib.hid works_true
 have HNum := Lib.hid num13
 have d1 : decide (60 < n) = false := by simp; omega
 have d2 : decide ((60 : Int) < n) = false := by simp; omega
 obtain ⟨lb, hlb⟩ : ∃ b, b = decide (0 < n) := ⟨_, rfl⟩
 have d3 : decide ((0 : Int) < n) = lb := by rw [hlb]; by_cases e : 0 < n <;> simp [e]
 have d4 : decide (0 < n) = lb := hlb.symm
 obtain ⟨u, hu⟩ : ∃ W, W = w.alloc (.cells #[.int .i64 k, .int .u64 i] 26) := ⟨_, rfl⟩
 have b1 : Below w.heap.size w u := by rw [hu]; exact (Below.refl _ w).alloc (Nat.le_refl _) _
 have HU := Lib.hid hu
 have B1 := Lib.hid b1
 have HN9 := Lib.hid (fun W => new9_bad most W hm)
 have HN10 := Lib.hid (fun W => refNew10_bad most W hm)
 clear hlb hu b1 hm hn
 go_enter Try.func7, Try.ntmps7
 go_wp2_with (go_at_call 9; fail)
 rw [← HU.out]
 refine (HN9.out _).mono ?_
 rintro e w' ⟨rfl, rfl⟩
 go_wp2_with (go_at_call 10; fail)
 refine (HN10.out _).mono ?_
 rintro e v1 ⟨rfl, hb⟩
 have HB := Lib.hid (B1.out.trans (hb.mono B1.out.size))
 clear hb
 have hb2 := HB.out.alloc HB.out.size (.cells #[.slice none 0 0, .int .i64 0] 36)
 have HB2 := Lib.hid hb2
 clear hb2
 go_wp2_with (first | (go_at_call 13; refine (HNum.out _ _).mono ?_; rintro e w' ⟨rfl, rfl⟩))
 go_loopg [11] 0 (fun gk v11 wr => v11 = .int .i64 0 ∧ Below w.heap.size w wr)
 case atStart => exact ⟨rfl, HB2.out⟩
 case round =>
  obtain ⟨rfl, hbw⟩ := hrel
  have HBW := Lib.hid hbw
  clear hbw
  cases lb with
  | true =>
   go_wp2_with (first | (go_at_call 8; refine (HWk.out _).mono ?_; rintro e w' ⟨rfl, hb⟩; have HBz := Lib.hid (HBW.out.trans (hb.mono HBW.out.size)); clear hb))
   go_ret
   exact ⟨rfl, HBz.out⟩
  | false =>
   go_wp2_with (first | (go_at_call 8; refine (HWk.out _).mono ?_; rintro e w' ⟨rfl, hb⟩; have HBz := Lib.hid (HBW.out.trans (hb.mono HBW.out.size)); clear hb))
   go_ret
   exact ⟨rfl, HBz.out⟩
theorem plays_in (most k i : Int) (ao : Option Addr) (n ca : Nat) (z : Nat → Int × Int × Int × Int) (w : World) (hn : n ≤ 60) (m0 : 1 ≤ most) (m1 : most ≤ 8192) (k0 : -9223372036854775808 ≤ k) (k1 : k ≤ 9223372036854775807) (i0 : 0 ≤ i) (i1 : i ≤ 18446744073709551615) (ha : AArg w ao n z) :
  Calls Try.prog 7 #[.int .i64 most, .slice ao n ca, .agg #[.int .i64 k, .int .u64 i]] w (Yes w) := by
 have HWk := Lib.hid works_true
 have HNum := Lib.hid num13
 have d1 : decide (60 < n) = false := by simp; omega
 have d2 : decide ((60 : Int) < n) = false := by simp; omega
 obtain ⟨u, hu⟩ : ∃ W, W = w.alloc (.cells #[.int .i64 k, .int .u64 i] 26) := ⟨_, rfl⟩
 obtain ⟨X5, hX⟩ : ∃ X, X = w.heap.size := ⟨_, rfl⟩
 have b1 : Below w.heap.size w u := by rw [hu]; exact (Below.refl _ w).alloc (Nat.le_refl _) _
 have kk : u.heap[X5]? = some (tmO k i) := by rw [hu, hX]; exact alloc_blk_new _ _
 have HU := Lib.hid hu
 have HX := Lib.hid hX
 have B1 := Lib.hid b1
 have HKK := Lib.hid kk
 have HRg := Lib.hid (And.intro (And.intro k0 k1) (And.intro i0 i1))
 have HA := Lib.hid ha
 have HN9 := Lib.hid (PS.new u most m0 m1)
 have HN10 := Lib.hid (fun W => refNew10 most W m0 m1)
 clear hu hX b1 kk ha k0 k1 i0 i1 m0 m1
 go_enter Try.func7, Try.ntmps7
 go_wp2_with (go_at_call 9; fail)
 rw [← HU.out]
 try rw [← HX.out]
 refine HN9.out.mono ?_
 rintro e v1 ⟨p, rfl, hps⟩
 have P1 := Lib.hid (hps.was (X := X5) (o := tmO k i) ((hps.bel.block _ (blk_lt HKK.out)).trans HKK.out) (blk_lt HKK.out))
 clear hps
 go_wp2_with (go_at_call 10; fail)
 refine (HN10.out _).mono ?_
 rintro e v2 ⟨rfl, hb⟩
 have P2 := Lib.hid (P1.out.below hb)
 clear hb P1
 go_wp2_with (first | (go_at_call 13; refine (HNum.out _ _).mono ?_; rintro e w' ⟨rfl, rfl⟩))
 obtain ⟨T9, hT9⟩ : ∃ X, X = v2.heap.size := ⟨_, rfl⟩
 obtain ⟨v3, hv3⟩ : ∃ W, W = v2.alloc (.cells #[.slice none 0 0, .int .i64 most] 36) := ⟨_, rfl⟩
 have hps := P2.out.add (.cells #[.slice none 0 0, .int .i64 most] 36)
 rw [← hv3, ← hT9] at hps ⊢
 have P3 : Hid (PS u p most [] none 0 0 [(T9, wantO none 0 0 most), (X5, tmO k i)] v3) := Lib.hid hps
 have HT9 : Hid (u.heap.size ≤ T9 ∧ X5 < u.heap.size) := Lib.hid ⟨by rw [hT9]; exact P2.out.bel.size, blk_lt HKK.out⟩
 clear hps hv3 hT9 P2
 go_loopg [7, 11] n (fun gk v7 v11 wr => ∃ (j p : Nat) (bo : Option Addr) (m bc : Nat), v7 = .pointer (some ⟨p, 0, none⟩) ∧ v11 = .int .i64 j ∧ j ≤ n ∧ gk = n - j ∧ PS u p most (runL most z j) bo m bc [(T9, wantO bo m bc most), (X5, tmO k i)] wr)
 case atStart => exact ⟨0, p, none, 0, 0, rfl, rfl, by omega, rfl, P3.out⟩
 case round =>
  clear P3
  obtain ⟨j, p, bo, m, bc, rfl, rfl, hj, hgk, hps⟩ := hrel
  have HG := Lib.hid hgk
  have P := Lib.hid hps
  have kt := hps.at (x := T9) (o := wantO bo m bc most) (by simp)
  unfold wantO at kt
  have c0 := cell_blk kt 0 _ rfl
  have c1 := cell_blk kt 1 _ rfl
  have lt := blk_lt kt
  have kx := hps.at (x := X5) (o := tmO k i) (by simp)
  unfold tmO at kx
  have c2 := cell_blk kx 0 _ rfl
  have c3 := cell_blk kx 1 _ rfl
  have lx := blk_lt kx
  clear hgk hps kt kx
  by_cases hlt : j < n
  ·
   have e1 : decide ((j : Int) < n) = true := by simp; omega
   obtain ⟨ab, off, rfl, hab, hac⟩ := HA.out (by omega)
   obtain ⟨⟨y0, y1, y2, y3⟩, hk, hi, hnn⟩ := hac j hlt
   have hnext : runL most z (j + 1) = actL most (runL most z j) (z j).1 (z j).2.1 (z j).2.2.1 (z j).2.2.2 := rfl
   obtain ⟨L1, hL1⟩ : ∃ L, L = runL most z (j + 1) := ⟨_, rfl⟩
   rw [← hL1] at hnext
   obtain ⟨xw, hxw⟩ : ∃ x, x = (z j).1 := ⟨_, rfl⟩
   obtain ⟨xk, hxk⟩ : ∃ x, x = (z j).2.1 := ⟨_, rfl⟩
   obtain ⟨xi, hxi⟩ : ∃ x, x = (z j).2.2.1 := ⟨_, rfl⟩
   obtain ⟨xn, hxn⟩ : ∃ x, x = (z j).2.2.2 := ⟨_, rfl⟩
   rw [← hxw] at y0 hnext
   rw [← hxk] at y1 hk hnext
   rw [← hxi] at y2 hi hnext
   rw [← hxn] at y3 hnn hnext
   have HCA : Hid (∀ W', Below w.heap.size w W' → (W'.cell? ⟨ab, off + j * 4, none⟩ = some (.int .i64 xw) ∧ W'.cell? ⟨ab, off + j * 4 + 1, none⟩ = some (.int .i64 xk) ∧ W'.cell? ⟨ab, off + j * 4 + 2, none⟩ = some (.int .u64 xi) ∧ W'.cell? ⟨ab, off + j * 4 + 3, none⟩ = some (.int .u64 xn)) ∧ ab < W'.heap.size) := Lib.hid fun W' hW =>
    ⟨⟨(hW.cell (p := ⟨ab, off + j * 4, none⟩) hab).trans y0, (hW.cell (p := ⟨ab, off + j * 4 + 1, none⟩) hab).trans y1, (hW.cell (p := ⟨ab, off + j * 4 + 2, none⟩) hab).trans y2, (hW.cell (p := ⟨ab, off + j * 4 + 3, none⟩) hab).trans y3⟩, Nat.lt_of_lt_of_le hab hW.size⟩
   have HXR := Lib.hid (And.intro hk (And.intro hi hnn))
   have HNx := Lib.hid hnext
   have HL1 := Lib.hid hL1
   have hjn : (j : Int) < n := by omega
   clear hac y0 y1 y2 y3 hk hi hnn hxw hxk hxi hxn hnext hL1
   have hw1 : IntKind.i64.wrap ((j : Int) + 1) = (j : Int) + 1 := by rw [IntKind.wrap_i64]; omega
   go_upto_region 10 with fail
   go_cut [12, 13, 14] (fun s12 s13 s14 wx => ∃ (p' : Nat) (bo' : Option Addr) (m' bc' Y : Nat), s12 = .pointer (some ⟨p', 0, none⟩) ∧ s13 = .pointer (some ⟨Y, 0, none⟩) ∧ s14 = .bool true ∧ PS u p' most L1 bo' m' bc' [(Y, wantO bo' m' bc' most), (T9, wantO bo m bc most), (X5, tmO k i)] wx ∧ Y ≠ T9 ∧ u.heap.size ≤ Y)
   case first =>
    refine wp_region_K 6 (fun W => PS u p most (runL most z j) bo m bc [(T9, wantO bo m bc most), (X5, tmO k i)] W) (by kernel_rfl) ?_
    obtain ⟨wd, hwd⟩ : ∃ W, W = (wr).drew := ⟨_, rfl⟩
    have HBd : Hid (Below (wr).heap.size (wr) wd) := Lib.hid (by rw [hwd]; exact Below.drewN' (wr) 1)
    have hS0 : (fun W : World => PS u p most (runL most z j) bo m bc [(T9, wantO bo m bc most), (X5, tmO k i)] W) wd := by rw [hwd]; exact (P.out.below (Below.drewN' wr 1))
    rw [← hwd]
    clear hwd
    refine' wpAnyK_take (i := 0) (oi := pq1) (v := ?v401001) rfl (by kernel_rfl) (by kernel_rfl) (by kernel_rfl) [] (by kernel_rfl) (by decide) (by kernel_rfl) (by kernel_rfl) (fun _ _ _ h => h) hS0 (.inl ⟨by first | rfl | simp [Region.wanted, yielded], ?hy401001⟩) ?rest401001
    case hy401001 => (intro W hW; have g1 := hW.at (x := T9) (o := wantO bo m bc most) (by simp); unfold wantO at g1; have f1 := cell_blk g1 0 _ rfl; have f2 := cell_blk g1 1 _ rfl; have f3 := blk_lt g1; obtain ⟨⟨f4, f5, f6, f7⟩, f8⟩ := HCA.out _ (B1.out.trans (hW.bel.mono B1.out.size)); go_simp; try with_reducible rfl)
    simp only [Act.put, List.setIfInBounds_toArray, List.set_cons_zero, List.set_cons_succ]
    refine' wpAnyK_take (i := 1) (oi := pq2) (v := ?v401002) rfl (by kernel_rfl) (by kernel_rfl) (by kernel_rfl) [] (by kernel_rfl) (by decide) (by kernel_rfl) (by kernel_rfl) (fun _ _ _ h => h) hS0 (.inl ⟨by first | rfl | simp [Region.wanted, yielded], ?hy401002⟩) ?rest401002
    case hy401002 => (intro W hW; have g1 := hW.at (x := T9) (o := wantO bo m bc most) (by simp); unfold wantO at g1; have f1 := cell_blk g1 0 _ rfl; have f2 := cell_blk g1 1 _ rfl; have f3 := blk_lt g1; obtain ⟨⟨f4, f5, f6, f7⟩, f8⟩ := HCA.out _ (B1.out.trans (hW.bel.mono B1.out.size)); go_simp; try with_reducible rfl)
    simp only [Act.put, List.setIfInBounds_toArray, List.set_cons_zero, List.set_cons_succ]
    refine' wpAnyK_take (i := 2) (oi := pq3) (v := ?v401003) rfl (by kernel_rfl) (by kernel_rfl) (by kernel_rfl) [5, 4] (by kernel_rfl) (by decide) (by kernel_rfl) (by kernel_rfl) (fun _ _ _ h => h) hS0 (.inl ⟨by first | rfl | simp [Region.wanted, yielded], ?hy401003⟩) ?rest401003
    case hy401003 => (intro W hW; have g1 := hW.at (x := T9) (o := wantO bo m bc most) (by simp); unfold wantO at g1; have f1 := cell_blk g1 0 _ rfl; have f2 := cell_blk g1 1 _ rfl; have f3 := blk_lt g1; obtain ⟨⟨f4, f5, f6, f7⟩, f8⟩ := HCA.out _ (B1.out.trans (hW.bel.mono B1.out.size)); go_simp; try with_reducible rfl)
    simp only [Act.put, List.setIfInBounds_toArray, List.set_cons_zero, List.set_cons_succ]
    refine' wpAnyK_take (i := 3) (oi := pq4) (v := ?v401004) rfl (by kernel_rfl) (by kernel_rfl) (by kernel_rfl) [5, 4] (by kernel_rfl) (by decide) (by kernel_rfl) (by kernel_rfl) (fun _ _ _ h => h) hS0 (.inl ⟨by first | rfl | simp [Region.wanted, yielded], ?hy401004⟩) ?rest401004
    case hy401004 => (intro W hW; have g1 := hW.at (x := T9) (o := wantO bo m bc most) (by simp); unfold wantO at g1; have f1 := cell_blk g1 0 _ rfl; have f2 := cell_blk g1 1 _ rfl; have f3 := blk_lt g1; obtain ⟨⟨f4, f5, f6, f7⟩, f8⟩ := HCA.out _ (B1.out.trans (hW.bel.mono B1.out.size)); go_simp; try with_reducible rfl)
    simp only [Act.put, List.setIfInBounds_toArray, List.set_cons_zero, List.set_cons_succ]
    refine' wpAnyK_take (i := 4) (oi := pq5) (v := ?v401005) rfl (by kernel_rfl) (by kernel_rfl) (by kernel_rfl) [5] (by kernel_rfl) (by decide) (by kernel_rfl) (by kernel_rfl) (fun _ _ _ h => h) hS0 (.inl ⟨by first | rfl | simp [Region.wanted, yielded], ?hy401005⟩) ?rest401005
    case hy401005 => (intro W hW; have g1 := hW.at (x := T9) (o := wantO bo m bc most) (by simp); unfold wantO at g1; have f1 := cell_blk g1 0 _ rfl; have f2 := cell_blk g1 1 _ rfl; have f3 := blk_lt g1; obtain ⟨⟨f4, f5, f6, f7⟩, f8⟩ := HCA.out _ (B1.out.trans (hW.bel.mono B1.out.size)); go_simp; try with_reducible rfl)
    simp only [Act.put, List.setIfInBounds_toArray, List.set_cons_zero, List.set_cons_succ]
    refine' wpAnyK_take (i := 5) (oi := pq6) (v := ?v401006) rfl (by kernel_rfl) (by kernel_rfl) (by kernel_rfl) [] (by kernel_rfl) (by decide) (by kernel_rfl) (by kernel_rfl) (fun _ _ _ h => h) hS0 (.inl ⟨by first | rfl | simp [Region.wanted, yielded], ?hy401006⟩) ?rest401006
    case hy401006 => (intro W hW; have g1 := hW.at (x := T9) (o := wantO bo m bc most) (by simp); unfold wantO at g1; have f1 := cell_blk g1 0 _ rfl; have f2 := cell_blk g1 1 _ rfl; have f3 := blk_lt g1; obtain ⟨⟨f4, f5, f6, f7⟩, f8⟩ := HCA.out _ (B1.out.trans (hW.bel.mono B1.out.size)); go_simp; try with_reducible rfl)
    simp only [Act.put, List.setIfInBounds_toArray, List.set_cons_zero, List.set_cons_succ]
    refine wpAnyK_ready (rs := [6, 11]) (by kernel_rfl) (by simp) ?_
    refine AllReadyK.cons (o := pq7) rfl (fun KK hK => ?_) (AllReadyK.cons (o := pq8) rfl (fun KK hK => ?_) (AllReadyK.nil))
    ·
     try simp only [List.getElem_toArray, List.getElem_cons_succ, List.getElem_cons_zero]
     have hact := hS0.act xw xk xi xn HXR.out.1.1 HXR.out.1.2 HXR.out.2.1.1 HXR.out.2.1.2 HXR.out.2.2.1 HXR.out.2.2.2
     rw [← HNx.out] at hact
     go_simp
     refine hact.mono ?_
     rintro e z1 ⟨p', bo', m', bc', rfl, hpa⟩
     have HP1 := Lib.hid hpa
     clear hact hpa
     refine hK.out _ _ noK ?_
     clear hK KK
     try simp only [Act.put, List.setIfInBounds_toArray, List.set_cons_zero, List.set_cons_succ]
     refine wpAnyK_ready (rs := [7, 11]) (by kernel_rfl) (by simp) ?_
     refine AllReadyK.cons (o := pq9) rfl (fun KK hK => ?_) (AllReadyK.cons (o := pq8) rfl (fun KK hK => ?_) (AllReadyK.nil))
     ·
      try simp only [List.getElem_toArray, List.getElem_cons_succ, List.getElem_cons_zero]
      go_simp
      refine hK.out _ _ noK ?_
      clear hK KK
      try simp only [Act.put, List.setIfInBounds_toArray, List.set_cons_zero, List.set_cons_succ]
      refine wpAnyK_ready (rs := [8, 9, 10, 11]) (by kernel_rfl) (by simp) ?_
      refine AllReadyK.cons (o := pq10) rfl (fun KK hK => ?_) (AllReadyK.cons (o := pq11) rfl (fun KK hK => ?_) (AllReadyK.cons (o := pq12) rfl (fun KK hK => ?_) (AllReadyK.cons (o := pq8) rfl (fun KK hK => ?_) (AllReadyK.nil))))
      ·
       try simp only [List.getElem_toArray, List.getElem_cons_succ, List.getElem_cons_zero]
       go_simp
       refine hK.out _ _ noK ?_
       clear hK KK
       try simp only [Act.put, List.setIfInBounds_toArray, List.set_cons_zero, List.set_cons_succ]
       refine wpAnyK_ready (rs := [9, 10, 11]) (by kernel_rfl) (by simp) ?_
       refine AllReadyK.cons (o := pq11) rfl (fun KK hK => ?_) (AllReadyK.cons (o := pq12) rfl (fun KK hK => ?_) (AllReadyK.cons (o := pq8) rfl (fun KK hK => ?_) (AllReadyK.nil)))
       ·
        try simp only [List.getElem_toArray, List.getElem_cons_succ, List.getElem_cons_zero]
        go_simp
        refine hK.out _ _ noK ?_
        clear hK KK
        try simp only [Act.put, List.setIfInBounds_toArray, List.set_cons_zero, List.set_cons_succ]
        refine wpAnyK_ready (rs := [10, 11]) (by kernel_rfl) (by simp) ?_
        refine AllReadyK.cons (o := pq12) rfl (fun KK hK => ?_) (AllReadyK.cons (o := pq8) rfl (fun KK hK => ?_) (AllReadyK.nil))
        ·
         try simp only [List.getElem_toArray, List.getElem_cons_succ, List.getElem_cons_zero]
         go_simp
         refine hK.out _ _ noK ?_
         clear hK KK
         try simp only [Act.put, List.setIfInBounds_toArray, List.set_cons_zero, List.set_cons_succ]
         refine wpAnyK_ready (rs := [11]) (by kernel_rfl) (by simp) ?_
         refine AllReadyK.cons (o := pq8) rfl (fun KK hK => ?_) (AllReadyK.nil)
         try simp only [List.getElem_toArray, List.getElem_cons_succ, List.getElem_cons_zero]
         obtain ⟨Y, hY⟩ : ∃ Q, Q = z1.heap.size := ⟨_, rfl⟩
         obtain ⟨z2, hz2⟩ : ∃ Q, Q = z1.alloc (.cells #[.slice none 0 0, .int .i64 0] 36) := ⟨_, rfl⟩
         go_simp
         have hp2 := HP1.out.add (.cells #[.slice none 0 0, .int .i64 0] 36)
         rw [← hz2, ← hY] at hp2 ⊢
         have HP2 := Lib.hid hp2
         have HYT : Hid (Y ≠ T9 ∧ Y ≠ X5 ∧ u.heap.size ≤ Y) := Lib.hid (by
          have h1 := blk_lt (HP1.out.at (x := T9) (o := wantO bo m bc most) (by simp))
          have h2 := blk_lt (HP1.out.at (x := X5) (o := tmO k i) (by simp))
          have h3 := HP1.out.bel.size
          omega)
         clear hz2 hY hp2
         refine hK.out _ _ noK ?_
         clear hK KK
         try simp only [Act.put, List.setIfInBounds_toArray, List.set_cons_zero, List.set_cons_succ]
         refine wpAnyK_ready (rs := [12]) (by kernel_rfl) (by simp) ?_
         refine AllReadyK.cons (o := pq13) rfl (fun KK hK => ?_) (AllReadyK.nil)
         try simp only [List.getElem_toArray, List.getElem_cons_succ, List.getElem_cons_zero]
         go_simp
         refine hK.out _ _ noK ?_
         clear hK KK
         try simp only [Act.put, List.setIfInBounds_toArray, List.set_cons_zero, List.set_cons_succ]
         refine wpAnyK_ready (rs := [13]) (by kernel_rfl) (by simp) ?_
         refine AllReadyK.cons (o := pq14) rfl (fun KK hK => ?_) (AllReadyK.nil)
         try simp only [List.getElem_toArray, List.getElem_cons_succ, List.getElem_cons_zero]
         have gy := HP2.out.at (x := Y) (o := .cells #[.slice none 0 0, .int .i64 0] 36 (0, 0)) (by simp)
         have e0 := cell_blk gy 0 _ rfl
         have e1 := cell_blk gy 1 _ rfl
         have e2 := blk_lt gy
         have e3 := frozen_blk gy 0
         have e4 := frozen_blk gy 1
         go_simp
         obtain ⟨z3, hz3⟩ : ∃ Q, Q = (z2.setCell ⟨Y, 0, none⟩ (.slice bo' m' bc')).setCell ⟨Y, 1, none⟩ (.int .i64 most) := ⟨_, rfl⟩
         rw [← hz3]
         have HP3 : Hid (PS u p' most L1 bo' m' bc' [(Y, wantO bo' m' bc' most), (T9, wantO bo m bc most), (X5, tmO k i)] z3) := Lib.hid (HP2.out.set (C' := #[.slice bo' m' bc', .int .i64 most]) HYT.out.2.2 (by simp) (by decide) (by decide) (by
          intro x hx
          simp at hx
          rcases hx with rfl | rfl
          ·
           exact fun e => HYT.out.1 e.symm
          ·
           exact fun e => HYT.out.2.1 e.symm) (by rw [hz3]; exact setCell_blk (setCell_blk gy 0 _) 1 _) (by rw [hz3]; exact ((Mod.refl (fun q => q = Y) z2).setCell ⟨Y, 0, none⟩ (.inl rfl) _).setCell ⟨Y, 1, none⟩ (.inl rfl) _))
         clear e0 e1 e2 e3 e4 hz3 gy
         refine hK.out _ _ noK ?_
         clear hK KK
         try simp only [Act.put, List.setIfInBounds_toArray, List.set_cons_zero, List.set_cons_succ]
         refine wpAnyK_ready (rs := [14]) (by kernel_rfl) (by simp) ?_
         refine AllReadyK.cons (o := pq15) rfl (fun KK hK => ?_) (AllReadyK.nil)
         try simp only [List.getElem_toArray, List.getElem_cons_succ, List.getElem_cons_zero]
         go_simp
         refine hK.out _ _ noK ?_
         clear hK KK
         try simp only [Act.put, List.setIfInBounds_toArray, List.set_cons_zero, List.set_cons_succ]
         refine wpAnyK_done (by kernel_rfl) ?_ _
         go_wp2
         go_meet
         exact ⟨p', bo', m', bc', Y, rfl, rfl, rfl, HP3.out, HYT.out.1, HYT.out.2.2⟩
        ·
         try simp only [List.getElem_toArray, List.getElem_cons_succ, List.getElem_cons_zero]
         obtain ⟨Y, hY⟩ : ∃ Q, Q = z1.heap.size := ⟨_, rfl⟩
         obtain ⟨z2, hz2⟩ : ∃ Q, Q = z1.alloc (.cells #[.slice none 0 0, .int .i64 0] 36) := ⟨_, rfl⟩
         go_simp
         have hp2 := HP1.out.add (.cells #[.slice none 0 0, .int .i64 0] 36)
         rw [← hz2, ← hY] at hp2 ⊢
         have HP2 := Lib.hid hp2
         have HYT : Hid (Y ≠ T9 ∧ Y ≠ X5 ∧ u.heap.size ≤ Y) := Lib.hid (by
          have h1 := blk_lt (HP1.out.at (x := T9) (o := wantO bo m bc most) (by simp))
          have h2 := blk_lt (HP1.out.at (x := X5) (o := tmO k i) (by simp))
          have h3 := HP1.out.bel.size
          omega)
         clear hz2 hY hp2
         refine hK.out _ _ noK ?_
         clear hK KK
         try simp only [Act.put, List.setIfInBounds_toArray, List.set_cons_zero, List.set_cons_succ]
         refine wpAnyK_ready (rs := [10, 12]) (by kernel_rfl) (by simp) ?_
         refine AllReadyK.cons (o := pq12) rfl (fun KK hK => ?_) (AllReadyK.cons (o := pq13) rfl (fun KK hK => ?_) (AllReadyK.nil))
         ·
          try simp only [List.getElem_toArray, List.getElem_cons_succ, List.getElem_cons_zero]
          go_simp
          refine hK.out _ _ noK ?_
          clear hK KK
          try simp only [Act.put, List.setIfInBounds_toArray, List.set_cons_zero, List.set_cons_succ]
          refine wpAnyK_ready (rs := [12]) (by kernel_rfl) (by simp) ?_
          refine AllReadyK.cons (o := pq13) rfl (fun KK hK => ?_) (AllReadyK.nil)
          try simp only [List.getElem_toArray, List.getElem_cons_succ, List.getElem_cons_zero]
          go_simp
          refine hK.out _ _ noK ?_
          clear hK KK
          try simp only [Act.put, List.setIfInBounds_toArray, List.set_cons_zero, List.set_cons_succ]
          refine wpAnyK_ready (rs := [13]) (by kernel_rfl) (by simp) ?_
          refine AllReadyK.cons (o := pq14) rfl (fun KK hK => ?_) (AllReadyK.nil)
          try simp only [List.getElem_toArray, List.getElem_cons_succ, List.getElem_cons_zero]
          have gy := HP2.out.at (x := Y) (o := .cells #[.slice none 0 0, .int .i64 0] 36 (0, 0)) (by simp)
          have e0 := cell_blk gy 0 _ rfl
          have e1 := cell_blk gy 1 _ rfl
          have e2 := blk_lt gy
          have e3 := frozen_blk gy 0
          have e4 := frozen_blk gy 1
          go_simp
          obtain ⟨z3, hz3⟩ : ∃ Q, Q = (z2.setCell ⟨Y, 0, none⟩ (.slice bo' m' bc')).setCell ⟨Y, 1, none⟩ (.int .i64 most) := ⟨_, rfl⟩
          rw [← hz3]
          have HP3 : Hid (PS u p' most L1 bo' m' bc' [(Y, wantO bo' m' bc' most), (T9, wantO bo m bc most), (X5, tmO k i)] z3) := Lib.hid (HP2.out.set (C' := #[.slice bo' m' bc', .int .i64 most]) HYT.out.2.2 (by simp) (by decide) (by decide) (by
           intro x hx
           simp at hx
           rcases hx with rfl | rfl
           ·
            exact fun e => HYT.out.1 e.symm
           ·
            exact fun e => HYT.out.2.1 e.symm) (by rw [hz3]; exact setCell_blk (setCell_blk gy 0 _) 1 _) (by rw [hz3]; exact ((Mod.refl (fun q => q = Y) z2).setCell ⟨Y, 0, none⟩ (.inl rfl) _).setCell ⟨Y, 1, none⟩ (.inl rfl) _))
          clear e0 e1 e2 e3 e4 hz3 gy
          refine hK.out _ _ noK ?_
          clear hK KK
          try simp only [Act.put, List.setIfInBounds_toArray, List.set_cons_zero, List.set_cons_succ]
          refine wpAnyK_ready (rs := [14]) (by kernel_rfl) (by simp) ?_
          refine AllReadyK.cons (o := pq15) rfl (fun KK hK => ?_) (AllReadyK.nil)
          try simp only [List.getElem_toArray, List.getElem_cons_succ, List.getElem_cons_zero]
          go_simp
          refine hK.out _ _ noK ?_
          clear hK KK
          try simp only [Act.put, List.setIfInBounds_toArray, List.set_cons_zero, List.set_cons_succ]
          refine wpAnyK_done (by kernel_rfl) ?_ _
          go_wp2
          go_meet
          exact ⟨p', bo', m', bc', Y, rfl, rfl, rfl, HP3.out, HYT.out.1, HYT.out.2.2⟩
         ·
          try simp only [List.getElem_toArray, List.getElem_cons_succ, List.getElem_cons_zero]
          go_simp
          refine hK.out _ _ noK ?_
          clear hK KK
          try simp only [Act.put, List.setIfInBounds_toArray, List.set_cons_zero, List.set_cons_succ]
          refine wpAnyK_ready (rs := [10, 13]) (by kernel_rfl) (by simp) ?_
          refine AllReadyK.cons (o := pq12) rfl (fun KK hK => ?_) (AllReadyK.cons (o := pq14) rfl (fun KK hK => ?_) (AllReadyK.nil))
          ·
           try simp only [List.getElem_toArray, List.getElem_cons_succ, List.getElem_cons_zero]
           go_simp
           refine hK.out _ _ noK ?_
           clear hK KK
           try simp only [Act.put, List.setIfInBounds_toArray, List.set_cons_zero, List.set_cons_succ]
           refine wpAnyK_ready (rs := [13]) (by kernel_rfl) (by simp) ?_
           refine AllReadyK.cons (o := pq14) rfl (fun KK hK => ?_) (AllReadyK.nil)
           try simp only [List.getElem_toArray, List.getElem_cons_succ, List.getElem_cons_zero]
           have gy := HP2.out.at (x := Y) (o := .cells #[.slice none 0 0, .int .i64 0] 36 (0, 0)) (by simp)
           have e0 := cell_blk gy 0 _ rfl
           have e1 := cell_blk gy 1 _ rfl
           have e2 := blk_lt gy
           have e3 := frozen_blk gy 0
           have e4 := frozen_blk gy 1
           go_simp
           obtain ⟨z3, hz3⟩ : ∃ Q, Q = (z2.setCell ⟨Y, 0, none⟩ (.slice bo' m' bc')).setCell ⟨Y, 1, none⟩ (.int .i64 most) := ⟨_, rfl⟩
           rw [← hz3]
           have HP3 : Hid (PS u p' most L1 bo' m' bc' [(Y, wantO bo' m' bc' most), (T9, wantO bo m bc most), (X5, tmO k i)] z3) := Lib.hid (HP2.out.set (C' := #[.slice bo' m' bc', .int .i64 most]) HYT.out.2.2 (by simp) (by decide) (by decide) (by
            intro x hx
            simp at hx
            rcases hx with rfl | rfl
            ·
             exact fun e => HYT.out.1 e.symm
            ·
             exact fun e => HYT.out.2.1 e.symm) (by rw [hz3]; exact setCell_blk (setCell_blk gy 0 _) 1 _) (by rw [hz3]; exact ((Mod.refl (fun q => q = Y) z2).setCell ⟨Y, 0, none⟩ (.inl rfl) _).setCell ⟨Y, 1, none⟩ (.inl rfl) _))
           clear e0 e1 e2 e3 e4 hz3 gy
           refine hK.out _ _ noK ?_
           clear hK KK
           try simp only [Act.put, List.setIfInBounds_toArray, List.set_cons_zero, List.set_cons_succ]
           refine wpAnyK_ready (rs := [14]) (by kernel_rfl) (by simp) ?_
           refine AllReadyK.cons (o := pq15) rfl (fun KK hK => ?_) (AllReadyK.nil)
           try simp only [List.getElem_toArray, List.getElem_cons_succ, List.getElem_cons_zero]
           go_simp
           refine hK.out _ _ noK ?_
           clear hK KK
           try simp only [Act.put, List.setIfInBounds_toArray, List.set_cons_zero, List.set_cons_succ]
           refine wpAnyK_done (by kernel_rfl) ?_ _
           go_wp2
           go_meet
           exact ⟨p', bo', m', bc', Y, rfl, rfl, rfl, HP3.out, HYT.out.1, HYT.out.2.2⟩
          ·
           try simp only [List.getElem_toArray, List.getElem_cons_succ, List.getElem_cons_zero]
           have gy := HP2.out.at (x := Y) (o := .cells #[.slice none 0 0, .int .i64 0] 36 (0, 0)) (by simp)
           have e0 := cell_blk gy 0 _ rfl
           have e1 := cell_blk gy 1 _ rfl
           have e2 := blk_lt gy
           have e3 := frozen_blk gy 0
           have e4 := frozen_blk gy 1
           go_simp
           obtain ⟨z3, hz3⟩ : ∃ Q, Q = (z2.setCell ⟨Y, 0, none⟩ (.slice bo' m' bc')).setCell ⟨Y, 1, none⟩ (.int .i64 most) := ⟨_, rfl⟩
           rw [← hz3]
           have HP3 : Hid (PS u p' most L1 bo' m' bc' [(Y, wantO bo' m' bc' most), (T9, wantO bo m bc most), (X5, tmO k i)] z3) := Lib.hid (HP2.out.set (C' := #[.slice bo' m' bc', .int .i64 most]) HYT.out.2.2 (by simp) (by decide) (by decide) (by
            intro x hx
            simp at hx
            rcases hx with rfl | rfl
            ·
             exact fun e => HYT.out.1 e.symm
            ·
             exact fun e => HYT.out.2.1 e.symm) (by rw [hz3]; exact setCell_blk (setCell_blk gy 0 _) 1 _) (by rw [hz3]; exact ((Mod.refl (fun q => q = Y) z2).setCell ⟨Y, 0, none⟩ (.inl rfl) _).setCell ⟨Y, 1, none⟩ (.inl rfl) _))
           clear e0 e1 e2 e3 e4 hz3 gy
           refine hK.out _ _ noK ?_
           clear hK KK
           try simp only [Act.put, List.setIfInBounds_toArray, List.set_cons_zero, List.set_cons_succ]
           refine wpAnyK_ready (rs := [10]) (by kernel_rfl) (by simp) ?_
           refine AllReadyK.cons (o := pq12) rfl (fun KK hK => ?_) (AllReadyK.nil)
           try simp only [List.getElem_toArray, List.getElem_cons_succ, List.getElem_cons_zero]
           go_simp
           refine hK.out _ _ noK ?_
           clear hK KK
           try simp only [Act.put, List.setIfInBounds_toArray, List.set_cons_zero, List.set_cons_succ]
           refine wpAnyK_ready (rs := [14]) (by kernel_rfl) (by simp) ?_
           refine AllReadyK.cons (o := pq15) rfl (fun KK hK => ?_) (AllReadyK.nil)
           try simp only [List.getElem_toArray, List.getElem_cons_succ, List.getElem_cons_zero]
           go_simp
           refine hK.out _ _ noK ?_
           clear hK KK
           try simp only [Act.put, List.setIfInBounds_toArray, List.set_cons_zero, List.set_cons_succ]
           refine wpAnyK_done (by kernel_rfl) ?_ _
           go_wp2
           go_meet
           exact ⟨p', bo', m', bc', Y, rfl, rfl, rfl, HP3.out, HYT.out.1, HYT.out.2.2⟩
       ·
        try simp only [List.getElem_toArray, List.getElem_cons_succ, List.getElem_cons_zero]
        go_simp
        refine hK.out _ _ noK ?_
        clear hK KK
        try simp only [Act.put, List.setIfInBounds_toArray, List.set_cons_zero, List.set_cons_succ]
        refine wpAnyK_ready (rs := [9, 11]) (by kernel_rfl) (by simp) ?_
        refine AllReadyK.cons (o := pq11) rfl (fun KK hK => ?_) (AllReadyK.cons (o := pq8) rfl (fun KK hK => ?_) (AllReadyK.nil))
        ·
         try simp only [List.getElem_toArray, List.getElem_cons_succ, List.getElem_cons_zero]
         go_simp
         refine hK.out _ _ noK ?_
         clear hK KK
         try simp only [Act.put, List.setIfInBounds_toArray, List.set_cons_zero, List.set_cons_succ]
         refine wpAnyK_ready (rs := [11]) (by kernel_rfl) (by simp) ?_
         refine AllReadyK.cons (o := pq8) rfl (fun KK hK => ?_) (AllReadyK.nil)
         try simp only [List.getElem_toArray, List.getElem_cons_succ, List.getElem_cons_zero]
         obtain ⟨Y, hY⟩ : ∃ Q, Q = z1.heap.size := ⟨_, rfl⟩
         obtain ⟨z2, hz2⟩ : ∃ Q, Q = z1.alloc (.cells #[.slice none 0 0, .int .i64 0] 36) := ⟨_, rfl⟩
         go_simp
         have hp2 := HP1.out.add (.cells #[.slice none 0 0, .int .i64 0] 36)
         rw [← hz2, ← hY] at hp2 ⊢
         have HP2 := Lib.hid hp2
         have HYT : Hid (Y ≠ T9 ∧ Y ≠ X5 ∧ u.heap.size ≤ Y) := Lib.hid (by
          have h1 := blk_lt (HP1.out.at (x := T9) (o := wantO bo m bc most) (by simp))
          have h2 := blk_lt (HP1.out.at (x := X5) (o := tmO k i) (by simp))
          have h3 := HP1.out.bel.size
          omega)
         clear hz2 hY hp2
         refine hK.out _ _ noK ?_
         clear hK KK
         try simp only [Act.put, List.setIfInBounds_toArray, List.set_cons_zero, List.set_cons_succ]
         refine wpAnyK_ready (rs := [12]) (by kernel_rfl) (by simp) ?_
         refine AllReadyK.cons (o := pq13) rfl (fun KK hK => ?_) (AllReadyK.nil)
         try simp only [List.getElem_toArray, List.getElem_cons_succ, List.getElem_cons_zero]
         go_simp
         refine hK.out _ _ noK ?_
         clear hK KK
         try simp only [Act.put, List.setIfInBounds_toArray, List.set_cons_zero, List.set_cons_succ]
         refine wpAnyK_ready (rs := [13]) (by kernel_rfl) (by simp) ?_
         refine AllReadyK.cons (o := pq14) rfl (fun KK hK => ?_) (AllReadyK.nil)
         try simp only [List.getElem_toArray, List.getElem_cons_succ, List.getElem_cons_zero]
         have gy := HP2.out.at (x := Y) (o := .cells #[.slice none 0 0, .int .i64 0] 36 (0, 0)) (by simp)
         have e0 := cell_blk gy 0 _ rfl
         have e1 := cell_blk gy 1 _ rfl
         have e2 := blk_lt gy
         have e3 := frozen_blk gy 0
         have e4 := frozen_blk gy 1
         go_simp
         obtain ⟨z3, hz3⟩ : ∃ Q, Q = (z2.setCell ⟨Y, 0, none⟩ (.slice bo' m' bc')).setCell ⟨Y, 1, none⟩ (.int .i64 most) := ⟨_, rfl⟩
         rw [← hz3]
         have HP3 : Hid (PS u p' most L1 bo' m' bc' [(Y, wantO bo' m' bc' most), (T9, wantO bo m bc most), (X5, tmO k i)] z3) := Lib.hid (HP2.out.set (C' := #[.slice bo' m' bc', .int .i64 most]) HYT.out.2.2 (by simp) (by decide) (by decide) (by
          intro x hx
          simp at hx
          rcases hx with rfl | rfl
          ·
           exact fun e => HYT.out.1 e.symm
          ·
           exact fun e => HYT.out.2.1 e.symm) (by rw [hz3]; exact setCell_blk (setCell_blk gy 0 _) 1 _) (by rw [hz3]; exact ((Mod.refl (fun q => q = Y) z2).setCell ⟨Y, 0, none⟩ (.inl rfl) _).setCell ⟨Y, 1, none⟩ (.inl rfl) _))
         clear e0 e1 e2 e3 e4 hz3 gy
         refine hK.out _ _ noK ?_
         clear hK KK
         try simp only [Act.put, List.setIfInBounds_toArray, List.set_cons_zero, List.set_cons_succ]
         refine wpAnyK_ready (rs := [14]) (by kernel_rfl) (by simp) ?_
         refine AllReadyK.cons (o := pq15) rfl (fun KK hK => ?_) (AllReadyK.nil)
         try simp only [List.getElem_toArray, List.getElem_cons_succ, List.getElem_cons_zero]
         go_simp
         refine hK.out _ _ noK ?_
         clear hK KK
         try simp only [Act.put, List.setIfInBounds_toArray, List.set_cons_zero, List.set_cons_succ]
         refine wpAnyK_done (by kernel_rfl) ?_ _
         go_wp2
         go_meet
         exact ⟨p', bo', m', bc', Y, rfl, rfl, rfl, HP3.out, HYT.out.1, HYT.out.2.2⟩
        ·
         try simp only [List.getElem_toArray, List.getElem_cons_succ, List.getElem_cons_zero]
         obtain ⟨Y, hY⟩ : ∃ Q, Q = z1.heap.size := ⟨_, rfl⟩
         obtain ⟨z2, hz2⟩ : ∃ Q, Q = z1.alloc (.cells #[.slice none 0 0, .int .i64 0] 36) := ⟨_, rfl⟩
         go_simp
         have hp2 := HP1.out.add (.cells #[.slice none 0 0, .int .i64 0] 36)
         rw [← hz2, ← hY] at hp2 ⊢
         have HP2 := Lib.hid hp2
         have HYT : Hid (Y ≠ T9 ∧ Y ≠ X5 ∧ u.heap.size ≤ Y) := Lib.hid (by
          have h1 := blk_lt (HP1.out.at (x := T9) (o := wantO bo m bc most) (by simp))
          have h2 := blk_lt (HP1.out.at (x := X5) (o := tmO k i) (by simp))
          have h3 := HP1.out.bel.size
          omega)
         clear hz2 hY hp2
         refine hK.out _ _ noK ?_
         clear hK KK
         try simp only [Act.put, List.setIfInBounds_toArray, List.set_cons_zero, List.set_cons_succ]
         refine wpAnyK_ready (rs := [9, 12]) (by kernel_rfl) (by simp) ?_
         refine AllReadyK.cons (o := pq11) rfl (fun KK hK => ?_) (AllReadyK.cons (o := pq13) rfl (fun KK hK => ?_) (AllReadyK.nil))
         ·
          try simp only [List.getElem_toArray, List.getElem_cons_succ, List.getElem_cons_zero]
          go_simp
          refine hK.out _ _ noK ?_
          clear hK KK
          try simp only [Act.put, List.setIfInBounds_toArray, List.set_cons_zero, List.set_cons_succ]
          refine wpAnyK_ready (rs := [12]) (by kernel_rfl) (by simp) ?_
          refine AllReadyK.cons (o := pq13) rfl (fun KK hK => ?_) (AllReadyK.nil)
          try simp only [List.getElem_toArray, List.getElem_cons_succ, List.getElem_cons_zero]
          go_simp
          refine hK.out _ _ noK ?_
          clear hK KK
          try simp only [Act.put, List.setIfInBounds_toArray, List.set_cons_zero, List.set_cons_succ]
          refine wpAnyK_ready (rs := [13]) (by kernel_rfl) (by simp) ?_
          refine AllReadyK.cons (o := pq14) rfl (fun KK hK => ?_) (AllReadyK.nil)
          try simp only [List.getElem_toArray, List.getElem_cons_succ, List.getElem_cons_zero]
          have gy := HP2.out.at (x := Y) (o := .cells #[.slice none 0 0, .int .i64 0] 36 (0, 0)) (by simp)
          have e0 := cell_blk gy 0 _ rfl
          have e1 := cell_blk gy 1 _ rfl
          have e2 := blk_lt gy
          have e3 := frozen_blk gy 0
          have e4 := frozen_blk gy 1
          go_simp
          obtain ⟨z3, hz3⟩ : ∃ Q, Q = (z2.setCell ⟨Y, 0, none⟩ (.slice bo' m' bc')).setCell ⟨Y, 1, none⟩ (.int .i64 most) := ⟨_, rfl⟩
          rw [← hz3]
          have HP3 : Hid (PS u p' most L1 bo' m' bc' [(Y, wantO bo' m' bc' most), (T9, wantO bo m bc most), (X5, tmO k i)] z3) := Lib.hid (HP2.out.set (C' := #[.slice bo' m' bc', .int .i64 most]) HYT.out.2.2 (by simp) (by decide) (by decide) (by
           intro x hx
           simp at hx
           rcases hx with rfl | rfl
           ·
            exact fun e => HYT.out.1 e.symm
           ·
            exact fun e => HYT.out.2.1 e.symm) (by rw [hz3]; exact setCell_blk (setCell_blk gy 0 _) 1 _) (by rw [hz3]; exact ((Mod.refl (fun q => q = Y) z2).setCell ⟨Y, 0, none⟩ (.inl rfl) _).setCell ⟨Y, 1, none⟩ (.inl rfl) _))
          clear e0 e1 e2 e3 e4 hz3 gy
          refine hK.out _ _ noK ?_
          clear hK KK
          try simp only [Act.put, List.setIfInBounds_toArray, List.set_cons_zero, List.set_cons_succ]
          refine wpAnyK_ready (rs := [14]) (by kernel_rfl) (by simp) ?_
          refine AllReadyK.cons (o := pq15) rfl (fun KK hK => ?_) (AllReadyK.nil)
          try simp only [List.getElem_toArray, List.getElem_cons_succ, List.getElem_cons_zero]
          go_simp
          refine hK.out _ _ noK ?_
          clear hK KK
          try simp only [Act.put, List.setIfInBounds_toArray, List.set_cons_zero, List.set_cons_succ]
          refine wpAnyK_done (by kernel_rfl) ?_ _
          go_wp2
          go_meet
          exact ⟨p', bo', m', bc', Y, rfl, rfl, rfl, HP3.out, HYT.out.1, HYT.out.2.2⟩
         ·
          try simp only [List.getElem_toArray, List.getElem_cons_succ, List.getElem_cons_zero]
          go_simp
          refine hK.out _ _ noK ?_
          clear hK KK
          try simp only [Act.put, List.setIfInBounds_toArray, List.set_cons_zero, List.set_cons_succ]
          refine wpAnyK_ready (rs := [9]) (by kernel_rfl) (by simp) ?_
          refine AllReadyK.cons (o := pq11) rfl (fun KK hK => ?_) (AllReadyK.nil)
          try simp only [List.getElem_toArray, List.getElem_cons_succ, List.getElem_cons_zero]
          go_simp
          refine hK.out _ _ noK ?_
          clear hK KK
          try simp only [Act.put, List.setIfInBounds_toArray, List.set_cons_zero, List.set_cons_succ]
          refine wpAnyK_ready (rs := [13]) (by kernel_rfl) (by simp) ?_
          refine AllReadyK.cons (o := pq14) rfl (fun KK hK => ?_) (AllReadyK.nil)
          try simp only [List.getElem_toArray, List.getElem_cons_succ, List.getElem_cons_zero]
          have gy := HP2.out.at (x := Y) (o := .cells #[.slice none 0 0, .int .i64 0] 36 (0, 0)) (by simp)
          have e0 := cell_blk gy 0 _ rfl
          have e1 := cell_blk gy 1 _ rfl
          have e2 := blk_lt gy
          have e3 := frozen_blk gy 0
          have e4 := frozen_blk gy 1
          go_simp
          obtain ⟨z3, hz3⟩ : ∃ Q, Q = (z2.setCell ⟨Y, 0, none⟩ (.slice bo' m' bc')).setCell ⟨Y, 1, none⟩ (.int .i64 most) := ⟨_, rfl⟩
          rw [← hz3]
          have HP3 : Hid (PS u p' most L1 bo' m' bc' [(Y, wantO bo' m' bc' most), (T9, wantO bo m bc most), (X5, tmO k i)] z3) := Lib.hid (HP2.out.set (C' := #[.slice bo' m' bc', .int .i64 most]) HYT.out.2.2 (by simp) (by decide) (by decide) (by
           intro x hx
           simp at hx
           rcases hx with rfl | rfl
           ·
            exact fun e => HYT.out.1 e.symm
           ·
            exact fun e => HYT.out.2.1 e.symm) (by rw [hz3]; exact setCell_blk (setCell_blk gy 0 _) 1 _) (by rw [hz3]; exact ((Mod.refl (fun q => q = Y) z2).setCell ⟨Y, 0, none⟩ (.inl rfl) _).setCell ⟨Y, 1, none⟩ (.inl rfl) _))
          clear e0 e1 e2 e3 e4 hz3 gy
          refine hK.out _ _ noK ?_
          clear hK KK
          try simp only [Act.put, List.setIfInBounds_toArray, List.set_cons_zero, List.set_cons_succ]
          refine wpAnyK_ready (rs := [14]) (by kernel_rfl) (by simp) ?_
          refine AllReadyK.cons (o := pq15) rfl (fun KK hK => ?_) (AllReadyK.nil)
          try simp only [List.getElem_toArray, List.getElem_cons_succ, List.getElem_cons_zero]
          go_simp
          refine hK.out _ _ noK ?_
          clear hK KK
          try simp only [Act.put, List.setIfInBounds_toArray, List.set_cons_zero, List.set_cons_succ]
          refine wpAnyK_done (by kernel_rfl) ?_ _
          go_wp2
          go_meet
          exact ⟨p', bo', m', bc', Y, rfl, rfl, rfl, HP3.out, HYT.out.1, HYT.out.2.2⟩
       ·
        try simp only [List.getElem_toArray, List.getElem_cons_succ, List.getElem_cons_zero]
        obtain ⟨Y, hY⟩ : ∃ Q, Q = z1.heap.size := ⟨_, rfl⟩
        obtain ⟨z2, hz2⟩ : ∃ Q, Q = z1.alloc (.cells #[.slice none 0 0, .int .i64 0] 36) := ⟨_, rfl⟩
        go_simp
        have hp2 := HP1.out.add (.cells #[.slice none 0 0, .int .i64 0] 36)
        rw [← hz2, ← hY] at hp2 ⊢
        have HP2 := Lib.hid hp2
        have HYT : Hid (Y ≠ T9 ∧ Y ≠ X5 ∧ u.heap.size ≤ Y) := Lib.hid (by
         have h1 := blk_lt (HP1.out.at (x := T9) (o := wantO bo m bc most) (by simp))
         have h2 := blk_lt (HP1.out.at (x := X5) (o := tmO k i) (by simp))
         have h3 := HP1.out.bel.size
         omega)
        clear hz2 hY hp2
        refine hK.out _ _ noK ?_
        clear hK KK
        try simp only [Act.put, List.setIfInBounds_toArray, List.set_cons_zero, List.set_cons_succ]
        refine wpAnyK_ready (rs := [9, 10, 12]) (by kernel_rfl) (by simp) ?_
        refine AllReadyK.cons (o := pq11) rfl (fun KK hK => ?_) (AllReadyK.cons (o := pq12) rfl (fun KK hK => ?_) (AllReadyK.cons (o := pq13) rfl (fun KK hK => ?_) (AllReadyK.nil)))
        ·
         try simp only [List.getElem_toArray, List.getElem_cons_succ, List.getElem_cons_zero]
         go_simp
         refine hK.out _ _ noK ?_
         clear hK KK
         try simp only [Act.put, List.setIfInBounds_toArray, List.set_cons_zero, List.set_cons_succ]
         refine wpAnyK_ready (rs := [10, 12]) (by kernel_rfl) (by simp) ?_
         refine AllReadyK.cons (o := pq12) rfl (fun KK hK => ?_) (AllReadyK.cons (o := pq13) rfl (fun KK hK => ?_) (AllReadyK.nil))
         ·
          try simp only [List.getElem_toArray, List.getElem_cons_succ, List.getElem_cons_zero]
          go_simp
          refine hK.out _ _ noK ?_
          clear hK KK
          try simp only [Act.put, List.setIfInBounds_toArray, List.set_cons_zero, List.set_cons_succ]
          refine wpAnyK_ready (rs := [12]) (by kernel_rfl) (by simp) ?_
          refine AllReadyK.cons (o := pq13) rfl (fun KK hK => ?_) (AllReadyK.nil)
          try simp only [List.getElem_toArray, List.getElem_cons_succ, List.getElem_cons_zero]
          go_simp
          refine hK.out _ _ noK ?_
          clear hK KK
          try simp only [Act.put, List.setIfInBounds_toArray, List.set_cons_zero, List.set_cons_succ]
          refine wpAnyK_ready (rs := [13]) (by kernel_rfl) (by simp) ?_
          refine AllReadyK.cons (o := pq14) rfl (fun KK hK => ?_) (AllReadyK.nil)
          try simp only [List.getElem_toArray, List.getElem_cons_succ, List.getElem_cons_zero]
          have gy := HP2.out.at (x := Y) (o := .cells #[.slice none 0 0, .int .i64 0] 36 (0, 0)) (by simp)
          have e0 := cell_blk gy 0 _ rfl
          have e1 := cell_blk gy 1 _ rfl
          have e2 := blk_lt gy
          have e3 := frozen_blk gy 0
          have e4 := frozen_blk gy 1
          go_simp
          obtain ⟨z3, hz3⟩ : ∃ Q, Q = (z2.setCell ⟨Y, 0, none⟩ (.slice bo' m' bc')).setCell ⟨Y, 1, none⟩ (.int .i64 most) := ⟨_, rfl⟩
          rw [← hz3]
          have HP3 : Hid (PS u p' most L1 bo' m' bc' [(Y, wantO bo' m' bc' most), (T9, wantO bo m bc most), (X5, tmO k i)] z3) := Lib.hid (HP2.out.set (C' := #[.slice bo' m' bc', .int .i64 most]) HYT.out.2.2 (by simp) (by decide) (by decide) (by
           intro x hx
           simp at hx
           rcases hx with rfl | rfl
           ·
            exact fun e => HYT.out.1 e.symm
           ·
            exact fun e => HYT.out.2.1 e.symm) (by rw [hz3]; exact setCell_blk (setCell_blk gy 0 _) 1 _) (by rw [hz3]; exact ((Mod.refl (fun q => q = Y) z2).setCell ⟨Y, 0, none⟩ (.inl rfl) _).setCell ⟨Y, 1, none⟩ (.inl rfl) _))
          clear e0 e1 e2 e3 e4 hz3 gy
          refine hK.out _ _ noK ?_
          clear hK KK
          try simp only [Act.put, List.setIfInBounds_toArray, List.set_cons_zero, List.set_cons_succ]
          refine wpAnyK_ready (rs := [14]) (by kernel_rfl) (by simp) ?_
          refine AllReadyK.cons (o := pq15) rfl (fun KK hK => ?_) (AllReadyK.nil)
          try simp only [List.getElem_toArray, List.getElem_cons_succ, List.getElem_cons_zero]
          go_simp
          refine hK.out _ _ noK ?_
          clear hK KK
          try simp only [Act.put, List.setIfInBounds_toArray, List.set_cons_zero, List.set_cons_succ]
          refine wpAnyK_done (by kernel_rfl) ?_ _
          go_wp2
          go_meet
          exact ⟨p', bo', m', bc', Y, rfl, rfl, rfl, HP3.out, HYT.out.1, HYT.out.2.2⟩
         ·
          try simp only [List.getElem_toArray, List.getElem_cons_succ, List.getElem_cons_zero]
          go_simp
          refine hK.out _ _ noK ?_
          clear hK KK
          try simp only [Act.put, List.setIfInBounds_toArray, List.set_cons_zero, List.set_cons_succ]
          refine wpAnyK_ready (rs := [10, 13]) (by kernel_rfl) (by simp) ?_
          refine AllReadyK.cons (o := pq12) rfl (fun KK hK => ?_) (AllReadyK.cons (o := pq14) rfl (fun KK hK => ?_) (AllReadyK.nil))
          ·
           try simp only [List.getElem_toArray, List.getElem_cons_succ, List.getElem_cons_zero]
           go_simp
           refine hK.out _ _ noK ?_
           clear hK KK
           try simp only [Act.put, List.setIfInBounds_toArray, List.set_cons_zero, List.set_cons_succ]
           refine wpAnyK_ready (rs := [13]) (by kernel_rfl) (by simp) ?_
           refine AllReadyK.cons (o := pq14) rfl (fun KK hK => ?_) (AllReadyK.nil)
           try simp only [List.getElem_toArray, List.getElem_cons_succ, List.getElem_cons_zero]
           have gy := HP2.out.at (x := Y) (o := .cells #[.slice none 0 0, .int .i64 0] 36 (0, 0)) (by simp)
           have e0 := cell_blk gy 0 _ rfl
           have e1 := cell_blk gy 1 _ rfl
           have e2 := blk_lt gy
           have e3 := frozen_blk gy 0
           have e4 := frozen_blk gy 1
           go_simp
           obtain ⟨z3, hz3⟩ : ∃ Q, Q = (z2.setCell ⟨Y, 0, none⟩ (.slice bo' m' bc')).setCell ⟨Y, 1, none⟩ (.int .i64 most) := ⟨_, rfl⟩
           rw [← hz3]
           have HP3 : Hid (PS u p' most L1 bo' m' bc' [(Y, wantO bo' m' bc' most), (T9, wantO bo m bc most), (X5, tmO k i)] z3) := Lib.hid (HP2.out.set (C' := #[.slice bo' m' bc', .int .i64 most]) HYT.out.2.2 (by simp) (by decide) (by decide) (by
            intro x hx
            simp at hx
            rcases hx with rfl | rfl
            ·
             exact fun e => HYT.out.1 e.symm
            ·
             exact fun e => HYT.out.2.1 e.symm) (by rw [hz3]; exact setCell_blk (setCell_blk gy 0 _) 1 _) (by rw [hz3]; exact ((Mod.refl (fun q => q = Y) z2).setCell ⟨Y, 0, none⟩ (.inl rfl) _).setCell ⟨Y, 1, none⟩ (.inl rfl) _))
           clear e0 e1 e2 e3 e4 hz3 gy
           refine hK.out _ _ noK ?_
           clear hK KK
           try simp only [Act.put, List.setIfInBounds_toArray, List.set_cons_zero, List.set_cons_succ]
           refine wpAnyK_ready (rs := [14]) (by kernel_rfl) (by simp) ?_
           refine AllReadyK.cons (o := pq15) rfl (fun KK hK => ?_) (AllReadyK.nil)
           try simp only [List.getElem_toArray, List.getElem_cons_succ, List.getElem_cons_zero]
           go_simp
           refine hK.out _ _ noK ?_
           clear hK KK
           try simp only [Act.put, List.setIfInBounds_toArray, List.set_cons_zero, List.set_cons_succ]
           refine wpAnyK_done (by kernel_rfl) ?_ _
           go_wp2
           go_meet
           exact ⟨p', bo', m', bc', Y, rfl, rfl, rfl, HP3.out, HYT.out.1, HYT.out.2.2⟩
          ·
           try simp only [List.getElem_toArray, List.getElem_cons_succ, List.getElem_cons_zero]
           have gy := HP2.out.at (x := Y) (o := .cells #[.slice none 0 0, .int .i64 0] 36 (0, 0)) (by simp)
           have e0 := cell_blk gy 0 _ rfl
           have e1 := cell_blk gy 1 _ rfl
           have e2 := blk_lt gy
           have e3 := frozen_blk gy 0
           have e4 := frozen_blk gy 1
           go_simp
           obtain ⟨z3, hz3⟩ : ∃ Q, Q = (z2.setCell ⟨Y, 0, none⟩ (.slice bo' m' bc')).setCell ⟨Y, 1, none⟩ (.int .i64 most) := ⟨_, rfl⟩
           rw [← hz3]
           have HP3 : Hid (PS u p' most L1 bo' m' bc' [(Y, wantO bo' m' bc' most), (T9, wantO bo m bc most), (X5, tmO k i)] z3) := Lib.hid (HP2.out.set (C' := #[.slice bo' m' bc', .int .i64 most]) HYT.out.2.2 (by simp) (by decide) (by decide) (by
            intro x hx
            simp at hx
            rcases hx with rfl | rfl
            ·
             exact fun e => HYT.out.1 e.symm
            ·
             exact fun e => HYT.out.2.1 e.symm) (by rw [hz3]; exact setCell_blk (setCell_blk gy 0 _) 1 _) (by rw [hz3]; exact ((Mod.refl (fun q => q = Y) z2).setCell ⟨Y, 0, none⟩ (.inl rfl) _).setCell ⟨Y, 1, none⟩ (.inl rfl) _))
           clear e0 e1 e2 e3 e4 hz3 gy
           refine hK.out _ _ noK ?_
           clear hK KK
           try simp only [Act.put, List.setIfInBounds_toArray, List.set_cons_zero, List.set_cons_succ]
           refine wpAnyK_ready (rs := [10]) (by kernel_rfl) (by simp) ?_
           refine AllReadyK.cons (o := pq12) rfl (fun KK hK => ?_) (AllReadyK.nil)
           try simp only [List.getElem_toArray, List.getElem_cons_succ, List.getElem_cons_zero]
           go_simp
           refine hK.out _ _ noK ?_
           clear hK KK
           try simp only [Act.put, List.setIfInBounds_toArray, List.set_cons_zero, List.set_cons_succ]
           refine wpAnyK_ready (rs := [14]) (by kernel_rfl) (by simp) ?_
           refine AllReadyK.cons (o := pq15) rfl (fun KK hK => ?_) (AllReadyK.nil)
           try simp only [List.getElem_toArray, List.getElem_cons_succ, List.getElem_cons_zero]
           go_simp
           refine hK.out _ _ noK ?_
           clear hK KK
           try simp only [Act.put, List.setIfInBounds_toArray, List.set_cons_zero, List.set_cons_succ]
           refine wpAnyK_done (by kernel_rfl) ?_ _
           go_wp2
           go_meet
           exact ⟨p', bo', m', bc', Y, rfl, rfl, rfl, HP3.out, HYT.out.1, HYT.out.2.2⟩
        ·
         try simp only [List.getElem_toArray, List.getElem_cons_succ, List.getElem_cons_zero]
         go_simp
         refine hK.out _ _ noK ?_
         clear hK KK
         try simp only [Act.put, List.setIfInBounds_toArray, List.set_cons_zero, List.set_cons_succ]
         refine wpAnyK_ready (rs := [9, 12]) (by kernel_rfl) (by simp) ?_
         refine AllReadyK.cons (o := pq11) rfl (fun KK hK => ?_) (AllReadyK.cons (o := pq13) rfl (fun KK hK => ?_) (AllReadyK.nil))
         ·
          try simp only [List.getElem_toArray, List.getElem_cons_succ, List.getElem_cons_zero]
          go_simp
          refine hK.out _ _ noK ?_
          clear hK KK
          try simp only [Act.put, List.setIfInBounds_toArray, List.set_cons_zero, List.set_cons_succ]
          refine wpAnyK_ready (rs := [12]) (by kernel_rfl) (by simp) ?_
          refine AllReadyK.cons (o := pq13) rfl (fun KK hK => ?_) (AllReadyK.nil)
          try simp only [List.getElem_toArray, List.getElem_cons_succ, List.getElem_cons_zero]
          go_simp
          refine hK.out _ _ noK ?_
          clear hK KK
          try simp only [Act.put, List.setIfInBounds_toArray, List.set_cons_zero, List.set_cons_succ]
          refine wpAnyK_ready (rs := [13]) (by kernel_rfl) (by simp) ?_
          refine AllReadyK.cons (o := pq14) rfl (fun KK hK => ?_) (AllReadyK.nil)
          try simp only [List.getElem_toArray, List.getElem_cons_succ, List.getElem_cons_zero]
          have gy := HP2.out.at (x := Y) (o := .cells #[.slice none 0 0, .int .i64 0] 36 (0, 0)) (by simp)
          have e0 := cell_blk gy 0 _ rfl
          have e1 := cell_blk gy 1 _ rfl
          have e2 := blk_lt gy
          have e3 := frozen_blk gy 0
          have e4 := frozen_blk gy 1
          go_simp
          obtain ⟨z3, hz3⟩ : ∃ Q, Q = (z2.setCell ⟨Y, 0, none⟩ (.slice bo' m' bc')).setCell ⟨Y, 1, none⟩ (.int .i64 most) := ⟨_, rfl⟩
          rw [← hz3]
          have HP3 : Hid (PS u p' most L1 bo' m' bc' [(Y, wantO bo' m' bc' most), (T9, wantO bo m bc most), (X5, tmO k i)] z3) := Lib.hid (HP2.out.set (C' := #[.slice bo' m' bc', .int .i64 most]) HYT.out.2.2 (by simp) (by decide) (by decide) (by
           intro x hx
           simp at hx
           rcases hx with rfl | rfl
           ·
            exact fun e => HYT.out.1 e.symm
           ·
            exact fun e => HYT.out.2.1 e.symm) (by rw [hz3]; exact setCell_blk (setCell_blk gy 0 _) 1 _) (by rw [hz3]; exact ((Mod.refl (fun q => q = Y) z2).setCell ⟨Y, 0, none⟩ (.inl rfl) _).setCell ⟨Y, 1, none⟩ (.inl rfl) _))
          clear e0 e1 e2 e3 e4 hz3 gy
          refine hK.out _ _ noK ?_
          clear hK KK
          try simp only [Act.put, List.setIfInBounds_toArray, List.set_cons_zero, List.set_cons_succ]
          refine wpAnyK_ready (rs := [14]) (by kernel_rfl) (by simp) ?_
          refine AllReadyK.cons (o := pq15) rfl (fun KK hK => ?_) (AllReadyK.nil)
          try simp only [List.getElem_toArray, List.getElem_cons_succ, List.getElem_cons_zero]
          go_simp
          refine hK.out _ _ noK ?_
          clear hK KK
          try simp only [Act.put, List.setIfInBounds_toArray, List.set_cons_zero, List.set_cons_succ]
          refine wpAnyK_done (by kernel_rfl) ?_ _
          go_wp2
          go_meet
          exact ⟨p', bo', m', bc', Y, rfl, rfl, rfl, HP3.out, HYT.out.1, HYT.out.2.2⟩
         ·
          try simp only [List.getElem_toArray, List.getElem_cons_succ, List.getElem_cons_zero]
          go_simp
          refine hK.out _ _ noK ?_
          clear hK KK
          try simp only [Act.put, List.setIfInBounds_toArray, List.set_cons_zero, List.set_cons_succ]
          refine wpAnyK_ready (rs := [9]) (by kernel_rfl) (by simp) ?_
          refine AllReadyK.cons (o := pq11) rfl (fun KK hK => ?_) (AllReadyK.nil)
          try simp only [List.getElem_toArray, List.getElem_cons_succ, List.getElem_cons_zero]
          go_simp
          refine hK.out _ _ noK ?_
          clear hK KK
          try simp only [Act.put, List.setIfInBounds_toArray, List.set_cons_zero, List.set_cons_succ]
          refine wpAnyK_ready (rs := [13]) (by kernel_rfl) (by simp) ?_
          refine AllReadyK.cons (o := pq14) rfl (fun KK hK => ?_) (AllReadyK.nil)
          try simp only [List.getElem_toArray, List.getElem_cons_succ, List.getElem_cons_zero]
          have gy := HP2.out.at (x := Y) (o := .cells #[.slice none 0 0, .int .i64 0] 36 (0, 0)) (by simp)
          have e0 := cell_blk gy 0 _ rfl
          have e1 := cell_blk gy 1 _ rfl
          have e2 := blk_lt gy
          have e3 := frozen_blk gy 0
          have e4 := frozen_blk gy 1
          go_simp
          obtain ⟨z3, hz3⟩ : ∃ Q, Q = (z2.setCell ⟨Y, 0, none⟩ (.slice bo' m' bc')).setCell ⟨Y, 1, none⟩ (.int .i64 most) := ⟨_, rfl⟩
          rw [← hz3]
          have HP3 : Hid (PS u p' most L1 bo' m' bc' [(Y, wantO bo' m' bc' most), (T9, wantO bo m bc most), (X5, tmO k i)] z3) := Lib.hid (HP2.out.set (C' := #[.slice bo' m' bc', .int .i64 most]) HYT.out.2.2 (by simp) (by decide) (by decide) (by
           intro x hx
           simp at hx
           rcases hx with rfl | rfl
           ·
            exact fun e => HYT.out.1 e.symm
           ·
            exact fun e => HYT.out.2.1 e.symm) (by rw [hz3]; exact setCell_blk (setCell_blk gy 0 _) 1 _) (by rw [hz3]; exact ((Mod.refl (fun q => q = Y) z2).setCell ⟨Y, 0, none⟩ (.inl rfl) _).setCell ⟨Y, 1, none⟩ (.inl rfl) _))
          clear e0 e1 e2 e3 e4 hz3 gy
          refine hK.out _ _ noK ?_
          clear hK KK
          try simp only [Act.put, List.setIfInBounds_toArray, List.set_cons_zero, List.set_cons_succ]
          refine wpAnyK_ready (rs := [14]) (by kernel_rfl) (by simp) ?_
          refine AllReadyK.cons (o := pq15) rfl (fun KK hK => ?_) (AllReadyK.nil)
          try simp only [List.getElem_toArray, List.getElem_cons_succ, List.getElem_cons_zero]
          go_simp
          refine hK.out _ _ noK ?_
          clear hK KK
          try simp only [Act.put, List.setIfInBounds_toArray, List.set_cons_zero, List.set_cons_succ]
          refine wpAnyK_done (by kernel_rfl) ?_ _
          go_wp2
          go_meet
          exact ⟨p', bo', m', bc', Y, rfl, rfl, rfl, HP3.out, HYT.out.1, HYT.out.2.2⟩
        ·
         try simp only [List.getElem_toArray, List.getElem_cons_succ, List.getElem_cons_zero]
         go_simp
         refine hK.out _ _ noK ?_
         clear hK KK
         try simp only [Act.put, List.setIfInBounds_toArray, List.set_cons_zero, List.set_cons_succ]
         refine wpAnyK_ready (rs := [9, 10]) (by kernel_rfl) (by simp) ?_
         refine AllReadyK.cons (o := pq11) rfl (fun KK hK => ?_) (AllReadyK.cons (o := pq12) rfl (fun KK hK => ?_) (AllReadyK.nil))
         ·
          try simp only [List.getElem_toArray, List.getElem_cons_succ, List.getElem_cons_zero]
          go_simp
          refine hK.out _ _ noK ?_
          clear hK KK
          try simp only [Act.put, List.setIfInBounds_toArray, List.set_cons_zero, List.set_cons_succ]
          refine wpAnyK_ready (rs := [10, 13]) (by kernel_rfl) (by simp) ?_
          refine AllReadyK.cons (o := pq12) rfl (fun KK hK => ?_) (AllReadyK.cons (o := pq14) rfl (fun KK hK => ?_) (AllReadyK.nil))
          ·
           try simp only [List.getElem_toArray, List.getElem_cons_succ, List.getElem_cons_zero]
           go_simp
           refine hK.out _ _ noK ?_
           clear hK KK
           try simp only [Act.put, List.setIfInBounds_toArray, List.set_cons_zero, List.set_cons_succ]
           refine wpAnyK_ready (rs := [13]) (by kernel_rfl) (by simp) ?_
           refine AllReadyK.cons (o := pq14) rfl (fun KK hK => ?_) (AllReadyK.nil)
           try simp only [List.getElem_toArray, List.getElem_cons_succ, List.getElem_cons_zero]
           have gy := HP2.out.at (x := Y) (o := .cells #[.slice none 0 0, .int .i64 0] 36 (0, 0)) (by simp)
           have e0 := cell_blk gy 0 _ rfl
           have e1 := cell_blk gy 1 _ rfl
           have e2 := blk_lt gy
           have e3 := frozen_blk gy 0
           have e4 := frozen_blk gy 1
           go_simp
           obtain ⟨z3, hz3⟩ : ∃ Q, Q = (z2.setCell ⟨Y, 0, none⟩ (.slice bo' m' bc')).setCell ⟨Y, 1, none⟩ (.int .i64 most) := ⟨_, rfl⟩
           rw [← hz3]
           have HP3 : Hid (PS u p' most L1 bo' m' bc' [(Y, wantO bo' m' bc' most), (T9, wantO bo m bc most), (X5, tmO k i)] z3) := Lib.hid (HP2.out.set (C' := #[.slice bo' m' bc', .int .i64 most]) HYT.out.2.2 (by simp) (by decide) (by decide) (by
            intro x hx
            simp at hx
            rcases hx with rfl | rfl
            ·
             exact fun e => HYT.out.1 e.symm
            ·
             exact fun e => HYT.out.2.1 e.symm) (by rw [hz3]; exact setCell_blk (setCell_blk gy 0 _) 1 _) (by rw [hz3]; exact ((Mod.refl (fun q => q = Y) z2).setCell ⟨Y, 0, none⟩ (.inl rfl) _).setCell ⟨Y, 1, none⟩ (.inl rfl) _))
           clear e0 e1 e2 e3 e4 hz3 gy
           refine hK.out _ _ noK ?_
           clear hK KK
           try simp only [Act.put, List.setIfInBounds_toArray, List.set_cons_zero, List.set_cons_succ]
           refine wpAnyK_ready (rs := [14]) (by kernel_rfl) (by simp) ?_
           refine AllReadyK.cons (o := pq15) rfl (fun KK hK => ?_) (AllReadyK.nil)
           try simp only [List.getElem_toArray, List.getElem_cons_succ, List.getElem_cons_zero]
           go_simp
           refine hK.out _ _ noK ?_
           clear hK KK
           try simp only [Act.put, List.setIfInBounds_toArray, List.set_cons_zero, List.set_cons_succ]
           refine wpAnyK_done (by kernel_rfl) ?_ _
           go_wp2
           go_meet
           exact ⟨p', bo', m', bc', Y, rfl, rfl, rfl, HP3.out, HYT.out.1, HYT.out.2.2⟩
          ·
           try simp only [List.getElem_toArray, List.getElem_cons_succ, List.getElem_cons_zero]
           have gy := HP2.out.at (x := Y) (o := .cells #[.slice none 0 0, .int .i64 0] 36 (0, 0)) (by simp)
           have e0 := cell_blk gy 0 _ rfl
           have e1 := cell_blk gy 1 _ rfl
           have e2 := blk_lt gy
           have e3 := frozen_blk gy 0
           have e4 := frozen_blk gy 1
           go_simp
           obtain ⟨z3, hz3⟩ : ∃ Q, Q = (z2.setCell ⟨Y, 0, none⟩ (.slice bo' m' bc')).setCell ⟨Y, 1, none⟩ (.int .i64 most) := ⟨_, rfl⟩
           rw [← hz3]
           have HP3 : Hid (PS u p' most L1 bo' m' bc' [(Y, wantO bo' m' bc' most), (T9, wantO bo m bc most), (X5, tmO k i)] z3) := Lib.hid (HP2.out.set (C' := #[.slice bo' m' bc', .int .i64 most]) HYT.out.2.2 (by simp) (by decide) (by decide) (by
            intro x hx
            simp at hx
            rcases hx with rfl | rfl
            ·
             exact fun e => HYT.out.1 e.symm
            ·
             exact fun e => HYT.out.2.1 e.symm) (by rw [hz3]; exact setCell_blk (setCell_blk gy 0 _) 1 _) (by rw [hz3]; exact ((Mod.refl (fun q => q = Y) z2).setCell ⟨Y, 0, none⟩ (.inl rfl) _).setCell ⟨Y, 1, none⟩ (.inl rfl) _))
           clear e0 e1 e2 e3 e4 hz3 gy
           refine hK.out _ _ noK ?_
           clear hK KK
           try simp only [Act.put, List.setIfInBounds_toArray, List.set_cons_zero, List.set_cons_succ]
           refine wpAnyK_ready (rs := [10]) (by kernel_rfl) (by simp) ?_
           refine AllReadyK.cons (o := pq12) rfl (fun KK hK => ?_) (AllReadyK.nil)
           try simp only [List.getElem_toArray, List.getElem_cons_succ, List.getElem_cons_zero]
           go_simp
           refine hK.out _ _ noK ?_
           clear hK KK
           try simp only [Act.put, List.setIfInBounds_toArray, List.set_cons_zero, List.set_cons_succ]
           refine wpAnyK_ready (rs := [14]) (by kernel_rfl) (by simp) ?_
           refine AllReadyK.cons (o := pq15) rfl (fun KK hK => ?_) (AllReadyK.nil)
           try simp only [List.getElem_toArray, List.getElem_cons_succ, List.getElem_cons_zero]
           go_simp
           refine hK.out _ _ noK ?_
           clear hK KK
           try simp only [Act.put, List.setIfInBounds_toArray, List.set_cons_zero, List.set_cons_succ]
           refine wpAnyK_done (by kernel_rfl) ?_ _
           go_wp2
           go_meet
           exact ⟨p', bo', m', bc', Y, rfl, rfl, rfl, HP3.out, HYT.out.1, HYT.out.2.2⟩
         ·
          try simp only [List.getElem_toArray, List.getElem_cons_succ, List.getElem_cons_zero]
          go_simp
          refine hK.out _ _ noK ?_
          clear hK KK
          try simp only [Act.put, List.setIfInBounds_toArray, List.set_cons_zero, List.set_cons_succ]
          refine wpAnyK_ready (rs := [9]) (by kernel_rfl) (by simp) ?_
          refine AllReadyK.cons (o := pq11) rfl (fun KK hK => ?_) (AllReadyK.nil)
          try simp only [List.getElem_toArray, List.getElem_cons_succ, List.getElem_cons_zero]
          go_simp
          refine hK.out _ _ noK ?_
          clear hK KK
          try simp only [Act.put, List.setIfInBounds_toArray, List.set_cons_zero, List.set_cons_succ]
          refine wpAnyK_ready (rs := [13]) (by kernel_rfl) (by simp) ?_
          refine AllReadyK.cons (o := pq14) rfl (fun KK hK => ?_) (AllReadyK.nil)
          try simp only [List.getElem_toArray, List.getElem_cons_succ, List.getElem_cons_zero]
          have gy := HP2.out.at (x := Y) (o := .cells #[.slice none 0 0, .int .i64 0] 36 (0, 0)) (by simp)
          have e0 := cell_blk gy 0 _ rfl
          have e1 := cell_blk gy 1 _ rfl
          have e2 := blk_lt gy
          have e3 := frozen_blk gy 0
          have e4 := frozen_blk gy 1
          go_simp
          obtain ⟨z3, hz3⟩ : ∃ Q, Q = (z2.setCell ⟨Y, 0, none⟩ (.slice bo' m' bc')).setCell ⟨Y, 1, none⟩ (.int .i64 most) := ⟨_, rfl⟩
          rw [← hz3]
          have HP3 : Hid (PS u p' most L1 bo' m' bc' [(Y, wantO bo' m' bc' most), (T9, wantO bo m bc most), (X5, tmO k i)] z3) := Lib.hid (HP2.out.set (C' := #[.slice bo' m' bc', .int .i64 most]) HYT.out.2.2 (by simp) (by decide) (by decide) (by
           intro x hx
           simp at hx
           rcases hx with rfl | rfl
           ·
            exact fun e => HYT.out.1 e.symm
           ·
            exact fun e => HYT.out.2.1 e.symm) (by rw [hz3]; exact setCell_blk (setCell_blk gy 0 _) 1 _) (by rw [hz3]; exact ((Mod.refl (fun q => q = Y) z2).setCell ⟨Y, 0, none⟩ (.inl rfl) _).setCell ⟨Y, 1, none⟩ (.inl rfl) _))
          clear e0 e1 e2 e3 e4 hz3 gy
          refine hK.out _ _ noK ?_
          clear hK KK
          try simp only [Act.put, List.setIfInBounds_toArray, List.set_cons_zero, List.set_cons_succ]
          refine wpAnyK_ready (rs := [14]) (by kernel_rfl) (by simp) ?_
          refine AllReadyK.cons (o := pq15) rfl (fun KK hK => ?_) (AllReadyK.nil)
          try simp only [List.getElem_toArray, List.getElem_cons_succ, List.getElem_cons_zero]
          go_simp
          refine hK.out _ _ noK ?_
          clear hK KK
          try simp only [Act.put, List.setIfInBounds_toArray, List.set_cons_zero, List.set_cons_succ]
          refine wpAnyK_done (by kernel_rfl) ?_ _
          go_wp2
          go_meet
          exact ⟨p', bo', m', bc', Y, rfl, rfl, rfl, HP3.out, HYT.out.1, HYT.out.2.2⟩
      ·
       try simp only [List.getElem_toArray, List.getElem_cons_succ, List.getElem_cons_zero]
       go_simp
       refine hK.out _ _ noK ?_
       clear hK KK
       try simp only [Act.put, List.setIfInBounds_toArray, List.set_cons_zero, List.set_cons_succ]
       refine wpAnyK_ready (rs := [8, 10, 11]) (by kernel_rfl) (by simp) ?_
       refine AllReadyK.cons (o := pq10) rfl (fun KK hK => ?_) (AllReadyK.cons (o := pq12) rfl (fun KK hK => ?_) (AllReadyK.cons (o := pq8) rfl (fun KK hK => ?_) (AllReadyK.nil)))
       ·
        try simp only [List.getElem_toArray, List.getElem_cons_succ, List.getElem_cons_zero]
        go_simp
        refine hK.out _ _ noK ?_
        clear hK KK
        try simp only [Act.put, List.setIfInBounds_toArray, List.set_cons_zero, List.set_cons_succ]
        refine wpAnyK_ready (rs := [10, 11]) (by kernel_rfl) (by simp) ?_
        refine AllReadyK.cons (o := pq12) rfl (fun KK hK => ?_) (AllReadyK.cons (o := pq8) rfl (fun KK hK => ?_) (AllReadyK.nil))
        ·
         try simp only [List.getElem_toArray, List.getElem_cons_succ, List.getElem_cons_zero]
         go_simp
         refine hK.out _ _ noK ?_
         clear hK KK
         try simp only [Act.put, List.setIfInBounds_toArray, List.set_cons_zero, List.set_cons_succ]
         refine wpAnyK_ready (rs := [11]) (by kernel_rfl) (by simp) ?_
         refine AllReadyK.cons (o := pq8) rfl (fun KK hK => ?_) (AllReadyK.nil)
         try simp only [List.getElem_toArray, List.getElem_cons_succ, List.getElem_cons_zero]
         obtain ⟨Y, hY⟩ : ∃ Q, Q = z1.heap.size := ⟨_, rfl⟩
         obtain ⟨z2, hz2⟩ : ∃ Q, Q = z1.alloc (.cells #[.slice none 0 0, .int .i64 0] 36) := ⟨_, rfl⟩
         go_simp
         have hp2 := HP1.out.add (.cells #[.slice none 0 0, .int .i64 0] 36)
         rw [← hz2, ← hY] at hp2 ⊢
         have HP2 := Lib.hid hp2
         have HYT : Hid (Y ≠ T9 ∧ Y ≠ X5 ∧ u.heap.size ≤ Y) := Lib.hid (by
          have h1 := blk_lt (HP1.out.at (x := T9) (o := wantO bo m bc most) (by simp))
          have h2 := blk_lt (HP1.out.at (x := X5) (o := tmO k i) (by simp))
          have h3 := HP1.out.bel.size
          omega)
         clear hz2 hY hp2
         refine hK.out _ _ noK ?_
         clear hK KK
         try simp only [Act.put, List.setIfInBounds_toArray, List.set_cons_zero, List.set_cons_succ]
         refine wpAnyK_ready (rs := [12]) (by kernel_rfl) (by simp) ?_
         refine AllReadyK.cons (o := pq13) rfl (fun KK hK => ?_) (AllReadyK.nil)
         try simp only [List.getElem_toArray, List.getElem_cons_succ, List.getElem_cons_zero]
         go_simp
         refine hK.out _ _ noK ?_
         clear hK KK
         try simp only [Act.put, List.setIfInBounds_toArray, List.set_cons_zero, List.set_cons_succ]
         refine wpAnyK_ready (rs := [13]) (by kernel_rfl) (by simp) ?_
         refine AllReadyK.cons (o := pq14) rfl (fun KK hK => ?_) (AllReadyK.nil)
         try simp only [List.getElem_toArray, List.getElem_cons_succ, List.getElem_cons_zero]
         have gy := HP2.out.at (x := Y) (o := .cells #[.slice none 0 0, .int .i64 0] 36 (0, 0)) (by simp)
         have e0 := cell_blk gy 0 _ rfl
         have e1 := cell_blk gy 1 _ rfl
         have e2 := blk_lt gy
         have e3 := frozen_blk gy 0
         have e4 := frozen_blk gy 1
         go_simp
         obtain ⟨z3, hz3⟩ : ∃ Q, Q = (z2.setCell ⟨Y, 0, none⟩ (.slice bo' m' bc')).setCell ⟨Y, 1, none⟩ (.int .i64 most) := ⟨_, rfl⟩
         rw [← hz3]
         have HP3 : Hid (PS u p' most L1 bo' m' bc' [(Y, wantO bo' m' bc' most), (T9, wantO bo m bc most), (X5, tmO k i)] z3) := Lib.hid (HP2.out.set (C' := #[.slice bo' m' bc', .int .i64 most]) HYT.out.2.2 (by simp) (by decide) (by decide) (by
          intro x hx
          simp at hx
          rcases hx with rfl | rfl
          ·
           exact fun e => HYT.out.1 e.symm
          ·
           exact fun e => HYT.out.2.1 e.symm) (by rw [hz3]; exact setCell_blk (setCell_blk gy 0 _) 1 _) (by rw [hz3]; exact ((Mod.refl (fun q => q = Y) z2).setCell ⟨Y, 0, none⟩ (.inl rfl) _).setCell ⟨Y, 1, none⟩ (.inl rfl) _))
         clear e0 e1 e2 e3 e4 hz3 gy
         refine hK.out _ _ noK ?_
         clear hK KK
         try simp only [Act.put, List.setIfInBounds_toArray, List.set_cons_zero, List.set_cons_succ]
         refine wpAnyK_ready (rs := [14]) (by kernel_rfl) (by simp) ?_
         refine AllReadyK.cons (o := pq15) rfl (fun KK hK => ?_) (AllReadyK.nil)
         try simp only [List.getElem_toArray, List.getElem_cons_succ, List.getElem_cons_zero]
         go_simp
         refine hK.out _ _ noK ?_
         clear hK KK
         try simp only [Act.put, List.setIfInBounds_toArray, List.set_cons_zero, List.set_cons_succ]
         refine wpAnyK_done (by kernel_rfl) ?_ _
         go_wp2
         go_meet
         exact ⟨p', bo', m', bc', Y, rfl, rfl, rfl, HP3.out, HYT.out.1, HYT.out.2.2⟩
        ·
         try simp only [List.getElem_toArray, List.getElem_cons_succ, List.getElem_cons_zero]
         obtain ⟨Y, hY⟩ : ∃ Q, Q = z1.heap.size := ⟨_, rfl⟩
         obtain ⟨z2, hz2⟩ : ∃ Q, Q = z1.alloc (.cells #[.slice none 0 0, .int .i64 0] 36) := ⟨_, rfl⟩
         go_simp
         have hp2 := HP1.out.add (.cells #[.slice none 0 0, .int .i64 0] 36)
         rw [← hz2, ← hY] at hp2 ⊢
         have HP2 := Lib.hid hp2
         have HYT : Hid (Y ≠ T9 ∧ Y ≠ X5 ∧ u.heap.size ≤ Y) := Lib.hid (by
          have h1 := blk_lt (HP1.out.at (x := T9) (o := wantO bo m bc most) (by simp))
          have h2 := blk_lt (HP1.out.at (x := X5) (o := tmO k i) (by simp))
          have h3 := HP1.out.bel.size
          omega)
         clear hz2 hY hp2
         refine hK.out _ _ noK ?_
         clear hK KK
         try simp only [Act.put, List.setIfInBounds_toArray, List.set_cons_zero, List.set_cons_succ]
         refine wpAnyK_ready (rs := [10, 12]) (by kernel_rfl) (by simp) ?_
         refine AllReadyK.cons (o := pq12) rfl (fun KK hK => ?_) (AllReadyK.cons (o := pq13) rfl (fun KK hK => ?_) (AllReadyK.nil))
         ·
          try simp only [List.getElem_toArray, List.getElem_cons_succ, List.getElem_cons_zero]
          go_simp
          refine hK.out _ _ noK ?_
          clear hK KK
          try simp only [Act.put, List.setIfInBounds_toArray, List.set_cons_zero, List.set_cons_succ]
          refine wpAnyK_ready (rs := [12]) (by kernel_rfl) (by simp) ?_
          refine AllReadyK.cons (o := pq13) rfl (fun KK hK => ?_) (AllReadyK.nil)
          try simp only [List.getElem_toArray, List.getElem_cons_succ, List.getElem_cons_zero]
          go_simp
          refine hK.out _ _ noK ?_
          clear hK KK
          try simp only [Act.put, List.setIfInBounds_toArray, List.set_cons_zero, List.set_cons_succ]
          refine wpAnyK_ready (rs := [13]) (by kernel_rfl) (by simp) ?_
          refine AllReadyK.cons (o := pq14) rfl (fun KK hK => ?_) (AllReadyK.nil)
          try simp only [List.getElem_toArray, List.getElem_cons_succ, List.getElem_cons_zero]
          have gy := HP2.out.at (x := Y) (o := .cells #[.slice none 0 0, .int .i64 0] 36 (0, 0)) (by simp)
          have e0 := cell_blk gy 0 _ rfl
          have e1 := cell_blk gy 1 _ rfl
          have e2 := blk_lt gy
          have e3 := frozen_blk gy 0
          have e4 := frozen_blk gy 1
          go_simp
          obtain ⟨z3, hz3⟩ : ∃ Q, Q = (z2.setCell ⟨Y, 0, none⟩ (.slice bo' m' bc')).setCell ⟨Y, 1, none⟩ (.int .i64 most) := ⟨_, rfl⟩
          rw [← hz3]
          have HP3 : Hid (PS u p' most L1 bo' m' bc' [(Y, wantO bo' m' bc' most), (T9, wantO bo m bc most), (X5, tmO k i)] z3) := Lib.hid (HP2.out.set (C' := #[.slice bo' m' bc', .int .i64 most]) HYT.out.2.2 (by simp) (by decide) (by decide) (by
           intro x hx
           simp at hx
           rcases hx with rfl | rfl
           ·
            exact fun e => HYT.out.1 e.symm
           ·
            exact fun e => HYT.out.2.1 e.symm) (by rw [hz3]; exact setCell_blk (setCell_blk gy 0 _) 1 _) (by rw [hz3]; exact ((Mod.refl (fun q => q = Y) z2).setCell ⟨Y, 0, none⟩ (.inl rfl) _).setCell ⟨Y, 1, none⟩ (.inl rfl) _))
          clear e0 e1 e2 e3 e4 hz3 gy
          refine hK.out _ _ noK ?_
          clear hK KK
          try simp only [Act.put, List.setIfInBounds_toArray, List.set_cons_zero, List.set_cons_succ]
          refine wpAnyK_ready (rs := [14]) (by kernel_rfl) (by simp) ?_
          refine AllReadyK.cons (o := pq15) rfl (fun KK hK => ?_) (AllReadyK.nil)
          try simp only [List.getElem_toArray, List.getElem_cons_succ, List.getElem_cons_zero]
          go_simp
          refine hK.out _ _ noK ?_
          clear hK KK
          try simp only [Act.put, List.setIfInBounds_toArray, List.set_cons_zero, List.set_cons_succ]
          refine wpAnyK_done (by kernel_rfl) ?_ _
          go_wp2
          go_meet
          exact ⟨p', bo', m', bc', Y, rfl, rfl, rfl, HP3.out, HYT.out.1, HYT.out.2.2⟩
         ·
          try simp only [List.getElem_toArray, List.getElem_cons_succ, List.getElem_cons_zero]
          go_simp
          refine hK.out _ _ noK ?_
          clear hK KK
          try simp only [Act.put, List.setIfInBounds_toArray, List.set_cons_zero, List.set_cons_succ]
          refine wpAnyK_ready (rs := [10, 13]) (by kernel_rfl) (by simp) ?_
          refine AllReadyK.cons (o := pq12) rfl (fun KK hK => ?_) (AllReadyK.cons (o := pq14) rfl (fun KK hK => ?_) (AllReadyK.nil))
          ·
           try simp only [List.getElem_toArray, List.getElem_cons_succ, List.getElem_cons_zero]
           go_simp
           refine hK.out _ _ noK ?_
           clear hK KK
           try simp only [Act.put, List.setIfInBounds_toArray, List.set_cons_zero, List.set_cons_succ]
           refine wpAnyK_ready (rs := [13]) (by kernel_rfl) (by simp) ?_
           refine AllReadyK.cons (o := pq14) rfl (fun KK hK => ?_) (AllReadyK.nil)
           try simp only [List.getElem_toArray, List.getElem_cons_succ, List.getElem_cons_zero]
           have gy := HP2.out.at (x := Y) (o := .cells #[.slice none 0 0, .int .i64 0] 36 (0, 0)) (by simp)
           have e0 := cell_blk gy 0 _ rfl
           have e1 := cell_blk gy 1 _ rfl
           have e2 := blk_lt gy
           have e3 := frozen_blk gy 0
           have e4 := frozen_blk gy 1
           go_simp
           obtain ⟨z3, hz3⟩ : ∃ Q, Q = (z2.setCell ⟨Y, 0, none⟩ (.slice bo' m' bc')).setCell ⟨Y, 1, none⟩ (.int .i64 most) := ⟨_, rfl⟩
           rw [← hz3]
           have HP3 : Hid (PS u p' most L1 bo' m' bc' [(Y, wantO bo' m' bc' most), (T9, wantO bo m bc most), (X5, tmO k i)] z3) := Lib.hid (HP2.out.set (C' := #[.slice bo' m' bc', .int .i64 most]) HYT.out.2.2 (by simp) (by decide) (by decide) (by
            intro x hx
            simp at hx
            rcases hx with rfl | rfl
            ·
             exact fun e => HYT.out.1 e.symm
            ·
             exact fun e => HYT.out.2.1 e.symm) (by rw [hz3]; exact setCell_blk (setCell_blk gy 0 _) 1 _) (by rw [hz3]; exact ((Mod.refl (fun q => q = Y) z2).setCell ⟨Y, 0, none⟩ (.inl rfl) _).setCell ⟨Y, 1, none⟩ (.inl rfl) _))
           clear e0 e1 e2 e3 e4 hz3 gy
           refine hK.out _ _ noK ?_
           clear hK KK
           try simp only [Act.put, List.setIfInBounds_toArray, List.set_cons_zero, List.set_cons_succ]
           refine wpAnyK_ready (rs := [14]) (by kernel_rfl) (by simp) ?_
           refine AllReadyK.cons (o := pq15) rfl (fun KK hK => ?_) (AllReadyK.nil)
           try simp only [List.getElem_toArray, List.getElem_cons_succ, List.getElem_cons_zero]
           go_simp
           refine hK.out _ _ noK ?_
           clear hK KK
           try simp only [Act.put, List.setIfInBounds_toArray, List.set_cons_zero, List.set_cons_succ]
           refine wpAnyK_done (by kernel_rfl) ?_ _
           go_wp2
           go_meet
           exact ⟨p', bo', m', bc', Y, rfl, rfl, rfl, HP3.out, HYT.out.1, HYT.out.2.2⟩
          ·
           try simp only [List.getElem_toArray, List.getElem_cons_succ, List.getElem_cons_zero]
           have gy := HP2.out.at (x := Y) (o := .cells #[.slice none 0 0, .int .i64 0] 36 (0, 0)) (by simp)
           have e0 := cell_blk gy 0 _ rfl
           have e1 := cell_blk gy 1 _ rfl
           have e2 := blk_lt gy
           have e3 := frozen_blk gy 0
           have e4 := frozen_blk gy 1
           go_simp
           obtain ⟨z3, hz3⟩ : ∃ Q, Q = (z2.setCell ⟨Y, 0, none⟩ (.slice bo' m' bc')).setCell ⟨Y, 1, none⟩ (.int .i64 most) := ⟨_, rfl⟩
           rw [← hz3]
           have HP3 : Hid (PS u p' most L1 bo' m' bc' [(Y, wantO bo' m' bc' most), (T9, wantO bo m bc most), (X5, tmO k i)] z3) := Lib.hid (HP2.out.set (C' := #[.slice bo' m' bc', .int .i64 most]) HYT.out.2.2 (by simp) (by decide) (by decide) (by
            intro x hx
            simp at hx
            rcases hx with rfl | rfl
            ·
             exact fun e => HYT.out.1 e.symm
            ·
             exact fun e => HYT.out.2.1 e.symm) (by rw [hz3]; exact setCell_blk (setCell_blk gy 0 _) 1 _) (by rw [hz3]; exact ((Mod.refl (fun q => q = Y) z2).setCell ⟨Y, 0, none⟩ (.inl rfl) _).setCell ⟨Y, 1, none⟩ (.inl rfl) _))
           clear e0 e1 e2 e3 e4 hz3 gy
           refine hK.out _ _ noK ?_
           clear hK KK
           try simp only [Act.put, List.setIfInBounds_toArray, List.set_cons_zero, List.set_cons_succ]
           refine wpAnyK_ready (rs := [10]) (by kernel_rfl) (by simp) ?_
           refine AllReadyK.cons (o := pq12) rfl (fun KK hK => ?_) (AllReadyK.nil)
           try simp only [List.getElem_toArray, List.getElem_cons_succ, List.getElem_cons_zero]
           go_simp
           refine hK.out _ _ noK ?_
           clear hK KK
           try simp only [Act.put, List.setIfInBounds_toArray, List.set_cons_zero, List.set_cons_succ]
           refine wpAnyK_ready (rs := [14]) (by kernel_rfl) (by simp) ?_
           refine AllReadyK.cons (o := pq15) rfl (fun KK hK => ?_) (AllReadyK.nil)
           try simp only [List.getElem_toArray, List.getElem_cons_succ, List.getElem_cons_zero]
           go_simp
           refine hK.out _ _ noK ?_
           clear hK KK
           try simp only [Act.put, List.setIfInBounds_toArray, List.set_cons_zero, List.set_cons_succ]
           refine wpAnyK_done (by kernel_rfl) ?_ _
           go_wp2
           go_meet
           exact ⟨p', bo', m', bc', Y, rfl, rfl, rfl, HP3.out, HYT.out.1, HYT.out.2.2⟩
       ·
        try simp only [List.getElem_toArray, List.getElem_cons_succ, List.getElem_cons_zero]
        go_simp
        refine hK.out _ _ noK ?_
        clear hK KK
        try simp only [Act.put, List.setIfInBounds_toArray, List.set_cons_zero, List.set_cons_succ]
        refine wpAnyK_ready (rs := [8, 11]) (by kernel_rfl) (by simp) ?_
        refine AllReadyK.cons (o := pq10) rfl (fun KK hK => ?_) (AllReadyK.cons (o := pq8) rfl (fun KK hK => ?_) (AllReadyK.nil))
        ·
         try simp only [List.getElem_toArray, List.getElem_cons_succ, List.getElem_cons_zero]
         go_simp
         refine hK.out _ _ noK ?_
         clear hK KK
         try simp only [Act.put, List.setIfInBounds_toArray, List.set_cons_zero, List.set_cons_succ]
         refine wpAnyK_ready (rs := [11]) (by kernel_rfl) (by simp) ?_
         refine AllReadyK.cons (o := pq8) rfl (fun KK hK => ?_) (AllReadyK.nil)
         try simp only [List.getElem_toArray, List.getElem_cons_succ, List.getElem_cons_zero]
         obtain ⟨Y, hY⟩ : ∃ Q, Q = z1.heap.size := ⟨_, rfl⟩
         obtain ⟨z2, hz2⟩ : ∃ Q, Q = z1.alloc (.cells #[.slice none 0 0, .int .i64 0] 36) := ⟨_, rfl⟩
         go_simp
         have hp2 := HP1.out.add (.cells #[.slice none 0 0, .int .i64 0] 36)
         rw [← hz2, ← hY] at hp2 ⊢
         have HP2 := Lib.hid hp2
         have HYT : Hid (Y ≠ T9 ∧ Y ≠ X5 ∧ u.heap.size ≤ Y) := Lib.hid (by
          have h1 := blk_lt (HP1.out.at (x := T9) (o := wantO bo m bc most) (by simp))
          have h2 := blk_lt (HP1.out.at (x := X5) (o := tmO k i) (by simp))
          have h3 := HP1.out.bel.size
          omega)
         clear hz2 hY hp2
         refine hK.out _ _ noK ?_
         clear hK KK
         try simp only [Act.put, List.setIfInBounds_toArray, List.set_cons_zero, List.set_cons_succ]
         refine wpAnyK_ready (rs := [12]) (by kernel_rfl) (by simp) ?_
         refine AllReadyK.cons (o := pq13) rfl (fun KK hK => ?_) (AllReadyK.nil)
         try simp only [List.getElem_toArray, List.getElem_cons_succ, List.getElem_cons_zero]
         go_simp
         refine hK.out _ _ noK ?_
         clear hK KK
         try simp only [Act.put, List.setIfInBounds_toArray, List.set_cons_zero, List.set_cons_succ]
         refine wpAnyK_ready (rs := [13]) (by kernel_rfl) (by simp) ?_
         refine AllReadyK.cons (o := pq14) rfl (fun KK hK => ?_) (AllReadyK.nil)
         try simp only [List.getElem_toArray, List.getElem_cons_succ, List.getElem_cons_zero]
         have gy := HP2.out.at (x := Y) (o := .cells #[.slice none 0 0, .int .i64 0] 36 (0, 0)) (by simp)
         have e0 := cell_blk gy 0 _ rfl
         have e1 := cell_blk gy 1 _ rfl
         have e2 := blk_lt gy
         have e3 := frozen_blk gy 0
         have e4 := frozen_blk gy 1
         go_simp
         obtain ⟨z3, hz3⟩ : ∃ Q, Q = (z2.setCell ⟨Y, 0, none⟩ (.slice bo' m' bc')).setCell ⟨Y, 1, none⟩ (.int .i64 most) := ⟨_, rfl⟩
         rw [← hz3]
         have HP3 : Hid (PS u p' most L1 bo' m' bc' [(Y, wantO bo' m' bc' most), (T9, wantO bo m bc most), (X5, tmO k i)] z3) := Lib.hid (HP2.out.set (C' := #[.slice bo' m' bc', .int .i64 most]) HYT.out.2.2 (by simp) (by decide) (by decide) (by
          intro x hx
          simp at hx
          rcases hx with rfl | rfl
          ·
           exact fun e => HYT.out.1 e.symm
          ·
           exact fun e => HYT.out.2.1 e.symm) (by rw [hz3]; exact setCell_blk (setCell_blk gy 0 _) 1 _) (by rw [hz3]; exact ((Mod.refl (fun q => q = Y) z2).setCell ⟨Y, 0, none⟩ (.inl rfl) _).setCell ⟨Y, 1, none⟩ (.inl rfl) _))
         clear e0 e1 e2 e3 e4 hz3 gy
         refine hK.out _ _ noK ?_
         clear hK KK
         try simp only [Act.put, List.setIfInBounds_toArray, List.set_cons_zero, List.set_cons_succ]
         refine wpAnyK_ready (rs := [14]) (by kernel_rfl) (by simp) ?_
         refine AllReadyK.cons (o := pq15) rfl (fun KK hK => ?_) (AllReadyK.nil)
         try simp only [List.getElem_toArray, List.getElem_cons_succ, List.getElem_cons_zero]
         go_simp
         refine hK.out _ _ noK ?_
         clear hK KK
         try simp only [Act.put, List.setIfInBounds_toArray, List.set_cons_zero, List.set_cons_succ]
         refine wpAnyK_done (by kernel_rfl) ?_ _
         go_wp2
         go_meet
         exact ⟨p', bo', m', bc', Y, rfl, rfl, rfl, HP3.out, HYT.out.1, HYT.out.2.2⟩
        ·
         try simp only [List.getElem_toArray, List.getElem_cons_succ, List.getElem_cons_zero]
         obtain ⟨Y, hY⟩ : ∃ Q, Q = z1.heap.size := ⟨_, rfl⟩
         obtain ⟨z2, hz2⟩ : ∃ Q, Q = z1.alloc (.cells #[.slice none 0 0, .int .i64 0] 36) := ⟨_, rfl⟩
         go_simp
         have hp2 := HP1.out.add (.cells #[.slice none 0 0, .int .i64 0] 36)
         rw [← hz2, ← hY] at hp2 ⊢
         have HP2 := Lib.hid hp2
         have HYT : Hid (Y ≠ T9 ∧ Y ≠ X5 ∧ u.heap.size ≤ Y) := Lib.hid (by
          have h1 := blk_lt (HP1.out.at (x := T9) (o := wantO bo m bc most) (by simp))
          have h2 := blk_lt (HP1.out.at (x := X5) (o := tmO k i) (by simp))
          have h3 := HP1.out.bel.size
          omega)
         clear hz2 hY hp2
         refine hK.out _ _ noK ?_
         clear hK KK
         try simp only [Act.put, List.setIfInBounds_toArray, List.set_cons_zero, List.set_cons_succ]
         refine wpAnyK_ready (rs := [8]) (by kernel_rfl) (by simp) ?_
         refine AllReadyK.cons (o := pq10) rfl (fun KK hK => ?_) (AllReadyK.nil)
         try simp only [List.getElem_toArray, List.getElem_cons_succ, List.getElem_cons_zero]
         go_simp
         refine hK.out _ _ noK ?_
         clear hK KK
         try simp only [Act.put, List.setIfInBounds_toArray, List.set_cons_zero, List.set_cons_succ]
         refine wpAnyK_ready (rs := [12]) (by kernel_rfl) (by simp) ?_
         refine AllReadyK.cons (o := pq13) rfl (fun KK hK => ?_) (AllReadyK.nil)
         try simp only [List.getElem_toArray, List.getElem_cons_succ, List.getElem_cons_zero]
         go_simp
         refine hK.out _ _ noK ?_
         clear hK KK
         try simp only [Act.put, List.setIfInBounds_toArray, List.set_cons_zero, List.set_cons_succ]
         refine wpAnyK_ready (rs := [13]) (by kernel_rfl) (by simp) ?_
         refine AllReadyK.cons (o := pq14) rfl (fun KK hK => ?_) (AllReadyK.nil)
         try simp only [List.getElem_toArray, List.getElem_cons_succ, List.getElem_cons_zero]
         have gy := HP2.out.at (x := Y) (o := .cells #[.slice none 0 0, .int .i64 0] 36 (0, 0)) (by simp)
         have e0 := cell_blk gy 0 _ rfl
         have e1 := cell_blk gy 1 _ rfl
         have e2 := blk_lt gy
         have e3 := frozen_blk gy 0
         have e4 := frozen_blk gy 1
         go_simp
         obtain ⟨z3, hz3⟩ : ∃ Q, Q = (z2.setCell ⟨Y, 0, none⟩ (.slice bo' m' bc')).setCell ⟨Y, 1, none⟩ (.int .i64 most) := ⟨_, rfl⟩
         rw [← hz3]
         have HP3 : Hid (PS u p' most L1 bo' m' bc' [(Y, wantO bo' m' bc' most), (T9, wantO bo m bc most), (X5, tmO k i)] z3) := Lib.hid (HP2.out.set (C' := #[.slice bo' m' bc', .int .i64 most]) HYT.out.2.2 (by simp) (by decide) (by decide) (by
          intro x hx
          simp at hx
          rcases hx with rfl | rfl
          ·
           exact fun e => HYT.out.1 e.symm
          ·
           exact fun e => HYT.out.2.1 e.symm) (by rw [hz3]; exact setCell_blk (setCell_blk gy 0 _) 1 _) (by rw [hz3]; exact ((Mod.refl (fun q => q = Y) z2).setCell ⟨Y, 0, none⟩ (.inl rfl) _).setCell ⟨Y, 1, none⟩ (.inl rfl) _))
         clear e0 e1 e2 e3 e4 hz3 gy
         refine hK.out _ _ noK ?_
         clear hK KK
         try simp only [Act.put, List.setIfInBounds_toArray, List.set_cons_zero, List.set_cons_succ]
         refine wpAnyK_ready (rs := [14]) (by kernel_rfl) (by simp) ?_
         refine AllReadyK.cons (o := pq15) rfl (fun KK hK => ?_) (AllReadyK.nil)
         try simp only [List.getElem_toArray, List.getElem_cons_succ, List.getElem_cons_zero]
         go_simp
         refine hK.out _ _ noK ?_
         clear hK KK
         try simp only [Act.put, List.setIfInBounds_toArray, List.set_cons_zero, List.set_cons_succ]
         refine wpAnyK_done (by kernel_rfl) ?_ _
         go_wp2
         go_meet
         exact ⟨p', bo', m', bc', Y, rfl, rfl, rfl, HP3.out, HYT.out.1, HYT.out.2.2⟩
       ·
        try simp only [List.getElem_toArray, List.getElem_cons_succ, List.getElem_cons_zero]
        obtain ⟨Y, hY⟩ : ∃ Q, Q = z1.heap.size := ⟨_, rfl⟩
        obtain ⟨z2, hz2⟩ : ∃ Q, Q = z1.alloc (.cells #[.slice none 0 0, .int .i64 0] 36) := ⟨_, rfl⟩
        go_simp
        have hp2 := HP1.out.add (.cells #[.slice none 0 0, .int .i64 0] 36)
        rw [← hz2, ← hY] at hp2 ⊢
        have HP2 := Lib.hid hp2
        have HYT : Hid (Y ≠ T9 ∧ Y ≠ X5 ∧ u.heap.size ≤ Y) := Lib.hid (by
         have h1 := blk_lt (HP1.out.at (x := T9) (o := wantO bo m bc most) (by simp))
         have h2 := blk_lt (HP1.out.at (x := X5) (o := tmO k i) (by simp))
         have h3 := HP1.out.bel.size
         omega)
        clear hz2 hY hp2
        refine hK.out _ _ noK ?_
        clear hK KK
        try simp only [Act.put, List.setIfInBounds_toArray, List.set_cons_zero, List.set_cons_succ]
        refine wpAnyK_ready (rs := [8, 10]) (by kernel_rfl) (by simp) ?_
        refine AllReadyK.cons (o := pq10) rfl (fun KK hK => ?_) (AllReadyK.cons (o := pq12) rfl (fun KK hK => ?_) (AllReadyK.nil))
        ·
         try simp only [List.getElem_toArray, List.getElem_cons_succ, List.getElem_cons_zero]
         go_simp
         refine hK.out _ _ noK ?_
         clear hK KK
         try simp only [Act.put, List.setIfInBounds_toArray, List.set_cons_zero, List.set_cons_succ]
         refine wpAnyK_ready (rs := [10, 12]) (by kernel_rfl) (by simp) ?_
         refine AllReadyK.cons (o := pq12) rfl (fun KK hK => ?_) (AllReadyK.cons (o := pq13) rfl (fun KK hK => ?_) (AllReadyK.nil))
         ·
          try simp only [List.getElem_toArray, List.getElem_cons_succ, List.getElem_cons_zero]
          go_simp
          refine hK.out _ _ noK ?_
          clear hK KK
          try simp only [Act.put, List.setIfInBounds_toArray, List.set_cons_zero, List.set_cons_succ]
          refine wpAnyK_ready (rs := [12]) (by kernel_rfl) (by simp) ?_
          refine AllReadyK.cons (o := pq13) rfl (fun KK hK => ?_) (AllReadyK.nil)
          try simp only [List.getElem_toArray, List.getElem_cons_succ, List.getElem_cons_zero]
          go_simp
          refine hK.out _ _ noK ?_
          clear hK KK
          try simp only [Act.put, List.setIfInBounds_toArray, List.set_cons_zero, List.set_cons_succ]
          refine wpAnyK_ready (rs := [13]) (by kernel_rfl) (by simp) ?_
          refine AllReadyK.cons (o := pq14) rfl (fun KK hK => ?_) (AllReadyK.nil)
          try simp only [List.getElem_toArray, List.getElem_cons_succ, List.getElem_cons_zero]
          have gy := HP2.out.at (x := Y) (o := .cells #[.slice none 0 0, .int .i64 0] 36 (0, 0)) (by simp)
          have e0 := cell_blk gy 0 _ rfl
          have e1 := cell_blk gy 1 _ rfl
          have e2 := blk_lt gy
          have e3 := frozen_blk gy 0
          have e4 := frozen_blk gy 1
          go_simp
          obtain ⟨z3, hz3⟩ : ∃ Q, Q = (z2.setCell ⟨Y, 0, none⟩ (.slice bo' m' bc')).setCell ⟨Y, 1, none⟩ (.int .i64 most) := ⟨_, rfl⟩
          rw [← hz3]
          have HP3 : Hid (PS u p' most L1 bo' m' bc' [(Y, wantO bo' m' bc' most), (T9, wantO bo m bc most), (X5, tmO k i)] z3) := Lib.hid (HP2.out.set (C' := #[.slice bo' m' bc', .int .i64 most]) HYT.out.2.2 (by simp) (by decide) (by decide) (by
           intro x hx
           simp at hx
           rcases hx with rfl | rfl
           ·
            exact fun e => HYT.out.1 e.symm
           ·
            exact fun e => HYT.out.2.1 e.symm) (by rw [hz3]; exact setCell_blk (setCell_blk gy 0 _) 1 _) (by rw [hz3]; exact ((Mod.refl (fun q => q = Y) z2).setCell ⟨Y, 0, none⟩ (.inl rfl) _).setCell ⟨Y, 1, none⟩ (.inl rfl) _))
          clear e0 e1 e2 e3 e4 hz3 gy
          refine hK.out _ _ noK ?_
          clear hK KK
          try simp only [Act.put, List.setIfInBounds_toArray, List.set_cons_zero, List.set_cons_succ]
          refine wpAnyK_ready (rs := [14]) (by kernel_rfl) (by simp) ?_
          refine AllReadyK.cons (o := pq15) rfl (fun KK hK => ?_) (AllReadyK.nil)
          try simp only [List.getElem_toArray, List.getElem_cons_succ, List.getElem_cons_zero]
          go_simp
          refine hK.out _ _ noK ?_
          clear hK KK
          try simp only [Act.put, List.setIfInBounds_toArray, List.set_cons_zero, List.set_cons_succ]
          refine wpAnyK_done (by kernel_rfl) ?_ _
          go_wp2
          go_meet
          exact ⟨p', bo', m', bc', Y, rfl, rfl, rfl, HP3.out, HYT.out.1, HYT.out.2.2⟩
         ·
          try simp only [List.getElem_toArray, List.getElem_cons_succ, List.getElem_cons_zero]
          go_simp
          refine hK.out _ _ noK ?_
          clear hK KK
          try simp only [Act.put, List.setIfInBounds_toArray, List.set_cons_zero, List.set_cons_succ]
          refine wpAnyK_ready (rs := [10, 13]) (by kernel_rfl) (by simp) ?_
          refine AllReadyK.cons (o := pq12) rfl (fun KK hK => ?_) (AllReadyK.cons (o := pq14) rfl (fun KK hK => ?_) (AllReadyK.nil))
          ·
           try simp only [List.getElem_toArray, List.getElem_cons_succ, List.getElem_cons_zero]
           go_simp
           refine hK.out _ _ noK ?_
           clear hK KK
           try simp only [Act.put, List.setIfInBounds_toArray, List.set_cons_zero, List.set_cons_succ]
           refine wpAnyK_ready (rs := [13]) (by kernel_rfl) (by simp) ?_
           refine AllReadyK.cons (o := pq14) rfl (fun KK hK => ?_) (AllReadyK.nil)
           try simp only [List.getElem_toArray, List.getElem_cons_succ, List.getElem_cons_zero]
           have gy := HP2.out.at (x := Y) (o := .cells #[.slice none 0 0, .int .i64 0] 36 (0, 0)) (by simp)
           have e0 := cell_blk gy 0 _ rfl
           have e1 := cell_blk gy 1 _ rfl
           have e2 := blk_lt gy
           have e3 := frozen_blk gy 0
           have e4 := frozen_blk gy 1
           go_simp
           obtain ⟨z3, hz3⟩ : ∃ Q, Q = (z2.setCell ⟨Y, 0, none⟩ (.slice bo' m' bc')).setCell ⟨Y, 1, none⟩ (.int .i64 most) := ⟨_, rfl⟩
           rw [← hz3]
           have HP3 : Hid (PS u p' most L1 bo' m' bc' [(Y, wantO bo' m' bc' most), (T9, wantO bo m bc most), (X5, tmO k i)] z3) := Lib.hid (HP2.out.set (C' := #[.slice bo' m' bc', .int .i64 most]) HYT.out.2.2 (by simp) (by decide) (by decide) (by
            intro x hx
            simp at hx
            rcases hx with rfl | rfl
            ·
             exact fun e => HYT.out.1 e.symm
            ·
             exact fun e => HYT.out.2.1 e.symm) (by rw [hz3]; exact setCell_blk (setCell_blk gy 0 _) 1 _) (by rw [hz3]; exact ((Mod.refl (fun q => q = Y) z2).setCell ⟨Y, 0, none⟩ (.inl rfl) _).setCell ⟨Y, 1, none⟩ (.inl rfl) _))
           clear e0 e1 e2 e3 e4 hz3 gy
           refine hK.out _ _ noK ?_
           clear hK KK
           try simp only [Act.put, List.setIfInBounds_toArray, List.set_cons_zero, List.set_cons_succ]
           refine wpAnyK_ready (rs := [14]) (by kernel_rfl) (by simp) ?_
           refine AllReadyK.cons (o := pq15) rfl (fun KK hK => ?_) (AllReadyK.nil)
           try simp only [List.getElem_toArray, List.getElem_cons_succ, List.getElem_cons_zero]
           go_simp
           refine hK.out _ _ noK ?_
           clear hK KK
           try simp only [Act.put, List.setIfInBounds_toArray, List.set_cons_zero, List.set_cons_succ]
           refine wpAnyK_done (by kernel_rfl) ?_ _
           go_wp2
           go_meet
           exact ⟨p', bo', m', bc', Y, rfl, rfl, rfl, HP3.out, HYT.out.1, HYT.out.2.2⟩
          ·
           try simp only [List.getElem_toArray, List.getElem_cons_succ, List.getElem_cons_zero]
           have gy := HP2.out.at (x := Y) (o := .cells #[.slice none 0 0, .int .i64 0] 36 (0, 0)) (by simp)
           have e0 := cell_blk gy 0 _ rfl
           have e1 := cell_blk gy 1 _ rfl
           have e2 := blk_lt gy
           have e3 := frozen_blk gy 0
           have e4 := frozen_blk gy 1
           go_simp
           obtain ⟨z3, hz3⟩ : ∃ Q, Q = (z2.setCell ⟨Y, 0, none⟩ (.slice bo' m' bc')).setCell ⟨Y, 1, none⟩ (.int .i64 most) := ⟨_, rfl⟩
           rw [← hz3]
           have HP3 : Hid (PS u p' most L1 bo' m' bc' [(Y, wantO bo' m' bc' most), (T9, wantO bo m bc most), (X5, tmO k i)] z3) := Lib.hid (HP2.out.set (C' := #[.slice bo' m' bc', .int .i64 most]) HYT.out.2.2 (by simp) (by decide) (by decide) (by
            intro x hx
            simp at hx
            rcases hx with rfl | rfl
            ·
             exact fun e => HYT.out.1 e.symm
            ·
             exact fun e => HYT.out.2.1 e.symm) (by rw [hz3]; exact setCell_blk (setCell_blk gy 0 _) 1 _) (by rw [hz3]; exact ((Mod.refl (fun q => q = Y) z2).setCell ⟨Y, 0, none⟩ (.inl rfl) _).setCell ⟨Y, 1, none⟩ (.inl rfl) _))
           clear e0 e1 e2 e3 e4 hz3 gy
           refine hK.out _ _ noK ?_
           clear hK KK
           try simp only [Act.put, List.setIfInBounds_toArray, List.set_cons_zero, List.set_cons_succ]
           refine wpAnyK_ready (rs := [10]) (by kernel_rfl) (by simp) ?_
           refine AllReadyK.cons (o := pq12) rfl (fun KK hK => ?_) (AllReadyK.nil)
           try simp only [List.getElem_toArray, List.getElem_cons_succ, List.getElem_cons_zero]
           go_simp
           refine hK.out _ _ noK ?_
           clear hK KK
           try simp only [Act.put, List.setIfInBounds_toArray, List.set_cons_zero, List.set_cons_succ]
           refine wpAnyK_ready (rs := [14]) (by kernel_rfl) (by simp) ?_
           refine AllReadyK.cons (o := pq15) rfl (fun KK hK => ?_) (AllReadyK.nil)
           try simp only [List.getElem_toArray, List.getElem_cons_succ, List.getElem_cons_zero]
           go_simp
           refine hK.out _ _ noK ?_
           clear hK KK
           try simp only [Act.put, List.setIfInBounds_toArray, List.set_cons_zero, List.set_cons_succ]
           refine wpAnyK_done (by kernel_rfl) ?_ _
           go_wp2
           go_meet
           exact ⟨p', bo', m', bc', Y, rfl, rfl, rfl, HP3.out, HYT.out.1, HYT.out.2.2⟩
        ·
         try simp only [List.getElem_toArray, List.getElem_cons_succ, List.getElem_cons_zero]
         go_simp
         refine hK.out _ _ noK ?_
         clear hK KK
         try simp only [Act.put, List.setIfInBounds_toArray, List.set_cons_zero, List.set_cons_succ]
         refine wpAnyK_ready (rs := [8]) (by kernel_rfl) (by simp) ?_
         refine AllReadyK.cons (o := pq10) rfl (fun KK hK => ?_) (AllReadyK.nil)
         try simp only [List.getElem_toArray, List.getElem_cons_succ, List.getElem_cons_zero]
         go_simp
         refine hK.out _ _ noK ?_
         clear hK KK
         try simp only [Act.put, List.setIfInBounds_toArray, List.set_cons_zero, List.set_cons_succ]
         refine wpAnyK_ready (rs := [12]) (by kernel_rfl) (by simp) ?_
         refine AllReadyK.cons (o := pq13) rfl (fun KK hK => ?_) (AllReadyK.nil)
         try simp only [List.getElem_toArray, List.getElem_cons_succ, List.getElem_cons_zero]
         go_simp
         refine hK.out _ _ noK ?_
         clear hK KK
         try simp only [Act.put, List.setIfInBounds_toArray, List.set_cons_zero, List.set_cons_succ]
         refine wpAnyK_ready (rs := [13]) (by kernel_rfl) (by simp) ?_
         refine AllReadyK.cons (o := pq14) rfl (fun KK hK => ?_) (AllReadyK.nil)
         try simp only [List.getElem_toArray, List.getElem_cons_succ, List.getElem_cons_zero]
         have gy := HP2.out.at (x := Y) (o := .cells #[.slice none 0 0, .int .i64 0] 36 (0, 0)) (by simp)
         have e0 := cell_blk gy 0 _ rfl
         have e1 := cell_blk gy 1 _ rfl
         have e2 := blk_lt gy
         have e3 := frozen_blk gy 0
         have e4 := frozen_blk gy 1
         go_simp
         obtain ⟨z3, hz3⟩ : ∃ Q, Q = (z2.setCell ⟨Y, 0, none⟩ (.slice bo' m' bc')).setCell ⟨Y, 1, none⟩ (.int .i64 most) := ⟨_, rfl⟩
         rw [← hz3]
         have HP3 : Hid (PS u p' most L1 bo' m' bc' [(Y, wantO bo' m' bc' most), (T9, wantO bo m bc most), (X5, tmO k i)] z3) := Lib.hid (HP2.out.set (C' := #[.slice bo' m' bc', .int .i64 most]) HYT.out.2.2 (by simp) (by decide) (by decide) (by
          intro x hx
          simp at hx
          rcases hx with rfl | rfl
          ·
           exact fun e => HYT.out.1 e.symm
          ·
           exact fun e => HYT.out.2.1 e.symm) (by rw [hz3]; exact setCell_blk (setCell_blk gy 0 _) 1 _) (by rw [hz3]; exact ((Mod.refl (fun q => q = Y) z2).setCell ⟨Y, 0, none⟩ (.inl rfl) _).setCell ⟨Y, 1, none⟩ (.inl rfl) _))
         clear e0 e1 e2 e3 e4 hz3 gy
         refine hK.out _ _ noK ?_
         clear hK KK
         try simp only [Act.put, List.setIfInBounds_toArray, List.set_cons_zero, List.set_cons_succ]
         refine wpAnyK_ready (rs := [14]) (by kernel_rfl) (by simp) ?_
         refine AllReadyK.cons (o := pq15) rfl (fun KK hK => ?_) (AllReadyK.nil)
         try simp only [List.getElem_toArray, List.getElem_cons_succ, List.getElem_cons_zero]
         go_simp
         refine hK.out _ _ noK ?_
         clear hK KK
         try simp only [Act.put, List.setIfInBounds_toArray, List.set_cons_zero, List.set_cons_succ]
         refine wpAnyK_done (by kernel_rfl) ?_ _
         go_wp2
         go_meet
         exact ⟨p', bo', m', bc', Y, rfl, rfl, rfl, HP3.out, HYT.out.1, HYT.out.2.2⟩
      ·
       try simp only [List.getElem_toArray, List.getElem_cons_succ, List.getElem_cons_zero]
       go_simp
       refine hK.out _ _ noK ?_
       clear hK KK
       try simp only [Act.put, List.setIfInBounds_toArray, List.set_cons_zero, List.set_cons_succ]
       refine wpAnyK_ready (rs := [8, 9, 11]) (by kernel_rfl) (by simp) ?_
       refine AllReadyK.cons (o := pq10) rfl (fun KK hK => ?_) (AllReadyK.cons (o := pq11) rfl (fun KK hK => ?_) (AllReadyK.cons (o := pq8) rfl (fun KK hK => ?_) (AllReadyK.nil)))
       ·
        try simp only [List.getElem_toArray, List.getElem_cons_succ, List.getElem_cons_zero]
        go_simp
        refine hK.out _ _ noK ?_
        clear hK KK
        try simp only [Act.put, List.setIfInBounds_toArray, List.set_cons_zero, List.set_cons_succ]
        refine wpAnyK_ready (rs := [9, 11]) (by kernel_rfl) (by simp) ?_
        refine AllReadyK.cons (o := pq11) rfl (fun KK hK => ?_) (AllReadyK.cons (o := pq8) rfl (fun KK hK => ?_) (AllReadyK.nil))
        ·
         try simp only [List.getElem_toArray, List.getElem_cons_succ, List.getElem_cons_zero]
         go_simp
         refine hK.out _ _ noK ?_
         clear hK KK
         try simp only [Act.put, List.setIfInBounds_toArray, List.set_cons_zero, List.set_cons_succ]
         refine wpAnyK_ready (rs := [11]) (by kernel_rfl) (by simp) ?_
         refine AllReadyK.cons (o := pq8) rfl (fun KK hK => ?_) (AllReadyK.nil)
         try simp only [List.getElem_toArray, List.getElem_cons_succ, List.getElem_cons_zero]
         obtain ⟨Y, hY⟩ : ∃ Q, Q = z1.heap.size := ⟨_, rfl⟩
         obtain ⟨z2, hz2⟩ : ∃ Q, Q = z1.alloc (.cells #[.slice none 0 0, .int .i64 0] 36) := ⟨_, rfl⟩
         go_simp
         have hp2 := HP1.out.add (.cells #[.slice none 0 0, .int .i64 0] 36)
         rw [← hz2, ← hY] at hp2 ⊢
         have HP2 := Lib.hid hp2
         have HYT : Hid (Y ≠ T9 ∧ Y ≠ X5 ∧ u.heap.size ≤ Y) := Lib.hid (by
          have h1 := blk_lt (HP1.out.at (x := T9) (o := wantO bo m bc most) (by simp))
          have h2 := blk_lt (HP1.out.at (x := X5) (o := tmO k i) (by simp))
          have h3 := HP1.out.bel.size
          omega)
         clear hz2 hY hp2
         refine hK.out _ _ noK ?_
         clear hK KK
         try simp only [Act.put, List.setIfInBounds_toArray, List.set_cons_zero, List.set_cons_succ]
         refine wpAnyK_ready (rs := [12]) (by kernel_rfl) (by simp) ?_
         refine AllReadyK.cons (o := pq13) rfl (fun KK hK => ?_) (AllReadyK.nil)
         try simp only [List.getElem_toArray, List.getElem_cons_succ, List.getElem_cons_zero]
         go_simp
         refine hK.out _ _ noK ?_
         clear hK KK
         try simp only [Act.put, List.setIfInBounds_toArray, List.set_cons_zero, List.set_cons_succ]
         refine wpAnyK_ready (rs := [13]) (by kernel_rfl) (by simp) ?_
         refine AllReadyK.cons (o := pq14) rfl (fun KK hK => ?_) (AllReadyK.nil)
         try simp only [List.getElem_toArray, List.getElem_cons_succ, List.getElem_cons_zero]
         have gy := HP2.out.at (x := Y) (o := .cells #[.slice none 0 0, .int .i64 0] 36 (0, 0)) (by simp)
         have e0 := cell_blk gy 0 _ rfl
         have e1 := cell_blk gy 1 _ rfl
         have e2 := blk_lt gy
         have e3 := frozen_blk gy 0
         have e4 := frozen_blk gy 1
         go_simp
         obtain ⟨z3, hz3⟩ : ∃ Q, Q = (z2.setCell ⟨Y, 0, none⟩ (.slice bo' m' bc')).setCell ⟨Y, 1, none⟩ (.int .i64 most) := ⟨_, rfl⟩
         rw [← hz3]
         have HP3 : Hid (PS u p' most L1 bo' m' bc' [(Y, wantO bo' m' bc' most), (T9, wantO bo m bc most), (X5, tmO k i)] z3) := Lib.hid (HP2.out.set (C' := #[.slice bo' m' bc', .int .i64 most]) HYT.out.2.2 (by simp) (by decide) (by decide) (by
          intro x hx
          simp at hx
          rcases hx with rfl | rfl
          ·
           exact fun e => HYT.out.1 e.symm
          ·
           exact fun e => HYT.out.2.1 e.symm) (by rw [hz3]; exact setCell_blk (setCell_blk gy 0 _) 1 _) (by rw [hz3]; exact ((Mod.refl (fun q => q = Y) z2).setCell ⟨Y, 0, none⟩ (.inl rfl) _).setCell ⟨Y, 1, none⟩ (.inl rfl) _))
         clear e0 e1 e2 e3 e4 hz3 gy
         refine hK.out _ _ noK ?_
         clear hK KK
         try simp only [Act.put, List.setIfInBounds_toArray, List.set_cons_zero, List.set_cons_succ]
         refine wpAnyK_ready (rs := [14]) (by kernel_rfl) (by simp) ?_
         refine AllReadyK.cons (o := pq15) rfl (fun KK hK => ?_) (AllReadyK.nil)
         try simp only [List.getElem_toArray, List.getElem_cons_succ, List.getElem_cons_zero]
         go_simp
         refine hK.out _ _ noK ?_
         clear hK KK
         try simp only [Act.put, List.setIfInBounds_toArray, List.set_cons_zero, List.set_cons_succ]
         refine wpAnyK_done (by kernel_rfl) ?_ _
         go_wp2
         go_meet
         exact ⟨p', bo', m', bc', Y, rfl, rfl, rfl, HP3.out, HYT.out.1, HYT.out.2.2⟩
        ·
         try simp only [List.getElem_toArray, List.getElem_cons_succ, List.getElem_cons_zero]
         obtain ⟨Y, hY⟩ : ∃ Q, Q = z1.heap.size := ⟨_, rfl⟩
         obtain ⟨z2, hz2⟩ : ∃ Q, Q = z1.alloc (.cells #[.slice none 0 0, .int .i64 0] 36) := ⟨_, rfl⟩
         go_simp
         have hp2 := HP1.out.add (.cells #[.slice none 0 0, .int .i64 0] 36)
         rw [← hz2, ← hY] at hp2 ⊢
         have HP2 := Lib.hid hp2
         have HYT : Hid (Y ≠ T9 ∧ Y ≠ X5 ∧ u.heap.size ≤ Y) := Lib.hid (by
          have h1 := blk_lt (HP1.out.at (x := T9) (o := wantO bo m bc most) (by simp))
          have h2 := blk_lt (HP1.out.at (x := X5) (o := tmO k i) (by simp))
          have h3 := HP1.out.bel.size
          omega)
         clear hz2 hY hp2
         refine hK.out _ _ noK ?_
         clear hK KK
         try simp only [Act.put, List.setIfInBounds_toArray, List.set_cons_zero, List.set_cons_succ]
         refine wpAnyK_ready (rs := [9, 12]) (by kernel_rfl) (by simp) ?_
         refine AllReadyK.cons (o := pq11) rfl (fun KK hK => ?_) (AllReadyK.cons (o := pq13) rfl (fun KK hK => ?_) (AllReadyK.nil))
         ·
          try simp only [List.getElem_toArray, List.getElem_cons_succ, List.getElem_cons_zero]
          go_simp
          refine hK.out _ _ noK ?_
          clear hK KK
          try simp only [Act.put, List.setIfInBounds_toArray, List.set_cons_zero, List.set_cons_succ]
          refine wpAnyK_ready (rs := [12]) (by kernel_rfl) (by simp) ?_
          refine AllReadyK.cons (o := pq13) rfl (fun KK hK => ?_) (AllReadyK.nil)
          try simp only [List.getElem_toArray, List.getElem_cons_succ, List.getElem_cons_zero]
          go_simp
          refine hK.out _ _ noK ?_
          clear hK KK
          try simp only [Act.put, List.setIfInBounds_toArray, List.set_cons_zero, List.set_cons_succ]
          refine wpAnyK_ready (rs := [13]) (by kernel_rfl) (by simp) ?_
          refine AllReadyK.cons (o := pq14) rfl (fun KK hK => ?_) (AllReadyK.nil)
          try simp only [List.getElem_toArray, List.getElem_cons_succ, List.getElem_cons_zero]
          have gy := HP2.out.at (x := Y) (o := .cells #[.slice none 0 0, .int .i64 0] 36 (0, 0)) (by simp)
          have e0 := cell_blk gy 0 _ rfl
          have e1 := cell_blk gy 1 _ rfl
          have e2 := blk_lt gy
          have e3 := frozen_blk gy 0
          have e4 := frozen_blk gy 1
          go_simp
          obtain ⟨z3, hz3⟩ : ∃ Q, Q = (z2.setCell ⟨Y, 0, none⟩ (.slice bo' m' bc')).setCell ⟨Y, 1, none⟩ (.int .i64 most) := ⟨_, rfl⟩
          rw [← hz3]
          have HP3 : Hid (PS u p' most L1 bo' m' bc' [(Y, wantO bo' m' bc' most), (T9, wantO bo m bc most), (X5, tmO k i)] z3) := Lib.hid (HP2.out.set (C' := #[.slice bo' m' bc', .int .i64 most]) HYT.out.2.2 (by simp) (by decide) (by decide) (by
           intro x hx
           simp at hx
           rcases hx with rfl | rfl
           ·
            exact fun e => HYT.out.1 e.symm
           ·
            exact fun e => HYT.out.2.1 e.symm) (by rw [hz3]; exact setCell_blk (setCell_blk gy 0 _) 1 _) (by rw [hz3]; exact ((Mod.refl (fun q => q = Y) z2).setCell ⟨Y, 0, none⟩ (.inl rfl) _).setCell ⟨Y, 1, none⟩ (.inl rfl) _))
          clear e0 e1 e2 e3 e4 hz3 gy
          refine hK.out _ _ noK ?_
          clear hK KK
          try simp only [Act.put, List.setIfInBounds_toArray, List.set_cons_zero, List.set_cons_succ]
          refine wpAnyK_ready (rs := [14]) (by kernel_rfl) (by simp) ?_
          refine AllReadyK.cons (o := pq15) rfl (fun KK hK => ?_) (AllReadyK.nil)
          try simp only [List.getElem_toArray, List.getElem_cons_succ, List.getElem_cons_zero]
          go_simp
          refine hK.out _ _ noK ?_
          clear hK KK
          try simp only [Act.put, List.setIfInBounds_toArray, List.set_cons_zero, List.set_cons_succ]
          refine wpAnyK_done (by kernel_rfl) ?_ _
          go_wp2
          go_meet
          exact ⟨p', bo', m', bc', Y, rfl, rfl, rfl, HP3.out, HYT.out.1, HYT.out.2.2⟩
         ·
          try simp only [List.getElem_toArray, List.getElem_cons_succ, List.getElem_cons_zero]
          go_simp
          refine hK.out _ _ noK ?_
          clear hK KK
          try simp only [Act.put, List.setIfInBounds_toArray, List.set_cons_zero, List.set_cons_succ]
          refine wpAnyK_ready (rs := [9]) (by kernel_rfl) (by simp) ?_
          refine AllReadyK.cons (o := pq11) rfl (fun KK hK => ?_) (AllReadyK.nil)
          try simp only [List.getElem_toArray, List.getElem_cons_succ, List.getElem_cons_zero]
          go_simp
          refine hK.out _ _ noK ?_
          clear hK KK
          try simp only [Act.put, List.setIfInBounds_toArray, List.set_cons_zero, List.set_cons_succ]
          refine wpAnyK_ready (rs := [13]) (by kernel_rfl) (by simp) ?_
          refine AllReadyK.cons (o := pq14) rfl (fun KK hK => ?_) (AllReadyK.nil)
          try simp only [List.getElem_toArray, List.getElem_cons_succ, List.getElem_cons_zero]
          have gy := HP2.out.at (x := Y) (o := .cells #[.slice none 0 0, .int .i64 0] 36 (0, 0)) (by simp)
          have e0 := cell_blk gy 0 _ rfl
          have e1 := cell_blk gy 1 _ rfl
          have e2 := blk_lt gy
          have e3 := frozen_blk gy 0
          have e4 := frozen_blk gy 1
          go_simp
          obtain ⟨z3, hz3⟩ : ∃ Q, Q = (z2.setCell ⟨Y, 0, none⟩ (.slice bo' m' bc')).setCell ⟨Y, 1, none⟩ (.int .i64 most) := ⟨_, rfl⟩
          rw [← hz3]
          have HP3 : Hid (PS u p' most L1 bo' m' bc' [(Y, wantO bo' m' bc' most), (T9, wantO bo m bc most), (X5, tmO k i)] z3) := Lib.hid (HP2.out.set (C' := #[.slice bo' m' bc', .int .i64 most]) HYT.out.2.2 (by simp) (by decide) (by decide) (by
           intro x hx
           simp at hx
           rcases hx with rfl | rfl
           ·
            exact fun e => HYT.out.1 e.symm
           ·
            exact fun e => HYT.out.2.1 e.symm) (by rw [hz3]; exact setCell_blk (setCell_blk gy 0 _) 1 _) (by rw [hz3]; exact ((Mod.refl (fun q => q = Y) z2).setCell ⟨Y, 0, none⟩ (.inl rfl) _).setCell ⟨Y, 1, none⟩ (.inl rfl) _))
          clear e0 e1 e2 e3 e4 hz3 gy
          refine hK.out _ _ noK ?_
          clear hK KK
          try simp only [Act.put, List.setIfInBounds_toArray, List.set_cons_zero, List.set_cons_succ]
          refine wpAnyK_ready (rs := [14]) (by kernel_rfl) (by simp) ?_
          refine AllReadyK.cons (o := pq15) rfl (fun KK hK => ?_) (AllReadyK.nil)
          try simp only [List.getElem_toArray, List.getElem_cons_succ, List.getElem_cons_zero]
          go_simp
          refine hK.out _ _ noK ?_
          clear hK KK
          try simp only [Act.put, List.setIfInBounds_toArray, List.set_cons_zero, List.set_cons_succ]
          refine wpAnyK_done (by kernel_rfl) ?_ _
          go_wp2
          go_meet
          exact ⟨p', bo', m', bc', Y, rfl, rfl, rfl, HP3.out, HYT.out.1, HYT.out.2.2⟩
       ·
        try simp only [List.getElem_toArray, List.getElem_cons_succ, List.getElem_cons_zero]
        go_simp
        refine hK.out _ _ noK ?_
        clear hK KK
        try simp only [Act.put, List.setIfInBounds_toArray, List.set_cons_zero, List.set_cons_succ]
        refine wpAnyK_ready (rs := [8, 11]) (by kernel_rfl) (by simp) ?_
        refine AllReadyK.cons (o := pq10) rfl (fun KK hK => ?_) (AllReadyK.cons (o := pq8) rfl (fun KK hK => ?_) (AllReadyK.nil))
        ·
         try simp only [List.getElem_toArray, List.getElem_cons_succ, List.getElem_cons_zero]
         go_simp
         refine hK.out _ _ noK ?_
         clear hK KK
         try simp only [Act.put, List.setIfInBounds_toArray, List.set_cons_zero, List.set_cons_succ]
         refine wpAnyK_ready (rs := [11]) (by kernel_rfl) (by simp) ?_
         refine AllReadyK.cons (o := pq8) rfl (fun KK hK => ?_) (AllReadyK.nil)
         try simp only [List.getElem_toArray, List.getElem_cons_succ, List.getElem_cons_zero]
         obtain ⟨Y, hY⟩ : ∃ Q, Q = z1.heap.size := ⟨_, rfl⟩
         obtain ⟨z2, hz2⟩ : ∃ Q, Q = z1.alloc (.cells #[.slice none 0 0, .int .i64 0] 36) := ⟨_, rfl⟩
         go_simp
         have hp2 := HP1.out.add (.cells #[.slice none 0 0, .int .i64 0] 36)
         rw [← hz2, ← hY] at hp2 ⊢
         have HP2 := Lib.hid hp2
         have HYT : Hid (Y ≠ T9 ∧ Y ≠ X5 ∧ u.heap.size ≤ Y) := Lib.hid (by
          have h1 := blk_lt (HP1.out.at (x := T9) (o := wantO bo m bc most) (by simp))
          have h2 := blk_lt (HP1.out.at (x := X5) (o := tmO k i) (by simp))
          have h3 := HP1.out.bel.size
          omega)
         clear hz2 hY hp2
         refine hK.out _ _ noK ?_
         clear hK KK
         try simp only [Act.put, List.setIfInBounds_toArray, List.set_cons_zero, List.set_cons_succ]
         refine wpAnyK_ready (rs := [12]) (by kernel_rfl) (by simp) ?_
         refine AllReadyK.cons (o := pq13) rfl (fun KK hK => ?_) (AllReadyK.nil)
         try simp only [List.getElem_toArray, List.getElem_cons_succ, List.getElem_cons_zero]
         go_simp
         refine hK.out _ _ noK ?_
         clear hK KK
         try simp only [Act.put, List.setIfInBounds_toArray, List.set_cons_zero, List.set_cons_succ]
         refine wpAnyK_ready (rs := [13]) (by kernel_rfl) (by simp) ?_
         refine AllReadyK.cons (o := pq14) rfl (fun KK hK => ?_) (AllReadyK.nil)
         try simp only [List.getElem_toArray, List.getElem_cons_succ, List.getElem_cons_zero]
         have gy := HP2.out.at (x := Y) (o := .cells #[.slice none 0 0, .int .i64 0] 36 (0, 0)) (by simp)
         have e0 := cell_blk gy 0 _ rfl
         have e1 := cell_blk gy 1 _ rfl
         have e2 := blk_lt gy
         have e3 := frozen_blk gy 0
         have e4 := frozen_blk gy 1
         go_simp
         obtain ⟨z3, hz3⟩ : ∃ Q, Q = (z2.setCell ⟨Y, 0, none⟩ (.slice bo' m' bc')).setCell ⟨Y, 1, none⟩ (.int .i64 most) := ⟨_, rfl⟩
         rw [← hz3]
         have HP3 : Hid (PS u p' most L1 bo' m' bc' [(Y, wantO bo' m' bc' most), (T9, wantO bo m bc most), (X5, tmO k i)] z3) := Lib.hid (HP2.out.set (C' := #[.slice bo' m' bc', .int .i64 most]) HYT.out.2.2 (by simp) (by decide) (by decide) (by
          intro x hx
          simp at hx
          rcases hx with rfl | rfl
          ·
           exact fun e => HYT.out.1 e.symm
          ·
           exact fun e => HYT.out.2.1 e.symm) (by rw [hz3]; exact setCell_blk (setCell_blk gy 0 _) 1 _) (by rw [hz3]; exact ((Mod.refl (fun q => q = Y) z2).setCell ⟨Y, 0, none⟩ (.inl rfl) _).setCell ⟨Y, 1, none⟩ (.inl rfl) _))
         clear e0 e1 e2 e3 e4 hz3 gy
         refine hK.out _ _ noK ?_
         clear hK KK
         try simp only [Act.put, List.setIfInBounds_toArray, List.set_cons_zero, List.set_cons_succ]
         refine wpAnyK_ready (rs := [14]) (by kernel_rfl) (by simp) ?_
         refine AllReadyK.cons (o := pq15) rfl (fun KK hK => ?_) (AllReadyK.nil)
         try simp only [List.getElem_toArray, List.getElem_cons_succ, List.getElem_cons_zero]
         go_simp
         refine hK.out _ _ noK ?_
         clear hK KK
         try simp only [Act.put, List.setIfInBounds_toArray, List.set_cons_zero, List.set_cons_succ]
         refine wpAnyK_done (by kernel_rfl) ?_ _
         go_wp2
         go_meet
         exact ⟨p', bo', m', bc', Y, rfl, rfl, rfl, HP3.out, HYT.out.1, HYT.out.2.2⟩
        ·
         try simp only [List.getElem_toArray, List.getElem_cons_succ, List.getElem_cons_zero]
         obtain ⟨Y, hY⟩ : ∃ Q, Q = z1.heap.size := ⟨_, rfl⟩
         obtain ⟨z2, hz2⟩ : ∃ Q, Q = z1.alloc (.cells #[.slice none 0 0, .int .i64 0] 36) := ⟨_, rfl⟩
         go_simp
         have hp2 := HP1.out.add (.cells #[.slice none 0 0, .int .i64 0] 36)
         rw [← hz2, ← hY] at hp2 ⊢
         have HP2 := Lib.hid hp2
         have HYT : Hid (Y ≠ T9 ∧ Y ≠ X5 ∧ u.heap.size ≤ Y) := Lib.hid (by
          have h1 := blk_lt (HP1.out.at (x := T9) (o := wantO bo m bc most) (by simp))
          have h2 := blk_lt (HP1.out.at (x := X5) (o := tmO k i) (by simp))
          have h3 := HP1.out.bel.size
          omega)
         clear hz2 hY hp2
         refine hK.out _ _ noK ?_
         clear hK KK
         try simp only [Act.put, List.setIfInBounds_toArray, List.set_cons_zero, List.set_cons_succ]
         refine wpAnyK_ready (rs := [8]) (by kernel_rfl) (by simp) ?_
         refine AllReadyK.cons (o := pq10) rfl (fun KK hK => ?_) (AllReadyK.nil)
         try simp only [List.getElem_toArray, List.getElem_cons_succ, List.getElem_cons_zero]
         go_simp
         refine hK.out _ _ noK ?_
         clear hK KK
         try simp only [Act.put, List.setIfInBounds_toArray, List.set_cons_zero, List.set_cons_succ]
         refine wpAnyK_ready (rs := [12]) (by kernel_rfl) (by simp) ?_
         refine AllReadyK.cons (o := pq13) rfl (fun KK hK => ?_) (AllReadyK.nil)
         try simp only [List.getElem_toArray, List.getElem_cons_succ, List.getElem_cons_zero]
         go_simp
         refine hK.out _ _ noK ?_
         clear hK KK
         try simp only [Act.put, List.setIfInBounds_toArray, List.set_cons_zero, List.set_cons_succ]
         refine wpAnyK_ready (rs := [13]) (by kernel_rfl) (by simp) ?_
         refine AllReadyK.cons (o := pq14) rfl (fun KK hK => ?_) (AllReadyK.nil)
         try simp only [List.getElem_toArray, List.getElem_cons_succ, List.getElem_cons_zero]
         have gy := HP2.out.at (x := Y) (o := .cells #[.slice none 0 0, .int .i64 0] 36 (0, 0)) (by simp)
         have e0 := cell_blk gy 0 _ rfl
         have e1 := cell_blk gy 1 _ rfl
         have e2 := blk_lt gy
         have e3 := frozen_blk gy 0
         have e4 := frozen_blk gy 1
         go_simp
         obtain ⟨z3, hz3⟩ : ∃ Q, Q = (z2.setCell ⟨Y, 0, none⟩ (.slice bo' m' bc')).setCell ⟨Y, 1, none⟩ (.int .i64 most) := ⟨_, rfl⟩
         rw [← hz3]
         have HP3 : Hid (PS u p' most L1 bo' m' bc' [(Y, wantO bo' m' bc' most), (T9, wantO bo m bc most), (X5, tmO k i)] z3) := Lib.hid (HP2.out.set (C' := #[.slice bo' m' bc', .int .i64 most]) HYT.out.2.2 (by simp) (by decide) (by decide) (by
          intro x hx
          simp at hx
          rcases hx with rfl | rfl
          ·
           exact fun e => HYT.out.1 e.symm
          ·
           exact fun e => HYT.out.2.1 e.symm) (by rw [hz3]; exact setCell_blk (setCell_blk gy 0 _) 1 _) (by rw [hz3]; exact ((Mod.refl (fun q => q = Y) z2).setCell ⟨Y, 0, none⟩ (.inl rfl) _).setCell ⟨Y, 1, none⟩ (.inl rfl) _))
         clear e0 e1 e2 e3 e4 hz3 gy
         refine hK.out _ _ noK ?_
         clear hK KK
         try simp only [Act.put, List.setIfInBounds_toArray, List.set_cons_zero, List.set_cons_succ]
         refine wpAnyK_ready (rs := [14]) (by kernel_rfl) (by simp) ?_
         refine AllReadyK.cons (o := pq15) rfl (fun KK hK => ?_) (AllReadyK.nil)
         try simp only [List.getElem_toArray, List.getElem_cons_succ, List.getElem_cons_zero]
         go_simp
         refine hK.out _ _ noK ?_
         clear hK KK
         try simp only [Act.put, List.setIfInBounds_toArray, List.set_cons_zero, List.set_cons_succ]
         refine wpAnyK_done (by kernel_rfl) ?_ _
         go_wp2
         go_meet
         exact ⟨p', bo', m', bc', Y, rfl, rfl, rfl, HP3.out, HYT.out.1, HYT.out.2.2⟩
       ·
        try simp only [List.getElem_toArray, List.getElem_cons_succ, List.getElem_cons_zero]
        obtain ⟨Y, hY⟩ : ∃ Q, Q = z1.heap.size := ⟨_, rfl⟩
        obtain ⟨z2, hz2⟩ : ∃ Q, Q = z1.alloc (.cells #[.slice none 0 0, .int .i64 0] 36) := ⟨_, rfl⟩
        go_simp
        have hp2 := HP1.out.add (.cells #[.slice none 0 0, .int .i64 0] 36)
        rw [← hz2, ← hY] at hp2 ⊢
        have HP2 := Lib.hid hp2
        have HYT : Hid (Y ≠ T9 ∧ Y ≠ X5 ∧ u.heap.size ≤ Y) := Lib.hid (by
         have h1 := blk_lt (HP1.out.at (x := T9) (o := wantO bo m bc most) (by simp))
         have h2 := blk_lt (HP1.out.at (x := X5) (o := tmO k i) (by simp))
         have h3 := HP1.out.bel.size
         omega)
        clear hz2 hY hp2
        refine hK.out _ _ noK ?_
        clear hK KK
        try simp only [Act.put, List.setIfInBounds_toArray, List.set_cons_zero, List.set_cons_succ]
        refine wpAnyK_ready (rs := [8, 9]) (by kernel_rfl) (by simp) ?_
        refine AllReadyK.cons (o := pq10) rfl (fun KK hK => ?_) (AllReadyK.cons (o := pq11) rfl (fun KK hK => ?_) (AllReadyK.nil))
        ·
         try simp only [List.getElem_toArray, List.getElem_cons_succ, List.getElem_cons_zero]
         go_simp
         refine hK.out _ _ noK ?_
         clear hK KK
         try simp only [Act.put, List.setIfInBounds_toArray, List.set_cons_zero, List.set_cons_succ]
         refine wpAnyK_ready (rs := [9, 12]) (by kernel_rfl) (by simp) ?_
         refine AllReadyK.cons (o := pq11) rfl (fun KK hK => ?_) (AllReadyK.cons (o := pq13) rfl (fun KK hK => ?_) (AllReadyK.nil))
         ·
          try simp only [List.getElem_toArray, List.getElem_cons_succ, List.getElem_cons_zero]
          go_simp
          refine hK.out _ _ noK ?_
          clear hK KK
          try simp only [Act.put, List.setIfInBounds_toArray, List.set_cons_zero, List.set_cons_succ]
          refine wpAnyK_ready (rs := [12]) (by kernel_rfl) (by simp) ?_
          refine AllReadyK.cons (o := pq13) rfl (fun KK hK => ?_) (AllReadyK.nil)
          try simp only [List.getElem_toArray, List.getElem_cons_succ, List.getElem_cons_zero]
          go_simp
          refine hK.out _ _ noK ?_
          clear hK KK
          try simp only [Act.put, List.setIfInBounds_toArray, List.set_cons_zero, List.set_cons_succ]
          refine wpAnyK_ready (rs := [13]) (by kernel_rfl) (by simp) ?_
          refine AllReadyK.cons (o := pq14) rfl (fun KK hK => ?_) (AllReadyK.nil)
          try simp only [List.getElem_toArray, List.getElem_cons_succ, List.getElem_cons_zero]
          have gy := HP2.out.at (x := Y) (o := .cells #[.slice none 0 0, .int .i64 0] 36 (0, 0)) (by simp)
          have e0 := cell_blk gy 0 _ rfl
          have e1 := cell_blk gy 1 _ rfl
          have e2 := blk_lt gy
          have e3 := frozen_blk gy 0
          have e4 := frozen_blk gy 1
          go_simp
          obtain ⟨z3, hz3⟩ : ∃ Q, Q = (z2.setCell ⟨Y, 0, none⟩ (.slice bo' m' bc')).setCell ⟨Y, 1, none⟩ (.int .i64 most) := ⟨_, rfl⟩
          rw [← hz3]
          have HP3 : Hid (PS u p' most L1 bo' m' bc' [(Y, wantO bo' m' bc' most), (T9, wantO bo m bc most), (X5, tmO k i)] z3) := Lib.hid (HP2.out.set (C' := #[.slice bo' m' bc', .int .i64 most]) HYT.out.2.2 (by simp) (by decide) (by decide) (by
           intro x hx
           simp at hx
           rcases hx with rfl | rfl
           ·
            exact fun e => HYT.out.1 e.symm
           ·
            exact fun e => HYT.out.2.1 e.symm) (by rw [hz3]; exact setCell_blk (setCell_blk gy 0 _) 1 _) (by rw [hz3]; exact ((Mod.refl (fun q => q = Y) z2).setCell ⟨Y, 0, none⟩ (.inl rfl) _).setCell ⟨Y, 1, none⟩ (.inl rfl) _))
          clear e0 e1 e2 e3 e4 hz3 gy
          refine hK.out _ _ noK ?_
          clear hK KK
          try simp only [Act.put, List.setIfInBounds_toArray, List.set_cons_zero, List.set_cons_succ]
          refine wpAnyK_ready (rs := [14]) (by kernel_rfl) (by simp) ?_
          refine AllReadyK.cons (o := pq15) rfl (fun KK hK => ?_) (AllReadyK.nil)
          try simp only [List.getElem_toArray, List.getElem_cons_succ, List.getElem_cons_zero]
          go_simp
          refine hK.out _ _ noK ?_
          clear hK KK
          try simp only [Act.put, List.setIfInBounds_toArray, List.set_cons_zero, List.set_cons_succ]
          refine wpAnyK_done (by kernel_rfl) ?_ _
          go_wp2
          go_meet
          exact ⟨p', bo', m', bc', Y, rfl, rfl, rfl, HP3.out, HYT.out.1, HYT.out.2.2⟩
         ·
          try simp only [List.getElem_toArray, List.getElem_cons_succ, List.getElem_cons_zero]
          go_simp
          refine hK.out _ _ noK ?_
          clear hK KK
          try simp only [Act.put, List.setIfInBounds_toArray, List.set_cons_zero, List.set_cons_succ]
          refine wpAnyK_ready (rs := [9]) (by kernel_rfl) (by simp) ?_
          refine AllReadyK.cons (o := pq11) rfl (fun KK hK => ?_) (AllReadyK.nil)
          try simp only [List.getElem_toArray, List.getElem_cons_succ, List.getElem_cons_zero]
          go_simp
          refine hK.out _ _ noK ?_
          clear hK KK
          try simp only [Act.put, List.setIfInBounds_toArray, List.set_cons_zero, List.set_cons_succ]
          refine wpAnyK_ready (rs := [13]) (by kernel_rfl) (by simp) ?_
          refine AllReadyK.cons (o := pq14) rfl (fun KK hK => ?_) (AllReadyK.nil)
          try simp only [List.getElem_toArray, List.getElem_cons_succ, List.getElem_cons_zero]
          have gy := HP2.out.at (x := Y) (o := .cells #[.slice none 0 0, .int .i64 0] 36 (0, 0)) (by simp)
          have e0 := cell_blk gy 0 _ rfl
          have e1 := cell_blk gy 1 _ rfl
          have e2 := blk_lt gy
          have e3 := frozen_blk gy 0
          have e4 := frozen_blk gy 1
          go_simp
          obtain ⟨z3, hz3⟩ : ∃ Q, Q = (z2.setCell ⟨Y, 0, none⟩ (.slice bo' m' bc')).setCell ⟨Y, 1, none⟩ (.int .i64 most) := ⟨_, rfl⟩
          rw [← hz3]
          have HP3 : Hid (PS u p' most L1 bo' m' bc' [(Y, wantO bo' m' bc' most), (T9, wantO bo m bc most), (X5, tmO k i)] z3) := Lib.hid (HP2.out.set (C' := #[.slice bo' m' bc', .int .i64 most]) HYT.out.2.2 (by simp) (by decide) (by decide) (by
           intro x hx
           simp at hx
           rcases hx with rfl | rfl
           ·
            exact fun e => HYT.out.1 e.symm
           ·
            exact fun e => HYT.out.2.1 e.symm) (by rw [hz3]; exact setCell_blk (setCell_blk gy 0 _) 1 _) (by rw [hz3]; exact ((Mod.refl (fun q => q = Y) z2).setCell ⟨Y, 0, none⟩ (.inl rfl) _).setCell ⟨Y, 1, none⟩ (.inl rfl) _))
          clear e0 e1 e2 e3 e4 hz3 gy
          refine hK.out _ _ noK ?_
          clear hK KK
          try simp only [Act.put, List.setIfInBounds_toArray, List.set_cons_zero, List.set_cons_succ]
          refine wpAnyK_ready (rs := [14]) (by kernel_rfl) (by simp) ?_
          refine AllReadyK.cons (o := pq15) rfl (fun KK hK => ?_) (AllReadyK.nil)
          try simp only [List.getElem_toArray, List.getElem_cons_succ, List.getElem_cons_zero]
          go_simp
          refine hK.out _ _ noK ?_
          clear hK KK
          try simp only [Act.put, List.setIfInBounds_toArray, List.set_cons_zero, List.set_cons_succ]
          refine wpAnyK_done (by kernel_rfl) ?_ _
          go_wp2
          go_meet
          exact ⟨p', bo', m', bc', Y, rfl, rfl, rfl, HP3.out, HYT.out.1, HYT.out.2.2⟩
        ·
         try simp only [List.getElem_toArray, List.getElem_cons_succ, List.getElem_cons_zero]
         go_simp
         refine hK.out _ _ noK ?_
         clear hK KK
         try simp only [Act.put, List.setIfInBounds_toArray, List.set_cons_zero, List.set_cons_succ]
         refine wpAnyK_ready (rs := [8]) (by kernel_rfl) (by simp) ?_
         refine AllReadyK.cons (o := pq10) rfl (fun KK hK => ?_) (AllReadyK.nil)
         try simp only [List.getElem_toArray, List.getElem_cons_succ, List.getElem_cons_zero]
         go_simp
         refine hK.out _ _ noK ?_
         clear hK KK
         try simp only [Act.put, List.setIfInBounds_toArray, List.set_cons_zero, List.set_cons_succ]
         refine wpAnyK_ready (rs := [12]) (by kernel_rfl) (by simp) ?_
         refine AllReadyK.cons (o := pq13) rfl (fun KK hK => ?_) (AllReadyK.nil)
         try simp only [List.getElem_toArray, List.getElem_cons_succ, List.getElem_cons_zero]
         go_simp
         refine hK.out _ _ noK ?_
         clear hK KK
         try simp only [Act.put, List.setIfInBounds_toArray, List.set_cons_zero, List.set_cons_succ]
         refine wpAnyK_ready (rs := [13]) (by kernel_rfl) (by simp) ?_
         refine AllReadyK.cons (o := pq14) rfl (fun KK hK => ?_) (AllReadyK.nil)
         try simp only [List.getElem_toArray, List.getElem_cons_succ, List.getElem_cons_zero]
         have gy := HP2.out.at (x := Y) (o := .cells #[.slice none 0 0, .int .i64 0] 36 (0, 0)) (by simp)
         have e0 := cell_blk gy 0 _ rfl
         have e1 := cell_blk gy 1 _ rfl
         have e2 := blk_lt gy
         have e3 := frozen_blk gy 0
         have e4 := frozen_blk gy 1
         go_simp
         obtain ⟨z3, hz3⟩ : ∃ Q, Q = (z2.setCell ⟨Y, 0, none⟩ (.slice bo' m' bc')).setCell ⟨Y, 1, none⟩ (.int .i64 most) := ⟨_, rfl⟩
         rw [← hz3]
         have HP3 : Hid (PS u p' most L1 bo' m' bc' [(Y, wantO bo' m' bc' most), (T9, wantO bo m bc most), (X5, tmO k i)] z3) := Lib.hid (HP2.out.set (C' := #[.slice bo' m' bc', .int .i64 most]) HYT.out.2.2 (by simp) (by decide) (by decide) (by
          intro x hx
          simp at hx
          rcases hx with rfl | rfl
          ·
           exact fun e => HYT.out.1 e.symm
          ·
           exact fun e => HYT.out.2.1 e.symm) (by rw [hz3]; exact setCell_blk (setCell_blk gy 0 _) 1 _) (by rw [hz3]; exact ((Mod.refl (fun q => q = Y) z2).setCell ⟨Y, 0, none⟩ (.inl rfl) _).setCell ⟨Y, 1, none⟩ (.inl rfl) _))
         clear e0 e1 e2 e3 e4 hz3 gy
         refine hK.out _ _ noK ?_
         clear hK KK
         try simp only [Act.put, List.setIfInBounds_toArray, List.set_cons_zero, List.set_cons_succ]
         refine wpAnyK_ready (rs := [14]) (by kernel_rfl) (by simp) ?_
         refine AllReadyK.cons (o := pq15) rfl (fun KK hK => ?_) (AllReadyK.nil)
         try simp only [List.getElem_toArray, List.getElem_cons_succ, List.getElem_cons_zero]
         go_simp
         refine hK.out _ _ noK ?_
         clear hK KK
         try simp only [Act.put, List.setIfInBounds_toArray, List.set_cons_zero, List.set_cons_succ]
         refine wpAnyK_done (by kernel_rfl) ?_ _
         go_wp2
         go_meet
         exact ⟨p', bo', m', bc', Y, rfl, rfl, rfl, HP3.out, HYT.out.1, HYT.out.2.2⟩
      ·
       try simp only [List.getElem_toArray, List.getElem_cons_succ, List.getElem_cons_zero]
       obtain ⟨Y, hY⟩ : ∃ Q, Q = z1.heap.size := ⟨_, rfl⟩
       obtain ⟨z2, hz2⟩ : ∃ Q, Q = z1.alloc (.cells #[.slice none 0 0, .int .i64 0] 36) := ⟨_, rfl⟩
       go_simp
       have hp2 := HP1.out.add (.cells #[.slice none 0 0, .int .i64 0] 36)
       rw [← hz2, ← hY] at hp2 ⊢
       have HP2 := Lib.hid hp2
       have HYT : Hid (Y ≠ T9 ∧ Y ≠ X5 ∧ u.heap.size ≤ Y) := Lib.hid (by
        have h1 := blk_lt (HP1.out.at (x := T9) (o := wantO bo m bc most) (by simp))
        have h2 := blk_lt (HP1.out.at (x := X5) (o := tmO k i) (by simp))
        have h3 := HP1.out.bel.size
        omega)
       clear hz2 hY hp2
       refine hK.out _ _ noK ?_
       clear hK KK
       try simp only [Act.put, List.setIfInBounds_toArray, List.set_cons_zero, List.set_cons_succ]
       refine wpAnyK_ready (rs := [8, 9, 10]) (by kernel_rfl) (by simp) ?_
       refine AllReadyK.cons (o := pq10) rfl (fun KK hK => ?_) (AllReadyK.cons (o := pq11) rfl (fun KK hK => ?_) (AllReadyK.cons (o := pq12) rfl (fun KK hK => ?_) (AllReadyK.nil)))
       ·
        try simp only [List.getElem_toArray, List.getElem_cons_succ, List.getElem_cons_zero]
        go_simp
        refine hK.out _ _ noK ?_
        clear hK KK
        try simp only [Act.put, List.setIfInBounds_toArray, List.set_cons_zero, List.set_cons_succ]
        refine wpAnyK_ready (rs := [9, 10, 12]) (by kernel_rfl) (by simp) ?_
        refine AllReadyK.cons (o := pq11) rfl (fun KK hK => ?_) (AllReadyK.cons (o := pq12) rfl (fun KK hK => ?_) (AllReadyK.cons (o := pq13) rfl (fun KK hK => ?_) (AllReadyK.nil)))
        ·
         try simp only [List.getElem_toArray, List.getElem_cons_succ, List.getElem_cons_zero]
         go_simp
         refine hK.out _ _ noK ?_
         clear hK KK
         try simp only [Act.put, List.setIfInBounds_toArray, List.set_cons_zero, List.set_cons_succ]
         refine wpAnyK_ready (rs := [10, 12]) (by kernel_rfl) (by simp) ?_
         refine AllReadyK.cons (o := pq12) rfl (fun KK hK => ?_) (AllReadyK.cons (o := pq13) rfl (fun KK hK => ?_) (AllReadyK.nil))
         ·
          try simp only [List.getElem_toArray, List.getElem_cons_succ, List.getElem_cons_zero]
          go_simp
          refine hK.out _ _ noK ?_
          clear hK KK
          try simp only [Act.put, List.setIfInBounds_toArray, List.set_cons_zero, List.set_cons_succ]
          refine wpAnyK_ready (rs := [12]) (by kernel_rfl) (by simp) ?_
          refine AllReadyK.cons (o := pq13) rfl (fun KK hK => ?_) (AllReadyK.nil)
          try simp only [List.getElem_toArray, List.getElem_cons_succ, List.getElem_cons_zero]
          go_simp
          refine hK.out _ _ noK ?_
          clear hK KK
          try simp only [Act.put, List.setIfInBounds_toArray, List.set_cons_zero, List.set_cons_succ]
          refine wpAnyK_ready (rs := [13]) (by kernel_rfl) (by simp) ?_
          refine AllReadyK.cons (o := pq14) rfl (fun KK hK => ?_) (AllReadyK.nil)
          try simp only [List.getElem_toArray, List.getElem_cons_succ, List.getElem_cons_zero]
          have gy := HP2.out.at (x := Y) (o := .cells #[.slice none 0 0, .int .i64 0] 36 (0, 0)) (by simp)
          have e0 := cell_blk gy 0 _ rfl
          have e1 := cell_blk gy 1 _ rfl
          have e2 := blk_lt gy
          have e3 := frozen_blk gy 0
          have e4 := frozen_blk gy 1
          go_simp
          obtain ⟨z3, hz3⟩ : ∃ Q, Q = (z2.setCell ⟨Y, 0, none⟩ (.slice bo' m' bc')).setCell ⟨Y, 1, none⟩ (.int .i64 most) := ⟨_, rfl⟩
          rw [← hz3]
          have HP3 : Hid (PS u p' most L1 bo' m' bc' [(Y, wantO bo' m' bc' most), (T9, wantO bo m bc most), (X5, tmO k i)] z3) := Lib.hid (HP2.out.set (C' := #[.slice bo' m' bc', .int .i64 most]) HYT.out.2.2 (by simp) (by decide) (by decide) (by
           intro x hx
           simp at hx
           rcases hx with rfl | rfl
           ·
            exact fun e => HYT.out.1 e.symm
           ·
            exact fun e => HYT.out.2.1 e.symm) (by rw [hz3]; exact setCell_blk (setCell_blk gy 0 _) 1 _) (by rw [hz3]; exact ((Mod.refl (fun q => q = Y) z2).setCell ⟨Y, 0, none⟩ (.inl rfl) _).setCell ⟨Y, 1, none⟩ (.inl rfl) _))
          clear e0 e1 e2 e3 e4 hz3 gy
          refine hK.out _ _ noK ?_
          clear hK KK
          try simp only [Act.put, List.setIfInBounds_toArray, List.set_cons_zero, List.set_cons_succ]
          refine wpAnyK_ready (rs := [14]) (by kernel_rfl) (by simp) ?_
          refine AllReadyK.cons (o := pq15) rfl (fun KK hK => ?_) (AllReadyK.nil)
          try simp only [List.getElem_toArray, List.getElem_cons_succ, List.getElem_cons_zero]
          go_simp
          refine hK.out _ _ noK ?_
          clear hK KK
          try simp only [Act.put, List.setIfInBounds_toArray, List.set_cons_zero, List.set_cons_succ]
          refine wpAnyK_done (by kernel_rfl) ?_ _
          go_wp2
          go_meet
          exact ⟨p', bo', m', bc', Y, rfl, rfl, rfl, HP3.out, HYT.out.1, HYT.out.2.2⟩
         ·
          try simp only [List.getElem_toArray, List.getElem_cons_succ, List.getElem_cons_zero]
          go_simp
          refine hK.out _ _ noK ?_
          clear hK KK
          try simp only [Act.put, List.setIfInBounds_toArray, List.set_cons_zero, List.set_cons_succ]
          refine wpAnyK_ready (rs := [10, 13]) (by kernel_rfl) (by simp) ?_
          refine AllReadyK.cons (o := pq12) rfl (fun KK hK => ?_) (AllReadyK.cons (o := pq14) rfl (fun KK hK => ?_) (AllReadyK.nil))
          ·
           try simp only [List.getElem_toArray, List.getElem_cons_succ, List.getElem_cons_zero]
           go_simp
           refine hK.out _ _ noK ?_
           clear hK KK
           try simp only [Act.put, List.setIfInBounds_toArray, List.set_cons_zero, List.set_cons_succ]
           refine wpAnyK_ready (rs := [13]) (by kernel_rfl) (by simp) ?_
           refine AllReadyK.cons (o := pq14) rfl (fun KK hK => ?_) (AllReadyK.nil)
           try simp only [List.getElem_toArray, List.getElem_cons_succ, List.getElem_cons_zero]
           have gy := HP2.out.at (x := Y) (o := .cells #[.slice none 0 0, .int .i64 0] 36 (0, 0)) (by simp)
           have e0 := cell_blk gy 0 _ rfl
           have e1 := cell_blk gy 1 _ rfl
           have e2 := blk_lt gy
           have e3 := frozen_blk gy 0
           have e4 := frozen_blk gy 1
           go_simp
           obtain ⟨z3, hz3⟩ : ∃ Q, Q = (z2.setCell ⟨Y, 0, none⟩ (.slice bo' m' bc')).setCell ⟨Y, 1, none⟩ (.int .i64 most) := ⟨_, rfl⟩
           rw [← hz3]
           have HP3 : Hid (PS u p' most L1 bo' m' bc' [(Y, wantO bo' m' bc' most), (T9, wantO bo m bc most), (X5, tmO k i)] z3) := Lib.hid (HP2.out.set (C' := #[.slice bo' m' bc', .int .i64 most]) HYT.out.2.2 (by simp) (by decide) (by decide) (by
            intro x hx
            simp at hx
            rcases hx with rfl | rfl
            ·
             exact fun e => HYT.out.1 e.symm
            ·
             exact fun e => HYT.out.2.1 e.symm) (by rw [hz3]; exact setCell_blk (setCell_blk gy 0 _) 1 _) (by rw [hz3]; exact ((Mod.refl (fun q => q = Y) z2).setCell ⟨Y, 0, none⟩ (.inl rfl) _).setCell ⟨Y, 1, none⟩ (.inl rfl) _))
           clear e0 e1 e2 e3 e4 hz3 gy
           refine hK.out _ _ noK ?_
           clear hK KK
           try simp only [Act.put, List.setIfInBounds_toArray, List.set_cons_zero, List.set_cons_succ]
           refine wpAnyK_ready (rs := [14]) (by kernel_rfl) (by simp) ?_
           refine AllReadyK.cons (o := pq15) rfl (fun KK hK => ?_) (AllReadyK.nil)
           try simp only [List.getElem_toArray, List.getElem_cons_succ, List.getElem_cons_zero]
           go_simp
           refine hK.out _ _ noK ?_
           clear hK KK
           try simp only [Act.put, List.setIfInBounds_toArray, List.set_cons_zero, List.set_cons_succ]
           refine wpAnyK_done (by kernel_rfl) ?_ _
           go_wp2
           go_meet
           exact ⟨p', bo', m', bc', Y, rfl, rfl, rfl, HP3.out, HYT.out.1, HYT.out.2.2⟩
          ·
           try simp only [List.getElem_toArray, List.getElem_cons_succ, List.getElem_cons_zero]
           have gy := HP2.out.at (x := Y) (o := .cells #[.slice none 0 0, .int .i64 0] 36 (0, 0)) (by simp)
           have e0 := cell_blk gy 0 _ rfl
           have e1 := cell_blk gy 1 _ rfl
           have e2 := blk_lt gy
           have e3 := frozen_blk gy 0
           have e4 := frozen_blk gy 1
           go_simp
           obtain ⟨z3, hz3⟩ : ∃ Q, Q = (z2.setCell ⟨Y, 0, none⟩ (.slice bo' m' bc')).setCell ⟨Y, 1, none⟩ (.int .i64 most) := ⟨_, rfl⟩
           rw [← hz3]
           have HP3 : Hid (PS u p' most L1 bo' m' bc' [(Y, wantO bo' m' bc' most), (T9, wantO bo m bc most), (X5, tmO k i)] z3) := Lib.hid (HP2.out.set (C' := #[.slice bo' m' bc', .int .i64 most]) HYT.out.2.2 (by simp) (by decide) (by decide) (by
            intro x hx
            simp at hx
            rcases hx with rfl | rfl
            ·
             exact fun e => HYT.out.1 e.symm
            ·
             exact fun e => HYT.out.2.1 e.symm) (by rw [hz3]; exact setCell_blk (setCell_blk gy 0 _) 1 _) (by rw [hz3]; exact ((Mod.refl (fun q => q = Y) z2).setCell ⟨Y, 0, none⟩ (.inl rfl) _).setCell ⟨Y, 1, none⟩ (.inl rfl) _))
           clear e0 e1 e2 e3 e4 hz3 gy
           refine hK.out _ _ noK ?_
           clear hK KK
           try simp only [Act.put, List.setIfInBounds_toArray, List.set_cons_zero, List.set_cons_succ]
           refine wpAnyK_ready (rs := [10]) (by kernel_rfl) (by simp) ?_
           refine AllReadyK.cons (o := pq12) rfl (fun KK hK => ?_) (AllReadyK.nil)
           try simp only [List.getElem_toArray, List.getElem_cons_succ, List.getElem_cons_zero]
           go_simp
           refine hK.out _ _ noK ?_
           clear hK KK
           try simp only [Act.put, List.setIfInBounds_toArray, List.set_cons_zero, List.set_cons_succ]
           refine wpAnyK_ready (rs := [14]) (by kernel_rfl) (by simp) ?_
           refine AllReadyK.cons (o := pq15) rfl (fun KK hK => ?_) (AllReadyK.nil)
           try simp only [List.getElem_toArray, List.getElem_cons_succ, List.getElem_cons_zero]
           go_simp
           refine hK.out _ _ noK ?_
           clear hK KK
           try simp only [Act.put, List.setIfInBounds_toArray, List.set_cons_zero, List.set_cons_succ]
           refine wpAnyK_done (by kernel_rfl) ?_ _
           go_wp2
           go_meet
           exact ⟨p', bo', m', bc', Y, rfl, rfl, rfl, HP3.out, HYT.out.1, HYT.out.2.2⟩
        ·
         try simp only [List.getElem_toArray, List.getElem_cons_succ, List.getElem_cons_zero]
         go_simp
         refine hK.out _ _ noK ?_
         clear hK KK
         try simp only [Act.put, List.setIfInBounds_toArray, List.set_cons_zero, List.set_cons_succ]
         refine wpAnyK_ready (rs := [9, 12]) (by kernel_rfl) (by simp) ?_
         refine AllReadyK.cons (o := pq11) rfl (fun KK hK => ?_) (AllReadyK.cons (o := pq13) rfl (fun KK hK => ?_) (AllReadyK.nil))
         ·
          try simp only [List.getElem_toArray, List.getElem_cons_succ, List.getElem_cons_zero]
          go_simp
          refine hK.out _ _ noK ?_
          clear hK KK
          try simp only [Act.put, List.setIfInBounds_toArray, List.set_cons_zero, List.set_cons_succ]
          refine wpAnyK_ready (rs := [12]) (by kernel_rfl) (by simp) ?_
          refine AllReadyK.cons (o := pq13) rfl (fun KK hK => ?_) (AllReadyK.nil)
          try simp only [List.getElem_toArray, List.getElem_cons_succ, List.getElem_cons_zero]
          go_simp
          refine hK.out _ _ noK ?_
          clear hK KK
          try simp only [Act.put, List.setIfInBounds_toArray, List.set_cons_zero, List.set_cons_succ]
          refine wpAnyK_ready (rs := [13]) (by kernel_rfl) (by simp) ?_
          refine AllReadyK.cons (o := pq14) rfl (fun KK hK => ?_) (AllReadyK.nil)
          try simp only [List.getElem_toArray, List.getElem_cons_succ, List.getElem_cons_zero]
          have gy := HP2.out.at (x := Y) (o := .cells #[.slice none 0 0, .int .i64 0] 36 (0, 0)) (by simp)
          have e0 := cell_blk gy 0 _ rfl
          have e1 := cell_blk gy 1 _ rfl
          have e2 := blk_lt gy
          have e3 := frozen_blk gy 0
          have e4 := frozen_blk gy 1
          go_simp
          obtain ⟨z3, hz3⟩ : ∃ Q, Q = (z2.setCell ⟨Y, 0, none⟩ (.slice bo' m' bc')).setCell ⟨Y, 1, none⟩ (.int .i64 most) := ⟨_, rfl⟩
          rw [← hz3]
          have HP3 : Hid (PS u p' most L1 bo' m' bc' [(Y, wantO bo' m' bc' most), (T9, wantO bo m bc most), (X5, tmO k i)] z3) := Lib.hid (HP2.out.set (C' := #[.slice bo' m' bc', .int .i64 most]) HYT.out.2.2 (by simp) (by decide) (by decide) (by
           intro x hx
           simp at hx
           rcases hx with rfl | rfl
           ·
            exact fun e => HYT.out.1 e.symm
           ·
            exact fun e => HYT.out.2.1 e.symm) (by rw [hz3]; exact setCell_blk (setCell_blk gy 0 _) 1 _) (by rw [hz3]; exact ((Mod.refl (fun q => q = Y) z2).setCell ⟨Y, 0, none⟩ (.inl rfl) _).setCell ⟨Y, 1, none⟩ (.inl rfl) _))
          clear e0 e1 e2 e3 e4 hz3 gy
          refine hK.out _ _ noK ?_
          clear hK KK
          try simp only [Act.put, List.setIfInBounds_toArray, List.set_cons_zero, List.set_cons_succ]
          refine wpAnyK_ready (rs := [14]) (by kernel_rfl) (by simp) ?_
          refine AllReadyK.cons (o := pq15) rfl (fun KK hK => ?_) (AllReadyK.nil)
          try simp only [List.getElem_toArray, List.getElem_cons_succ, List.getElem_cons_zero]
          go_simp
          refine hK.out _ _ noK ?_
          clear hK KK
          try simp only [Act.put, List.setIfInBounds_toArray, List.set_cons_zero, List.set_cons_succ]
          refine wpAnyK_done (by kernel_rfl) ?_ _
          go_wp2
          go_meet
          exact ⟨p', bo', m', bc', Y, rfl, rfl, rfl, HP3.out, HYT.out.1, HYT.out.2.2⟩
         ·
          try simp only [List.getElem_toArray, List.getElem_cons_succ, List.getElem_cons_zero]
          go_simp
          refine hK.out _ _ noK ?_
          clear hK KK
          try simp only [Act.put, List.setIfInBounds_toArray, List.set_cons_zero, List.set_cons_succ]
          refine wpAnyK_ready (rs := [9]) (by kernel_rfl) (by simp) ?_
          refine AllReadyK.cons (o := pq11) rfl (fun KK hK => ?_) (AllReadyK.nil)
          try simp only [List.getElem_toArray, List.getElem_cons_succ, List.getElem_cons_zero]
          go_simp
          refine hK.out _ _ noK ?_
          clear hK KK
          try simp only [Act.put, List.setIfInBounds_toArray, List.set_cons_zero, List.set_cons_succ]
          refine wpAnyK_ready (rs := [13]) (by kernel_rfl) (by simp) ?_
          refine AllReadyK.cons (o := pq14) rfl (fun KK hK => ?_) (AllReadyK.nil)
          try simp only [List.getElem_toArray, List.getElem_cons_succ, List.getElem_cons_zero]
          have gy := HP2.out.at (x := Y) (o := .cells #[.slice none 0 0, .int .i64 0] 36 (0, 0)) (by simp)
          have e0 := cell_blk gy 0 _ rfl
          have e1 := cell_blk gy 1 _ rfl
          have e2 := blk_lt gy
          have e3 := frozen_blk gy 0
          have e4 := frozen_blk gy 1
          go_simp
          obtain ⟨z3, hz3⟩ : ∃ Q, Q = (z2.setCell ⟨Y, 0, none⟩ (.slice bo' m' bc')).setCell ⟨Y, 1, none⟩ (.int .i64 most) := ⟨_, rfl⟩
          rw [← hz3]
          have HP3 : Hid (PS u p' most L1 bo' m' bc' [(Y, wantO bo' m' bc' most), (T9, wantO bo m bc most), (X5, tmO k i)] z3) := Lib.hid (HP2.out.set (C' := #[.slice bo' m' bc', .int .i64 most]) HYT.out.2.2 (by simp) (by decide) (by decide) (by
           intro x hx
           simp at hx
           rcases hx with rfl | rfl
           ·
            exact fun e => HYT.out.1 e.symm
           ·
            exact fun e => HYT.out.2.1 e.symm) (by rw [hz3]; exact setCell_blk (setCell_blk gy 0 _) 1 _) (by rw [hz3]; exact ((Mod.refl (fun q => q = Y) z2).setCell ⟨Y, 0, none⟩ (.inl rfl) _).setCell ⟨Y, 1, none⟩ (.inl rfl) _))
          clear e0 e1 e2 e3 e4 hz3 gy
          refine hK.out _ _ noK ?_
          clear hK KK
          try simp only [Act.put, List.setIfInBounds_toArray, List.set_cons_zero, List.set_cons_succ]
          refine wpAnyK_ready (rs := [14]) (by kernel_rfl) (by simp) ?_
          refine AllReadyK.cons (o := pq15) rfl (fun KK hK => ?_) (AllReadyK.nil)
          try simp only [List.getElem_toArray, List.getElem_cons_succ, List.getElem_cons_zero]
          go_simp
          refine hK.out _ _ noK ?_
          clear hK KK
          try simp only [Act.put, List.setIfInBounds_toArray, List.set_cons_zero, List.set_cons_succ]
          refine wpAnyK_done (by kernel_rfl) ?_ _
          go_wp2
          go_meet
          exact ⟨p', bo', m', bc', Y, rfl, rfl, rfl, HP3.out, HYT.out.1, HYT.out.2.2⟩
        ·
         try simp only [List.getElem_toArray, List.getElem_cons_succ, List.getElem_cons_zero]
         go_simp
         refine hK.out _ _ noK ?_
         clear hK KK
         try simp only [Act.put, List.setIfInBounds_toArray, List.set_cons_zero, List.set_cons_succ]
         refine wpAnyK_ready (rs := [9, 10]) (by kernel_rfl) (by simp) ?_
         refine AllReadyK.cons (o := pq11) rfl (fun KK hK => ?_) (AllReadyK.cons (o := pq12) rfl (fun KK hK => ?_) (AllReadyK.nil))
         ·
          try simp only [List.getElem_toArray, List.getElem_cons_succ, List.getElem_cons_zero]
          go_simp
          refine hK.out _ _ noK ?_
          clear hK KK
          try simp only [Act.put, List.setIfInBounds_toArray, List.set_cons_zero, List.set_cons_succ]
          refine wpAnyK_ready (rs := [10, 13]) (by kernel_rfl) (by simp) ?_
          refine AllReadyK.cons (o := pq12) rfl (fun KK hK => ?_) (AllReadyK.cons (o := pq14) rfl (fun KK hK => ?_) (AllReadyK.nil))
          ·
           try simp only [List.getElem_toArray, List.getElem_cons_succ, List.getElem_cons_zero]
           go_simp
           refine hK.out _ _ noK ?_
           clear hK KK
           try simp only [Act.put, List.setIfInBounds_toArray, List.set_cons_zero, List.set_cons_succ]
           refine wpAnyK_ready (rs := [13]) (by kernel_rfl) (by simp) ?_
           refine AllReadyK.cons (o := pq14) rfl (fun KK hK => ?_) (AllReadyK.nil)
           try simp only [List.getElem_toArray, List.getElem_cons_succ, List.getElem_cons_zero]
           have gy := HP2.out.at (x := Y) (o := .cells #[.slice none 0 0, .int .i64 0] 36 (0, 0)) (by simp)
           have e0 := cell_blk gy 0 _ rfl
           have e1 := cell_blk gy 1 _ rfl
           have e2 := blk_lt gy
           have e3 := frozen_blk gy 0
           have e4 := frozen_blk gy 1
           go_simp
           obtain ⟨z3, hz3⟩ : ∃ Q, Q = (z2.setCell ⟨Y, 0, none⟩ (.slice bo' m' bc')).setCell ⟨Y, 1, none⟩ (.int .i64 most) := ⟨_, rfl⟩
           rw [← hz3]
           have HP3 : Hid (PS u p' most L1 bo' m' bc' [(Y, wantO bo' m' bc' most), (T9, wantO bo m bc most), (X5, tmO k i)] z3) := Lib.hid (HP2.out.set (C' := #[.slice bo' m' bc', .int .i64 most]) HYT.out.2.2 (by simp) (by decide) (by decide) (by
            intro x hx
            simp at hx
            rcases hx with rfl | rfl
            ·
             exact fun e => HYT.out.1 e.symm
            ·
             exact fun e => HYT.out.2.1 e.symm) (by rw [hz3]; exact setCell_blk (setCell_blk gy 0 _) 1 _) (by rw [hz3]; exact ((Mod.refl (fun q => q = Y) z2).setCell ⟨Y, 0, none⟩ (.inl rfl) _).setCell ⟨Y, 1, none⟩ (.inl rfl) _))
           clear e0 e1 e2 e3 e4 hz3 gy
           refine hK.out _ _ noK ?_
           clear hK KK
           try simp only [Act.put, List.setIfInBounds_toArray, List.set_cons_zero, List.set_cons_succ]
           refine wpAnyK_ready (rs := [14]) (by kernel_rfl) (by simp) ?_
           refine AllReadyK.cons (o := pq15) rfl (fun KK hK => ?_) (AllReadyK.nil)
           try simp only [List.getElem_toArray, List.getElem_cons_succ, List.getElem_cons_zero]
           go_simp
           refine hK.out _ _ noK ?_
           clear hK KK
           try simp only [Act.put, List.setIfInBounds_toArray, List.set_cons_zero, List.set_cons_succ]
           refine wpAnyK_done (by kernel_rfl) ?_ _
           go_wp2
           go_meet
           exact ⟨p', bo', m', bc', Y, rfl, rfl, rfl, HP3.out, HYT.out.1, HYT.out.2.2⟩
          ·
           try simp only [List.getElem_toArray, List.getElem_cons_succ, List.getElem_cons_zero]
           have gy := HP2.out.at (x := Y) (o := .cells #[.slice none 0 0, .int .i64 0] 36 (0, 0)) (by simp)
           have e0 := cell_blk gy 0 _ rfl
           have e1 := cell_blk gy 1 _ rfl
           have e2 := blk_lt gy
           have e3 := frozen_blk gy 0
           have e4 := frozen_blk gy 1
           go_simp
           obtain ⟨z3, hz3⟩ : ∃ Q, Q = (z2.setCell ⟨Y, 0, none⟩ (.slice bo' m' bc')).setCell ⟨Y, 1, none⟩ (.int .i64 most) := ⟨_, rfl⟩
           rw [← hz3]
           have HP3 : Hid (PS u p' most L1 bo' m' bc' [(Y, wantO bo' m' bc' most), (T9, wantO bo m bc most), (X5, tmO k i)] z3) := Lib.hid (HP2.out.set (C' := #[.slice bo' m' bc', .int .i64 most]) HYT.out.2.2 (by simp) (by decide) (by decide) (by
            intro x hx
            simp at hx
            rcases hx with rfl | rfl
            ·
             exact fun e => HYT.out.1 e.symm
            ·
             exact fun e => HYT.out.2.1 e.symm) (by rw [hz3]; exact setCell_blk (setCell_blk gy 0 _) 1 _) (by rw [hz3]; exact ((Mod.refl (fun q => q = Y) z2).setCell ⟨Y, 0, none⟩ (.inl rfl) _).setCell ⟨Y, 1, none⟩ (.inl rfl) _))
           clear e0 e1 e2 e3 e4 hz3 gy
           refine hK.out _ _ noK ?_
           clear hK KK
           try simp only [Act.put, List.setIfInBounds_toArray, List.set_cons_zero, List.set_cons_succ]
           refine wpAnyK_ready (rs := [10]) (by kernel_rfl) (by simp) ?_
           refine AllReadyK.cons (o := pq12) rfl (fun KK hK => ?_) (AllReadyK.nil)
           try simp only [List.getElem_toArray, List.getElem_cons_succ, List.getElem_cons_zero]
           go_simp
           refine hK.out _ _ noK ?_
           clear hK KK
           try simp only [Act.put, List.setIfInBounds_toArray, List.set_cons_zero, List.set_cons_succ]
           refine wpAnyK_ready (rs := [14]) (by kernel_rfl) (by simp) ?_
           refine AllReadyK.cons (o := pq15) rfl (fun KK hK => ?_) (AllReadyK.nil)
           try simp only [List.getElem_toArray, List.getElem_cons_succ, List.getElem_cons_zero]
           go_simp
           refine hK.out _ _ noK ?_
           clear hK KK
           try simp only [Act.put, List.setIfInBounds_toArray, List.set_cons_zero, List.set_cons_succ]
           refine wpAnyK_done (by kernel_rfl) ?_ _
           go_wp2
           go_meet
           exact ⟨p', bo', m', bc', Y, rfl, rfl, rfl, HP3.out, HYT.out.1, HYT.out.2.2⟩
         ·
          try simp only [List.getElem_toArray, List.getElem_cons_succ, List.getElem_cons_zero]
          go_simp
          refine hK.out _ _ noK ?_
          clear hK KK
          try simp only [Act.put, List.setIfInBounds_toArray, List.set_cons_zero, List.set_cons_succ]
          refine wpAnyK_ready (rs := [9]) (by kernel_rfl) (by simp) ?_
          refine AllReadyK.cons (o := pq11) rfl (fun KK hK => ?_) (AllReadyK.nil)
          try simp only [List.getElem_toArray, List.getElem_cons_succ, List.getElem_cons_zero]
          go_simp
          refine hK.out _ _ noK ?_
          clear hK KK
          try simp only [Act.put, List.setIfInBounds_toArray, List.set_cons_zero, List.set_cons_succ]
          refine wpAnyK_ready (rs := [13]) (by kernel_rfl) (by simp) ?_
          refine AllReadyK.cons (o := pq14) rfl (fun KK hK => ?_) (AllReadyK.nil)
          try simp only [List.getElem_toArray, List.getElem_cons_succ, List.getElem_cons_zero]
          have gy := HP2.out.at (x := Y) (o := .cells #[.slice none 0 0, .int .i64 0] 36 (0, 0)) (by simp)
          have e0 := cell_blk gy 0 _ rfl
          have e1 := cell_blk gy 1 _ rfl
          have e2 := blk_lt gy
          have e3 := frozen_blk gy 0
          have e4 := frozen_blk gy 1
          go_simp
          obtain ⟨z3, hz3⟩ : ∃ Q, Q = (z2.setCell ⟨Y, 0, none⟩ (.slice bo' m' bc')).setCell ⟨Y, 1, none⟩ (.int .i64 most) := ⟨_, rfl⟩
          rw [← hz3]
          have HP3 : Hid (PS u p' most L1 bo' m' bc' [(Y, wantO bo' m' bc' most), (T9, wantO bo m bc most), (X5, tmO k i)] z3) := Lib.hid (HP2.out.set (C' := #[.slice bo' m' bc', .int .i64 most]) HYT.out.2.2 (by simp) (by decide) (by decide) (by
           intro x hx
           simp at hx
           rcases hx with rfl | rfl
           ·
            exact fun e => HYT.out.1 e.symm
           ·
            exact fun e => HYT.out.2.1 e.symm) (by rw [hz3]; exact setCell_blk (setCell_blk gy 0 _) 1 _) (by rw [hz3]; exact ((Mod.refl (fun q => q = Y) z2).setCell ⟨Y, 0, none⟩ (.inl rfl) _).setCell ⟨Y, 1, none⟩ (.inl rfl) _))
          clear e0 e1 e2 e3 e4 hz3 gy
          refine hK.out _ _ noK ?_
          clear hK KK
          try simp only [Act.put, List.setIfInBounds_toArray, List.set_cons_zero, List.set_cons_succ]
          refine wpAnyK_ready (rs := [14]) (by kernel_rfl) (by simp) ?_
          refine AllReadyK.cons (o := pq15) rfl (fun KK hK => ?_) (AllReadyK.nil)
          try simp only [List.getElem_toArray, List.getElem_cons_succ, List.getElem_cons_zero]
          go_simp
          refine hK.out _ _ noK ?_
          clear hK KK
          try simp only [Act.put, List.setIfInBounds_toArray, List.set_cons_zero, List.set_cons_succ]
          refine wpAnyK_done (by kernel_rfl) ?_ _
          go_wp2
          go_meet
          exact ⟨p', bo', m', bc', Y, rfl, rfl, rfl, HP3.out, HYT.out.1, HYT.out.2.2⟩
       ·
        try simp only [List.getElem_toArray, List.getElem_cons_succ, List.getElem_cons_zero]
        go_simp
        refine hK.out _ _ noK ?_
        clear hK KK
        try simp only [Act.put, List.setIfInBounds_toArray, List.set_cons_zero, List.set_cons_succ]
        refine wpAnyK_ready (rs := [8, 10]) (by kernel_rfl) (by simp) ?_
        refine AllReadyK.cons (o := pq10) rfl (fun KK hK => ?_) (AllReadyK.cons (o := pq12) rfl (fun KK hK => ?_) (AllReadyK.nil))
        ·
         try simp only [List.getElem_toArray, List.getElem_cons_succ, List.getElem_cons_zero]
         go_simp
         refine hK.out _ _ noK ?_
         clear hK KK
         try simp only [Act.put, List.setIfInBounds_toArray, List.set_cons_zero, List.set_cons_succ]
         refine wpAnyK_ready (rs := [10, 12]) (by kernel_rfl) (by simp) ?_
         refine AllReadyK.cons (o := pq12) rfl (fun KK hK => ?_) (AllReadyK.cons (o := pq13) rfl (fun KK hK => ?_) (AllReadyK.nil))
         ·
          try simp only [List.getElem_toArray, List.getElem_cons_succ, List.getElem_cons_zero]
          go_simp
          refine hK.out _ _ noK ?_
          clear hK KK
          try simp only [Act.put, List.setIfInBounds_toArray, List.set_cons_zero, List.set_cons_succ]
          refine wpAnyK_ready (rs := [12]) (by kernel_rfl) (by simp) ?_
          refine AllReadyK.cons (o := pq13) rfl (fun KK hK => ?_) (AllReadyK.nil)
          try simp only [List.getElem_toArray, List.getElem_cons_succ, List.getElem_cons_zero]
          go_simp
          refine hK.out _ _ noK ?_
          clear hK KK
          try simp only [Act.put, List.setIfInBounds_toArray, List.set_cons_zero, List.set_cons_succ]
          refine wpAnyK_ready (rs := [13]) (by kernel_rfl) (by simp) ?_
          refine AllReadyK.cons (o := pq14) rfl (fun KK hK => ?_) (AllReadyK.nil)
          try simp only [List.getElem_toArray, List.getElem_cons_succ, List.getElem_cons_zero]
          have gy := HP2.out.at (x := Y) (o := .cells #[.slice none 0 0, .int .i64 0] 36 (0, 0)) (by simp)
          have e0 := cell_blk gy 0 _ rfl
          have e1 := cell_blk gy 1 _ rfl
          have e2 := blk_lt gy
          have e3 := frozen_blk gy 0
          have e4 := frozen_blk gy 1
          go_simp
          obtain ⟨z3, hz3⟩ : ∃ Q, Q = (z2.setCell ⟨Y, 0, none⟩ (.slice bo' m' bc')).setCell ⟨Y, 1, none⟩ (.int .i64 most) := ⟨_, rfl⟩
          rw [← hz3]
          have HP3 : Hid (PS u p' most L1 bo' m' bc' [(Y, wantO bo' m' bc' most), (T9, wantO bo m bc most), (X5, tmO k i)] z3) := Lib.hid (HP2.out.set (C' := #[.slice bo' m' bc', .int .i64 most]) HYT.out.2.2 (by simp) (by decide) (by decide) (by
           intro x hx
           simp at hx
           rcases hx with rfl | rfl
           ·
            exact fun e => HYT.out.1 e.symm
           ·
            exact fun e => HYT.out.2.1 e.symm) (by rw [hz3]; exact setCell_blk (setCell_blk gy 0 _) 1 _) (by rw [hz3]; exact ((Mod.refl (fun q => q = Y) z2).setCell ⟨Y, 0, none⟩ (.inl rfl) _).setCell ⟨Y, 1, none⟩ (.inl rfl) _))
          clear e0 e1 e2 e3 e4 hz3 gy
          refine hK.out _ _ noK ?_
          clear hK KK
          try simp only [Act.put, List.setIfInBounds_toArray, List.set_cons_zero, List.set_cons_succ]
          refine wpAnyK_ready (rs := [14]) (by kernel_rfl) (by simp) ?_
          refine AllReadyK.cons (o := pq15) rfl (fun KK hK => ?_) (AllReadyK.nil)
          try simp only [List.getElem_toArray, List.getElem_cons_succ, List.getElem_cons_zero]
          go_simp
          refine hK.out _ _ noK ?_
          clear hK KK
          try simp only [Act.put, List.setIfInBounds_toArray, List.set_cons_zero, List.set_cons_succ]
          refine wpAnyK_done (by kernel_rfl) ?_ _
          go_wp2
          go_meet
          exact ⟨p', bo', m', bc', Y, rfl, rfl, rfl, HP3.out, HYT.out.1, HYT.out.2.2⟩
         ·
          try simp only [List.getElem_toArray, List.getElem_cons_succ, List.getElem_cons_zero]
          go_simp
          refine hK.out _ _ noK ?_
          clear hK KK
          try simp only [Act.put, List.setIfInBounds_toArray, List.set_cons_zero, List.set_cons_succ]
          refine wpAnyK_ready (rs := [10, 13]) (by kernel_rfl) (by simp) ?_
          refine AllReadyK.cons (o := pq12) rfl (fun KK hK => ?_) (AllReadyK.cons (o := pq14) rfl (fun KK hK => ?_) (AllReadyK.nil))
          ·
           try simp only [List.getElem_toArray, List.getElem_cons_succ, List.getElem_cons_zero]
           go_simp
           refine hK.out _ _ noK ?_
           clear hK KK
           try simp only [Act.put, List.setIfInBounds_toArray, List.set_cons_zero, List.set_cons_succ]
           refine wpAnyK_ready (rs := [13]) (by kernel_rfl) (by simp) ?_
           refine AllReadyK.cons (o := pq14) rfl (fun KK hK => ?_) (AllReadyK.nil)
           try simp only [List.getElem_toArray, List.getElem_cons_succ, List.getElem_cons_zero]
           have gy := HP2.out.at (x := Y) (o := .cells #[.slice none 0 0, .int .i64 0] 36 (0, 0)) (by simp)
           have e0 := cell_blk gy 0 _ rfl
           have e1 := cell_blk gy 1 _ rfl
           have e2 := blk_lt gy
           have e3 := frozen_blk gy 0
           have e4 := frozen_blk gy 1
           go_simp
           obtain ⟨z3, hz3⟩ : ∃ Q, Q = (z2.setCell ⟨Y, 0, none⟩ (.slice bo' m' bc')).setCell ⟨Y, 1, none⟩ (.int .i64 most) := ⟨_, rfl⟩
           rw [← hz3]
           have HP3 : Hid (PS u p' most L1 bo' m' bc' [(Y, wantO bo' m' bc' most), (T9, wantO bo m bc most), (X5, tmO k i)] z3) := Lib.hid (HP2.out.set (C' := #[.slice bo' m' bc', .int .i64 most]) HYT.out.2.2 (by simp) (by decide) (by decide) (by
            intro x hx
            simp at hx
            rcases hx with rfl | rfl
            ·
             exact fun e => HYT.out.1 e.symm
            ·
             exact fun e => HYT.out.2.1 e.symm) (by rw [hz3]; exact setCell_blk (setCell_blk gy 0 _) 1 _) (by rw [hz3]; exact ((Mod.refl (fun q => q = Y) z2).setCell ⟨Y, 0, none⟩ (.inl rfl) _).setCell ⟨Y, 1, none⟩ (.inl rfl) _))
           clear e0 e1 e2 e3 e4 hz3 gy
           refine hK.out _ _ noK ?_
           clear hK KK
           try simp only [Act.put, List.setIfInBounds_toArray, List.set_cons_zero, List.set_cons_succ]
           refine wpAnyK_ready (rs := [14]) (by kernel_rfl) (by simp) ?_
           refine AllReadyK.cons (o := pq15) rfl (fun KK hK => ?_) (AllReadyK.nil)
           try simp only [List.getElem_toArray, List.getElem_cons_succ, List.getElem_cons_zero]
           go_simp
           refine hK.out _ _ noK ?_
           clear hK KK
           try simp only [Act.put, List.setIfInBounds_toArray, List.set_cons_zero, List.set_cons_succ]
           refine wpAnyK_done (by kernel_rfl) ?_ _
           go_wp2
           go_meet
           exact ⟨p', bo', m', bc', Y, rfl, rfl, rfl, HP3.out, HYT.out.1, HYT.out.2.2⟩
          ·
           try simp only [List.getElem_toArray, List.getElem_cons_succ, List.getElem_cons_zero]
           have gy := HP2.out.at (x := Y) (o := .cells #[.slice none 0 0, .int .i64 0] 36 (0, 0)) (by simp)
           have e0 := cell_blk gy 0 _ rfl
           have e1 := cell_blk gy 1 _ rfl
           have e2 := blk_lt gy
           have e3 := frozen_blk gy 0
           have e4 := frozen_blk gy 1
           go_simp
           obtain ⟨z3, hz3⟩ : ∃ Q, Q = (z2.setCell ⟨Y, 0, none⟩ (.slice bo' m' bc')).setCell ⟨Y, 1, none⟩ (.int .i64 most) := ⟨_, rfl⟩
           rw [← hz3]
           have HP3 : Hid (PS u p' most L1 bo' m' bc' [(Y, wantO bo' m' bc' most), (T9, wantO bo m bc most), (X5, tmO k i)] z3) := Lib.hid (HP2.out.set (C' := #[.slice bo' m' bc', .int .i64 most]) HYT.out.2.2 (by simp) (by decide) (by decide) (by
            intro x hx
            simp at hx
            rcases hx with rfl | rfl
            ·
             exact fun e => HYT.out.1 e.symm
            ·
             exact fun e => HYT.out.2.1 e.symm) (by rw [hz3]; exact setCell_blk (setCell_blk gy 0 _) 1 _) (by rw [hz3]; exact ((Mod.refl (fun q => q = Y) z2).setCell ⟨Y, 0, none⟩ (.inl rfl) _).setCell ⟨Y, 1, none⟩ (.inl rfl) _))
           clear e0 e1 e2 e3 e4 hz3 gy
           refine hK.out _ _ noK ?_
           clear hK KK
           try simp only [Act.put, List.setIfInBounds_toArray, List.set_cons_zero, List.set_cons_succ]
           refine wpAnyK_ready (rs := [10]) (by kernel_rfl) (by simp) ?_
           refine AllReadyK.cons (o := pq12) rfl (fun KK hK => ?_) (AllReadyK.nil)
           try simp only [List.getElem_toArray, List.getElem_cons_succ, List.getElem_cons_zero]
           go_simp
           refine hK.out _ _ noK ?_
           clear hK KK
           try simp only [Act.put, List.setIfInBounds_toArray, List.set_cons_zero, List.set_cons_succ]
           refine wpAnyK_ready (rs := [14]) (by kernel_rfl) (by simp) ?_
           refine AllReadyK.cons (o := pq15) rfl (fun KK hK => ?_) (AllReadyK.nil)
           try simp only [List.getElem_toArray, List.getElem_cons_succ, List.getElem_cons_zero]
           go_simp
           refine hK.out _ _ noK ?_
           clear hK KK
           try simp only [Act.put, List.setIfInBounds_toArray, List.set_cons_zero, List.set_cons_succ]
           refine wpAnyK_done (by kernel_rfl) ?_ _
           go_wp2
           go_meet
           exact ⟨p', bo', m', bc', Y, rfl, rfl, rfl, HP3.out, HYT.out.1, HYT.out.2.2⟩
        ·
         try simp only [List.getElem_toArray, List.getElem_cons_succ, List.getElem_cons_zero]
         go_simp
         refine hK.out _ _ noK ?_
         clear hK KK
         try simp only [Act.put, List.setIfInBounds_toArray, List.set_cons_zero, List.set_cons_succ]
         refine wpAnyK_ready (rs := [8]) (by kernel_rfl) (by simp) ?_
         refine AllReadyK.cons (o := pq10) rfl (fun KK hK => ?_) (AllReadyK.nil)
         try simp only [List.getElem_toArray, List.getElem_cons_succ, List.getElem_cons_zero]
         go_simp
         refine hK.out _ _ noK ?_
         clear hK KK
         try simp only [Act.put, List.setIfInBounds_toArray, List.set_cons_zero, List.set_cons_succ]
         refine wpAnyK_ready (rs := [12]) (by kernel_rfl) (by simp) ?_
         refine AllReadyK.cons (o := pq13) rfl (fun KK hK => ?_) (AllReadyK.nil)
         try simp only [List.getElem_toArray, List.getElem_cons_succ, List.getElem_cons_zero]
         go_simp
         refine hK.out _ _ noK ?_
         clear hK KK
         try simp only [Act.put, List.setIfInBounds_toArray, List.set_cons_zero, List.set_cons_succ]
         refine wpAnyK_ready (rs := [13]) (by kernel_rfl) (by simp) ?_
         refine AllReadyK.cons (o := pq14) rfl (fun KK hK => ?_) (AllReadyK.nil)
         try simp only [List.getElem_toArray, List.getElem_cons_succ, List.getElem_cons_zero]
         have gy := HP2.out.at (x := Y) (o := .cells #[.slice none 0 0, .int .i64 0] 36 (0, 0)) (by simp)
         have e0 := cell_blk gy 0 _ rfl
         have e1 := cell_blk gy 1 _ rfl
         have e2 := blk_lt gy
         have e3 := frozen_blk gy 0
         have e4 := frozen_blk gy 1
         go_simp
         obtain ⟨z3, hz3⟩ : ∃ Q, Q = (z2.setCell ⟨Y, 0, none⟩ (.slice bo' m' bc')).setCell ⟨Y, 1, none⟩ (.int .i64 most) := ⟨_, rfl⟩
         rw [← hz3]
         have HP3 : Hid (PS u p' most L1 bo' m' bc' [(Y, wantO bo' m' bc' most), (T9, wantO bo m bc most), (X5, tmO k i)] z3) := Lib.hid (HP2.out.set (C' := #[.slice bo' m' bc', .int .i64 most]) HYT.out.2.2 (by simp) (by decide) (by decide) (by
          intro x hx
          simp at hx
          rcases hx with rfl | rfl
          ·
           exact fun e => HYT.out.1 e.symm
          ·
           exact fun e => HYT.out.2.1 e.symm) (by rw [hz3]; exact setCell_blk (setCell_blk gy 0 _) 1 _) (by rw [hz3]; exact ((Mod.refl (fun q => q = Y) z2).setCell ⟨Y, 0, none⟩ (.inl rfl) _).setCell ⟨Y, 1, none⟩ (.inl rfl) _))
         clear e0 e1 e2 e3 e4 hz3 gy
         refine hK.out _ _ noK ?_
         clear hK KK
         try simp only [Act.put, List.setIfInBounds_toArray, List.set_cons_zero, List.set_cons_succ]
         refine wpAnyK_ready (rs := [14]) (by kernel_rfl) (by simp) ?_
         refine AllReadyK.cons (o := pq15) rfl (fun KK hK => ?_) (AllReadyK.nil)
         try simp only [List.getElem_toArray, List.getElem_cons_succ, List.getElem_cons_zero]
         go_simp
         refine hK.out _ _ noK ?_
         clear hK KK
         try simp only [Act.put, List.setIfInBounds_toArray, List.set_cons_zero, List.set_cons_succ]
         refine wpAnyK_done (by kernel_rfl) ?_ _
         go_wp2
         go_meet
         exact ⟨p', bo', m', bc', Y, rfl, rfl, rfl, HP3.out, HYT.out.1, HYT.out.2.2⟩
       ·
        try simp only [List.getElem_toArray, List.getElem_cons_succ, List.getElem_cons_zero]
        go_simp
        refine hK.out _ _ noK ?_
        clear hK KK
        try simp only [Act.put, List.setIfInBounds_toArray, List.set_cons_zero, List.set_cons_succ]
        refine wpAnyK_ready (rs := [8, 9]) (by kernel_rfl) (by simp) ?_
        refine AllReadyK.cons (o := pq10) rfl (fun KK hK => ?_) (AllReadyK.cons (o := pq11) rfl (fun KK hK => ?_) (AllReadyK.nil))
        ·
         try simp only [List.getElem_toArray, List.getElem_cons_succ, List.getElem_cons_zero]
         go_simp
         refine hK.out _ _ noK ?_
         clear hK KK
         try simp only [Act.put, List.setIfInBounds_toArray, List.set_cons_zero, List.set_cons_succ]
         refine wpAnyK_ready (rs := [9, 12]) (by kernel_rfl) (by simp) ?_
         refine AllReadyK.cons (o := pq11) rfl (fun KK hK => ?_) (AllReadyK.cons (o := pq13) rfl (fun KK hK => ?_) (AllReadyK.nil))
         ·
          try simp only [List.getElem_toArray, List.getElem_cons_succ, List.getElem_cons_zero]
          go_simp
          refine hK.out _ _ noK ?_
          clear hK KK
          try simp only [Act.put, List.setIfInBounds_toArray, List.set_cons_zero, List.set_cons_succ]
          refine wpAnyK_ready (rs := [12]) (by kernel_rfl) (by simp) ?_
          refine AllReadyK.cons (o := pq13) rfl (fun KK hK => ?_) (AllReadyK.nil)
          try simp only [List.getElem_toArray, List.getElem_cons_succ, List.getElem_cons_zero]
          go_simp
          refine hK.out _ _ noK ?_
          clear hK KK
          try simp only [Act.put, List.setIfInBounds_toArray, List.set_cons_zero, List.set_cons_succ]
          refine wpAnyK_ready (rs := [13]) (by kernel_rfl) (by simp) ?_
          refine AllReadyK.cons (o := pq14) rfl (fun KK hK => ?_) (AllReadyK.nil)
          try simp only [List.getElem_toArray, List.getElem_cons_succ, List.getElem_cons_zero]
          have gy := HP2.out.at (x := Y) (o := .cells #[.slice none 0 0, .int .i64 0] 36 (0, 0)) (by simp)
          have e0 := cell_blk gy 0 _ rfl
          have e1 := cell_blk gy 1 _ rfl
          have e2 := blk_lt gy
          have e3 := frozen_blk gy 0
          have e4 := frozen_blk gy 1
          go_simp
          obtain ⟨z3, hz3⟩ : ∃ Q, Q = (z2.setCell ⟨Y, 0, none⟩ (.slice bo' m' bc')).setCell ⟨Y, 1, none⟩ (.int .i64 most) := ⟨_, rfl⟩
          rw [← hz3]
          have HP3 : Hid (PS u p' most L1 bo' m' bc' [(Y, wantO bo' m' bc' most), (T9, wantO bo m bc most), (X5, tmO k i)] z3) := Lib.hid (HP2.out.set (C' := #[.slice bo' m' bc', .int .i64 most]) HYT.out.2.2 (by simp) (by decide) (by decide) (by
           intro x hx
           simp at hx
           rcases hx with rfl | rfl
           ·
            exact fun e => HYT.out.1 e.symm
           ·
            exact fun e => HYT.out.2.1 e.symm) (by rw [hz3]; exact setCell_blk (setCell_blk gy 0 _) 1 _) (by rw [hz3]; exact ((Mod.refl (fun q => q = Y) z2).setCell ⟨Y, 0, none⟩ (.inl rfl) _).setCell ⟨Y, 1, none⟩ (.inl rfl) _))
          clear e0 e1 e2 e3 e4 hz3 gy
          refine hK.out _ _ noK ?_
          clear hK KK
          try simp only [Act.put, List.setIfInBounds_toArray, List.set_cons_zero, List.set_cons_succ]
          refine wpAnyK_ready (rs := [14]) (by kernel_rfl) (by simp) ?_
          refine AllReadyK.cons (o := pq15) rfl (fun KK hK => ?_) (AllReadyK.nil)
          try simp only [List.getElem_toArray, List.getElem_cons_succ, List.getElem_cons_zero]
          go_simp
          refine hK.out _ _ noK ?_
          clear hK KK
          try simp only [Act.put, List.setIfInBounds_toArray, List.set_cons_zero, List.set_cons_succ]
          refine wpAnyK_done (by kernel_rfl) ?_ _
          go_wp2
          go_meet
          exact ⟨p', bo', m', bc', Y, rfl, rfl, rfl, HP3.out, HYT.out.1, HYT.out.2.2⟩
         ·
          try simp only [List.getElem_toArray, List.getElem_cons_succ, List.getElem_cons_zero]
          go_simp
          refine hK.out _ _ noK ?_
          clear hK KK
          try simp only [Act.put, List.setIfInBounds_toArray, List.set_cons_zero, List.set_cons_succ]
          refine wpAnyK_ready (rs := [9]) (by kernel_rfl) (by simp) ?_
          refine AllReadyK.cons (o := pq11) rfl (fun KK hK => ?_) (AllReadyK.nil)
          try simp only [List.getElem_toArray, List.getElem_cons_succ, List.getElem_cons_zero]
          go_simp
          refine hK.out _ _ noK ?_
          clear hK KK
          try simp only [Act.put, List.setIfInBounds_toArray, List.set_cons_zero, List.set_cons_succ]
          refine wpAnyK_ready (rs := [13]) (by kernel_rfl) (by simp) ?_
          refine AllReadyK.cons (o := pq14) rfl (fun KK hK => ?_) (AllReadyK.nil)
          try simp only [List.getElem_toArray, List.getElem_cons_succ, List.getElem_cons_zero]
          have gy := HP2.out.at (x := Y) (o := .cells #[.slice none 0 0, .int .i64 0] 36 (0, 0)) (by simp)
          have e0 := cell_blk gy 0 _ rfl
          have e1 := cell_blk gy 1 _ rfl
          have e2 := blk_lt gy
          have e3 := frozen_blk gy 0
          have e4 := frozen_blk gy 1
          go_simp
          obtain ⟨z3, hz3⟩ : ∃ Q, Q = (z2.setCell ⟨Y, 0, none⟩ (.slice bo' m' bc')).setCell ⟨Y, 1, none⟩ (.int .i64 most) := ⟨_, rfl⟩
          rw [← hz3]
          have HP3 : Hid (PS u p' most L1 bo' m' bc' [(Y, wantO bo' m' bc' most), (T9, wantO bo m bc most), (X5, tmO k i)] z3) := Lib.hid (HP2.out.set (C' := #[.slice bo' m' bc', .int .i64 most]) HYT.out.2.2 (by simp) (by decide) (by decide) (by
           intro x hx
           simp at hx
           rcases hx with rfl | rfl
           ·
            exact fun e => HYT.out.1 e.symm
           ·
            exact fun e => HYT.out.2.1 e.symm) (by rw [hz3]; exact setCell_blk (setCell_blk gy 0 _) 1 _) (by rw [hz3]; exact ((Mod.refl (fun q => q = Y) z2).setCell ⟨Y, 0, none⟩ (.inl rfl) _).setCell ⟨Y, 1, none⟩ (.inl rfl) _))
          clear e0 e1 e2 e3 e4 hz3 gy
          refine hK.out _ _ noK ?_
          clear hK KK
          try simp only [Act.put, List.setIfInBounds_toArray, List.set_cons_zero, List.set_cons_succ]
          refine wpAnyK_ready (rs := [14]) (by kernel_rfl) (by simp) ?_
          refine AllReadyK.cons (o := pq15) rfl (fun KK hK => ?_) (AllReadyK.nil)
          try simp only [List.getElem_toArray, List.getElem_cons_succ, List.getElem_cons_zero]
          go_simp
          refine hK.out _ _ noK ?_
          clear hK KK
          try simp only [Act.put, List.setIfInBounds_toArray, List.set_cons_zero, List.set_cons_succ]
          refine wpAnyK_done (by kernel_rfl) ?_ _
          go_wp2
          go_meet
          exact ⟨p', bo', m', bc', Y, rfl, rfl, rfl, HP3.out, HYT.out.1, HYT.out.2.2⟩
        ·
         try simp only [List.getElem_toArray, List.getElem_cons_succ, List.getElem_cons_zero]
         go_simp
         refine hK.out _ _ noK ?_
         clear hK KK
         try simp only [Act.put, List.setIfInBounds_toArray, List.set_cons_zero, List.set_cons_succ]
         refine wpAnyK_ready (rs := [8]) (by kernel_rfl) (by simp) ?_
         refine AllReadyK.cons (o := pq10) rfl (fun KK hK => ?_) (AllReadyK.nil)
         try simp only [List.getElem_toArray, List.getElem_cons_succ, List.getElem_cons_zero]
         go_simp
         refine hK.out _ _ noK ?_
         clear hK KK
         try simp only [Act.put, List.setIfInBounds_toArray, List.set_cons_zero, List.set_cons_succ]
         refine wpAnyK_ready (rs := [12]) (by kernel_rfl) (by simp) ?_
         refine AllReadyK.cons (o := pq13) rfl (fun KK hK => ?_) (AllReadyK.nil)
         try simp only [List.getElem_toArray, List.getElem_cons_succ, List.getElem_cons_zero]
         go_simp
         refine hK.out _ _ noK ?_
         clear hK KK
         try simp only [Act.put, List.setIfInBounds_toArray, List.set_cons_zero, List.set_cons_succ]
         refine wpAnyK_ready (rs := [13]) (by kernel_rfl) (by simp) ?_
         refine AllReadyK.cons (o := pq14) rfl (fun KK hK => ?_) (AllReadyK.nil)
         try simp only [List.getElem_toArray, List.getElem_cons_succ, List.getElem_cons_zero]
         have gy := HP2.out.at (x := Y) (o := .cells #[.slice none 0 0, .int .i64 0] 36 (0, 0)) (by simp)
         have e0 := cell_blk gy 0 _ rfl
         have e1 := cell_blk gy 1 _ rfl
         have e2 := blk_lt gy
         have e3 := frozen_blk gy 0
         have e4 := frozen_blk gy 1
         go_simp
         obtain ⟨z3, hz3⟩ : ∃ Q, Q = (z2.setCell ⟨Y, 0, none⟩ (.slice bo' m' bc')).setCell ⟨Y, 1, none⟩ (.int .i64 most) := ⟨_, rfl⟩
         rw [← hz3]
         have HP3 : Hid (PS u p' most L1 bo' m' bc' [(Y, wantO bo' m' bc' most), (T9, wantO bo m bc most), (X5, tmO k i)] z3) := Lib.hid (HP2.out.set (C' := #[.slice bo' m' bc', .int .i64 most]) HYT.out.2.2 (by simp) (by decide) (by decide) (by
          intro x hx
          simp at hx
          rcases hx with rfl | rfl
          ·
           exact fun e => HYT.out.1 e.symm
          ·
           exact fun e => HYT.out.2.1 e.symm) (by rw [hz3]; exact setCell_blk (setCell_blk gy 0 _) 1 _) (by rw [hz3]; exact ((Mod.refl (fun q => q = Y) z2).setCell ⟨Y, 0, none⟩ (.inl rfl) _).setCell ⟨Y, 1, none⟩ (.inl rfl) _))
         clear e0 e1 e2 e3 e4 hz3 gy
         refine hK.out _ _ noK ?_
         clear hK KK
         try simp only [Act.put, List.setIfInBounds_toArray, List.set_cons_zero, List.set_cons_succ]
         refine wpAnyK_ready (rs := [14]) (by kernel_rfl) (by simp) ?_
         refine AllReadyK.cons (o := pq15) rfl (fun KK hK => ?_) (AllReadyK.nil)
         try simp only [List.getElem_toArray, List.getElem_cons_succ, List.getElem_cons_zero]
         go_simp
         refine hK.out _ _ noK ?_
         clear hK KK
         try simp only [Act.put, List.setIfInBounds_toArray, List.set_cons_zero, List.set_cons_succ]
         refine wpAnyK_done (by kernel_rfl) ?_ _
         go_wp2
         go_meet
         exact ⟨p', bo', m', bc', Y, rfl, rfl, rfl, HP3.out, HYT.out.1, HYT.out.2.2⟩
     ·
      try simp only [List.getElem_toArray, List.getElem_cons_succ, List.getElem_cons_zero]
      obtain ⟨Y, hY⟩ : ∃ Q, Q = z1.heap.size := ⟨_, rfl⟩
      obtain ⟨z2, hz2⟩ : ∃ Q, Q = z1.alloc (.cells #[.slice none 0 0, .int .i64 0] 36) := ⟨_, rfl⟩
      go_simp
      have hp2 := HP1.out.add (.cells #[.slice none 0 0, .int .i64 0] 36)
      rw [← hz2, ← hY] at hp2 ⊢
      have HP2 := Lib.hid hp2
      have HYT : Hid (Y ≠ T9 ∧ Y ≠ X5 ∧ u.heap.size ≤ Y) := Lib.hid (by
       have h1 := blk_lt (HP1.out.at (x := T9) (o := wantO bo m bc most) (by simp))
       have h2 := blk_lt (HP1.out.at (x := X5) (o := tmO k i) (by simp))
       have h3 := HP1.out.bel.size
       omega)
      clear hz2 hY hp2
      refine hK.out _ _ noK ?_
      clear hK KK
      try simp only [Act.put, List.setIfInBounds_toArray, List.set_cons_zero, List.set_cons_succ]
      refine wpAnyK_ready (rs := [7]) (by kernel_rfl) (by simp) ?_
      refine AllReadyK.cons (o := pq9) rfl (fun KK hK => ?_) (AllReadyK.nil)
      try simp only [List.getElem_toArray, List.getElem_cons_succ, List.getElem_cons_zero]
      go_simp
      refine hK.out _ _ noK ?_
      clear hK KK
      try simp only [Act.put, List.setIfInBounds_toArray, List.set_cons_zero, List.set_cons_succ]
      refine wpAnyK_ready (rs := [8, 9, 10]) (by kernel_rfl) (by simp) ?_
      refine AllReadyK.cons (o := pq10) rfl (fun KK hK => ?_) (AllReadyK.cons (o := pq11) rfl (fun KK hK => ?_) (AllReadyK.cons (o := pq12) rfl (fun KK hK => ?_) (AllReadyK.nil)))
      ·
       try simp only [List.getElem_toArray, List.getElem_cons_succ, List.getElem_cons_zero]
       go_simp
       refine hK.out _ _ noK ?_
       clear hK KK
       try simp only [Act.put, List.setIfInBounds_toArray, List.set_cons_zero, List.set_cons_succ]
       refine wpAnyK_ready (rs := [9, 10, 12]) (by kernel_rfl) (by simp) ?_
       refine AllReadyK.cons (o := pq11) rfl (fun KK hK => ?_) (AllReadyK.cons (o := pq12) rfl (fun KK hK => ?_) (AllReadyK.cons (o := pq13) rfl (fun KK hK => ?_) (AllReadyK.nil)))
       ·
        try simp only [List.getElem_toArray, List.getElem_cons_succ, List.getElem_cons_zero]
        go_simp
        refine hK.out _ _ noK ?_
        clear hK KK
        try simp only [Act.put, List.setIfInBounds_toArray, List.set_cons_zero, List.set_cons_succ]
        refine wpAnyK_ready (rs := [10, 12]) (by kernel_rfl) (by simp) ?_
        refine AllReadyK.cons (o := pq12) rfl (fun KK hK => ?_) (AllReadyK.cons (o := pq13) rfl (fun KK hK => ?_) (AllReadyK.nil))
        ·
         try simp only [List.getElem_toArray, List.getElem_cons_succ, List.getElem_cons_zero]
         go_simp
         refine hK.out _ _ noK ?_
         clear hK KK
         try simp only [Act.put, List.setIfInBounds_toArray, List.set_cons_zero, List.set_cons_succ]
         refine wpAnyK_ready (rs := [12]) (by kernel_rfl) (by simp) ?_
         refine AllReadyK.cons (o := pq13) rfl (fun KK hK => ?_) (AllReadyK.nil)
         try simp only [List.getElem_toArray, List.getElem_cons_succ, List.getElem_cons_zero]
         go_simp
         refine hK.out _ _ noK ?_
         clear hK KK
         try simp only [Act.put, List.setIfInBounds_toArray, List.set_cons_zero, List.set_cons_succ]
         refine wpAnyK_ready (rs := [13]) (by kernel_rfl) (by simp) ?_
         refine AllReadyK.cons (o := pq14) rfl (fun KK hK => ?_) (AllReadyK.nil)
         try simp only [List.getElem_toArray, List.getElem_cons_succ, List.getElem_cons_zero]
         have gy := HP2.out.at (x := Y) (o := .cells #[.slice none 0 0, .int .i64 0] 36 (0, 0)) (by simp)
         have e0 := cell_blk gy 0 _ rfl
         have e1 := cell_blk gy 1 _ rfl
         have e2 := blk_lt gy
         have e3 := frozen_blk gy 0
         have e4 := frozen_blk gy 1
         go_simp
         obtain ⟨z3, hz3⟩ : ∃ Q, Q = (z2.setCell ⟨Y, 0, none⟩ (.slice bo' m' bc')).setCell ⟨Y, 1, none⟩ (.int .i64 most) := ⟨_, rfl⟩
         rw [← hz3]
         have HP3 : Hid (PS u p' most L1 bo' m' bc' [(Y, wantO bo' m' bc' most), (T9, wantO bo m bc most), (X5, tmO k i)] z3) := Lib.hid (HP2.out.set (C' := #[.slice bo' m' bc', .int .i64 most]) HYT.out.2.2 (by simp) (by decide) (by decide) (by
          intro x hx
          simp at hx
          rcases hx with rfl | rfl
          ·
           exact fun e => HYT.out.1 e.symm
          ·
           exact fun e => HYT.out.2.1 e.symm) (by rw [hz3]; exact setCell_blk (setCell_blk gy 0 _) 1 _) (by rw [hz3]; exact ((Mod.refl (fun q => q = Y) z2).setCell ⟨Y, 0, none⟩ (.inl rfl) _).setCell ⟨Y, 1, none⟩ (.inl rfl) _))
         clear e0 e1 e2 e3 e4 hz3 gy
         refine hK.out _ _ noK ?_
         clear hK KK
         try simp only [Act.put, List.setIfInBounds_toArray, List.set_cons_zero, List.set_cons_succ]
         refine wpAnyK_ready (rs := [14]) (by kernel_rfl) (by simp) ?_
         refine AllReadyK.cons (o := pq15) rfl (fun KK hK => ?_) (AllReadyK.nil)
         try simp only [List.getElem_toArray, List.getElem_cons_succ, List.getElem_cons_zero]
         go_simp
         refine hK.out _ _ noK ?_
         clear hK KK
         try simp only [Act.put, List.setIfInBounds_toArray, List.set_cons_zero, List.set_cons_succ]
         refine wpAnyK_done (by kernel_rfl) ?_ _
         go_wp2
         go_meet
         exact ⟨p', bo', m', bc', Y, rfl, rfl, rfl, HP3.out, HYT.out.1, HYT.out.2.2⟩
        ·
         try simp only [List.getElem_toArray, List.getElem_cons_succ, List.getElem_cons_zero]
         go_simp
         refine hK.out _ _ noK ?_
         clear hK KK
         try simp only [Act.put, List.setIfInBounds_toArray, List.set_cons_zero, List.set_cons_succ]
         refine wpAnyK_ready (rs := [10, 13]) (by kernel_rfl) (by simp) ?_
         refine AllReadyK.cons (o := pq12) rfl (fun KK hK => ?_) (AllReadyK.cons (o := pq14) rfl (fun KK hK => ?_) (AllReadyK.nil))
         ·
          try simp only [List.getElem_toArray, List.getElem_cons_succ, List.getElem_cons_zero]
          go_simp
          refine hK.out _ _ noK ?_
          clear hK KK
          try simp only [Act.put, List.setIfInBounds_toArray, List.set_cons_zero, List.set_cons_succ]
          refine wpAnyK_ready (rs := [13]) (by kernel_rfl) (by simp) ?_
          refine AllReadyK.cons (o := pq14) rfl (fun KK hK => ?_) (AllReadyK.nil)
          try simp only [List.getElem_toArray, List.getElem_cons_succ, List.getElem_cons_zero]
          have gy := HP2.out.at (x := Y) (o := .cells #[.slice none 0 0, .int .i64 0] 36 (0, 0)) (by simp)
          have e0 := cell_blk gy 0 _ rfl
          have e1 := cell_blk gy 1 _ rfl
          have e2 := blk_lt gy
          have e3 := frozen_blk gy 0
          have e4 := frozen_blk gy 1
          go_simp
          obtain ⟨z3, hz3⟩ : ∃ Q, Q = (z2.setCell ⟨Y, 0, none⟩ (.slice bo' m' bc')).setCell ⟨Y, 1, none⟩ (.int .i64 most) := ⟨_, rfl⟩
          rw [← hz3]
          have HP3 : Hid (PS u p' most L1 bo' m' bc' [(Y, wantO bo' m' bc' most), (T9, wantO bo m bc most), (X5, tmO k i)] z3) := Lib.hid (HP2.out.set (C' := #[.slice bo' m' bc', .int .i64 most]) HYT.out.2.2 (by simp) (by decide) (by decide) (by
           intro x hx
           simp at hx
           rcases hx with rfl | rfl
           ·
            exact fun e => HYT.out.1 e.symm
           ·
            exact fun e => HYT.out.2.1 e.symm) (by rw [hz3]; exact setCell_blk (setCell_blk gy 0 _) 1 _) (by rw [hz3]; exact ((Mod.refl (fun q => q = Y) z2).setCell ⟨Y, 0, none⟩ (.inl rfl) _).setCell ⟨Y, 1, none⟩ (.inl rfl) _))
          clear e0 e1 e2 e3 e4 hz3 gy
          refine hK.out _ _ noK ?_
          clear hK KK
          try simp only [Act.put, List.setIfInBounds_toArray, List.set_cons_zero, List.set_cons_succ]
          refine wpAnyK_ready (rs := [14]) (by kernel_rfl) (by simp) ?_
          refine AllReadyK.cons (o := pq15) rfl (fun KK hK => ?_) (AllReadyK.nil)
          try simp only [List.getElem_toArray, List.getElem_cons_succ, List.getElem_cons_zero]
          go_simp
          refine hK.out _ _ noK ?_
          clear hK KK
          try simp only [Act.put, List.setIfInBounds_toArray, List.set_cons_zero, List.set_cons_succ]
          refine wpAnyK_done (by kernel_rfl) ?_ _
          go_wp2
          go_meet
          exact ⟨p', bo', m', bc', Y, rfl, rfl, rfl, HP3.out, HYT.out.1, HYT.out.2.2⟩
         ·
          try simp only [List.getElem_toArray, List.getElem_cons_succ, List.getElem_cons_zero]
          have gy := HP2.out.at (x := Y) (o := .cells #[.slice none 0 0, .int .i64 0] 36 (0, 0)) (by simp)
          have e0 := cell_blk gy 0 _ rfl
          have e1 := cell_blk gy 1 _ rfl
          have e2 := blk_lt gy
          have e3 := frozen_blk gy 0
          have e4 := frozen_blk gy 1
          go_simp
          obtain ⟨z3, hz3⟩ : ∃ Q, Q = (z2.setCell ⟨Y, 0, none⟩ (.slice bo' m' bc')).setCell ⟨Y, 1, none⟩ (.int .i64 most) := ⟨_, rfl⟩
          rw [← hz3]
          have HP3 : Hid (PS u p' most L1 bo' m' bc' [(Y, wantO bo' m' bc' most), (T9, wantO bo m bc most), (X5, tmO k i)] z3) := Lib.hid (HP2.out.set (C' := #[.slice bo' m' bc', .int .i64 most]) HYT.out.2.2 (by simp) (by decide) (by decide) (by
           intro x hx
           simp at hx
           rcases hx with rfl | rfl
           ·
            exact fun e => HYT.out.1 e.symm
           ·
            exact fun e => HYT.out.2.1 e.symm) (by rw [hz3]; exact setCell_blk (setCell_blk gy 0 _) 1 _) (by rw [hz3]; exact ((Mod.refl (fun q => q = Y) z2).setCell ⟨Y, 0, none⟩ (.inl rfl) _).setCell ⟨Y, 1, none⟩ (.inl rfl) _))
          clear e0 e1 e2 e3 e4 hz3 gy
          refine hK.out _ _ noK ?_
          clear hK KK
          try simp only [Act.put, List.setIfInBounds_toArray, List.set_cons_zero, List.set_cons_succ]
          refine wpAnyK_ready (rs := [10]) (by kernel_rfl) (by simp) ?_
          refine AllReadyK.cons (o := pq12) rfl (fun KK hK => ?_) (AllReadyK.nil)
          try simp only [List.getElem_toArray, List.getElem_cons_succ, List.getElem_cons_zero]
          go_simp
          refine hK.out _ _ noK ?_
          clear hK KK
          try simp only [Act.put, List.setIfInBounds_toArray, List.set_cons_zero, List.set_cons_succ]
          refine wpAnyK_ready (rs := [14]) (by kernel_rfl) (by simp) ?_
          refine AllReadyK.cons (o := pq15) rfl (fun KK hK => ?_) (AllReadyK.nil)
          try simp only [List.getElem_toArray, List.getElem_cons_succ, List.getElem_cons_zero]
          go_simp
          refine hK.out _ _ noK ?_
          clear hK KK
          try simp only [Act.put, List.setIfInBounds_toArray, List.set_cons_zero, List.set_cons_succ]
          refine wpAnyK_done (by kernel_rfl) ?_ _
          go_wp2
          go_meet
          exact ⟨p', bo', m', bc', Y, rfl, rfl, rfl, HP3.out, HYT.out.1, HYT.out.2.2⟩
       ·
        try simp only [List.getElem_toArray, List.getElem_cons_succ, List.getElem_cons_zero]
        go_simp
        refine hK.out _ _ noK ?_
        clear hK KK
        try simp only [Act.put, List.setIfInBounds_toArray, List.set_cons_zero, List.set_cons_succ]
        refine wpAnyK_ready (rs := [9, 12]) (by kernel_rfl) (by simp) ?_
        refine AllReadyK.cons (o := pq11) rfl (fun KK hK => ?_) (AllReadyK.cons (o := pq13) rfl (fun KK hK => ?_) (AllReadyK.nil))
        ·
         try simp only [List.getElem_toArray, List.getElem_cons_succ, List.getElem_cons_zero]
         go_simp
         refine hK.out _ _ noK ?_
         clear hK KK
         try simp only [Act.put, List.setIfInBounds_toArray, List.set_cons_zero, List.set_cons_succ]
         refine wpAnyK_ready (rs := [12]) (by kernel_rfl) (by simp) ?_
         refine AllReadyK.cons (o := pq13) rfl (fun KK hK => ?_) (AllReadyK.nil)
         try simp only [List.getElem_toArray, List.getElem_cons_succ, List.getElem_cons_zero]
         go_simp
         refine hK.out _ _ noK ?_
         clear hK KK
         try simp only [Act.put, List.setIfInBounds_toArray, List.set_cons_zero, List.set_cons_succ]
         refine wpAnyK_ready (rs := [13]) (by kernel_rfl) (by simp) ?_
         refine AllReadyK.cons (o := pq14) rfl (fun KK hK => ?_) (AllReadyK.nil)
         try simp only [List.getElem_toArray, List.getElem_cons_succ, List.getElem_cons_zero]
         have gy := HP2.out.at (x := Y) (o := .cells #[.slice none 0 0, .int .i64 0] 36 (0, 0)) (by simp)
         have e0 := cell_blk gy 0 _ rfl
         have e1 := cell_blk gy 1 _ rfl
         have e2 := blk_lt gy
         have e3 := frozen_blk gy 0
         have e4 := frozen_blk gy 1
         go_simp
         obtain ⟨z3, hz3⟩ : ∃ Q, Q = (z2.setCell ⟨Y, 0, none⟩ (.slice bo' m' bc')).setCell ⟨Y, 1, none⟩ (.int .i64 most) := ⟨_, rfl⟩
         rw [← hz3]
         have HP3 : Hid (PS u p' most L1 bo' m' bc' [(Y, wantO bo' m' bc' most), (T9, wantO bo m bc most), (X5, tmO k i)] z3) := Lib.hid (HP2.out.set (C' := #[.slice bo' m' bc', .int .i64 most]) HYT.out.2.2 (by simp) (by decide) (by decide) (by
          intro x hx
          simp at hx
          rcases hx with rfl | rfl
          ·
           exact fun e => HYT.out.1 e.symm
          ·
           exact fun e => HYT.out.2.1 e.symm) (by rw [hz3]; exact setCell_blk (setCell_blk gy 0 _) 1 _) (by rw [hz3]; exact ((Mod.refl (fun q => q = Y) z2).setCell ⟨Y, 0, none⟩ (.inl rfl) _).setCell ⟨Y, 1, none⟩ (.inl rfl) _))
         clear e0 e1 e2 e3 e4 hz3 gy
         refine hK.out _ _ noK ?_
         clear hK KK
         try simp only [Act.put, List.setIfInBounds_toArray, List.set_cons_zero, List.set_cons_succ]
         refine wpAnyK_ready (rs := [14]) (by kernel_rfl) (by simp) ?_
         refine AllReadyK.cons (o := pq15) rfl (fun KK hK => ?_) (AllReadyK.nil)
         try simp only [List.getElem_toArray, List.getElem_cons_succ, List.getElem_cons_zero]
         go_simp
         refine hK.out _ _ noK ?_
         clear hK KK
         try simp only [Act.put, List.setIfInBounds_toArray, List.set_cons_zero, List.set_cons_succ]
         refine wpAnyK_done (by kernel_rfl) ?_ _
         go_wp2
         go_meet
         exact ⟨p', bo', m', bc', Y, rfl, rfl, rfl, HP3.out, HYT.out.1, HYT.out.2.2⟩
        ·
         try simp only [List.getElem_toArray, List.getElem_cons_succ, List.getElem_cons_zero]
         go_simp
         refine hK.out _ _ noK ?_
         clear hK KK
         try simp only [Act.put, List.setIfInBounds_toArray, List.set_cons_zero, List.set_cons_succ]
         refine wpAnyK_ready (rs := [9]) (by kernel_rfl) (by simp) ?_
         refine AllReadyK.cons (o := pq11) rfl (fun KK hK => ?_) (AllReadyK.nil)
         try simp only [List.getElem_toArray, List.getElem_cons_succ, List.getElem_cons_zero]
         go_simp
         refine hK.out _ _ noK ?_
         clear hK KK
         try simp only [Act.put, List.setIfInBounds_toArray, List.set_cons_zero, List.set_cons_succ]
         refine wpAnyK_ready (rs := [13]) (by kernel_rfl) (by simp) ?_
         refine AllReadyK.cons (o := pq14) rfl (fun KK hK => ?_) (AllReadyK.nil)
         try simp only [List.getElem_toArray, List.getElem_cons_succ, List.getElem_cons_zero]
         have gy := HP2.out.at (x := Y) (o := .cells #[.slice none 0 0, .int .i64 0] 36 (0, 0)) (by simp)
         have e0 := cell_blk gy 0 _ rfl
         have e1 := cell_blk gy 1 _ rfl
         have e2 := blk_lt gy
         have e3 := frozen_blk gy 0
         have e4 := frozen_blk gy 1
         go_simp
         obtain ⟨z3, hz3⟩ : ∃ Q, Q = (z2.setCell ⟨Y, 0, none⟩ (.slice bo' m' bc')).setCell ⟨Y, 1, none⟩ (.int .i64 most) := ⟨_, rfl⟩
         rw [← hz3]
         have HP3 : Hid (PS u p' most L1 bo' m' bc' [(Y, wantO bo' m' bc' most), (T9, wantO bo m bc most), (X5, tmO k i)] z3) := Lib.hid (HP2.out.set (C' := #[.slice bo' m' bc', .int .i64 most]) HYT.out.2.2 (by simp) (by decide) (by decide) (by
          intro x hx
          simp at hx
          rcases hx with rfl | rfl
          ·
           exact fun e => HYT.out.1 e.symm
          ·
           exact fun e => HYT.out.2.1 e.symm) (by rw [hz3]; exact setCell_blk (setCell_blk gy 0 _) 1 _) (by rw [hz3]; exact ((Mod.refl (fun q => q = Y) z2).setCell ⟨Y, 0, none⟩ (.inl rfl) _).setCell ⟨Y, 1, none⟩ (.inl rfl) _))
         clear e0 e1 e2 e3 e4 hz3 gy
         refine hK.out _ _ noK ?_
         clear hK KK
         try simp only [Act.put, List.setIfInBounds_toArray, List.set_cons_zero, List.set_cons_succ]
         refine wpAnyK_ready (rs := [14]) (by kernel_rfl) (by simp) ?_
         refine AllReadyK.cons (o := pq15) rfl (fun KK hK => ?_) (AllReadyK.nil)
         try simp only [List.getElem_toArray, List.getElem_cons_succ, List.getElem_cons_zero]
         go_simp
         refine hK.out _ _ noK ?_
         clear hK KK
         try simp only [Act.put, List.setIfInBounds_toArray, List.set_cons_zero, List.set_cons_succ]
         refine wpAnyK_done (by kernel_rfl) ?_ _
         go_wp2
         go_meet
         exact ⟨p', bo', m', bc', Y, rfl, rfl, rfl, HP3.out, HYT.out.1, HYT.out.2.2⟩
       ·
        try simp only [List.getElem_toArray, List.getElem_cons_succ, List.getElem_cons_zero]
        go_simp
        refine hK.out _ _ noK ?_
        clear hK KK
        try simp only [Act.put, List.setIfInBounds_toArray, List.set_cons_zero, List.set_cons_succ]
        refine wpAnyK_ready (rs := [9, 10]) (by kernel_rfl) (by simp) ?_
        refine AllReadyK.cons (o := pq11) rfl (fun KK hK => ?_) (AllReadyK.cons (o := pq12) rfl (fun KK hK => ?_) (AllReadyK.nil))
        ·
         try simp only [List.getElem_toArray, List.getElem_cons_succ, List.getElem_cons_zero]
         go_simp
         refine hK.out _ _ noK ?_
         clear hK KK
         try simp only [Act.put, List.setIfInBounds_toArray, List.set_cons_zero, List.set_cons_succ]
         refine wpAnyK_ready (rs := [10, 13]) (by kernel_rfl) (by simp) ?_
         refine AllReadyK.cons (o := pq12) rfl (fun KK hK => ?_) (AllReadyK.cons (o := pq14) rfl (fun KK hK => ?_) (AllReadyK.nil))
         ·
          try simp only [List.getElem_toArray, List.getElem_cons_succ, List.getElem_cons_zero]
          go_simp
          refine hK.out _ _ noK ?_
          clear hK KK
          try simp only [Act.put, List.setIfInBounds_toArray, List.set_cons_zero, List.set_cons_succ]
          refine wpAnyK_ready (rs := [13]) (by kernel_rfl) (by simp) ?_
          refine AllReadyK.cons (o := pq14) rfl (fun KK hK => ?_) (AllReadyK.nil)
          try simp only [List.getElem_toArray, List.getElem_cons_succ, List.getElem_cons_zero]
          have gy := HP2.out.at (x := Y) (o := .cells #[.slice none 0 0, .int .i64 0] 36 (0, 0)) (by simp)
          have e0 := cell_blk gy 0 _ rfl
          have e1 := cell_blk gy 1 _ rfl
          have e2 := blk_lt gy
          have e3 := frozen_blk gy 0
          have e4 := frozen_blk gy 1
          go_simp
          obtain ⟨z3, hz3⟩ : ∃ Q, Q = (z2.setCell ⟨Y, 0, none⟩ (.slice bo' m' bc')).setCell ⟨Y, 1, none⟩ (.int .i64 most) := ⟨_, rfl⟩
          rw [← hz3]
          have HP3 : Hid (PS u p' most L1 bo' m' bc' [(Y, wantO bo' m' bc' most), (T9, wantO bo m bc most), (X5, tmO k i)] z3) := Lib.hid (HP2.out.set (C' := #[.slice bo' m' bc', .int .i64 most]) HYT.out.2.2 (by simp) (by decide) (by decide) (by
           intro x hx
           simp at hx
           rcases hx with rfl | rfl
           ·
            exact fun e => HYT.out.1 e.symm
           ·
            exact fun e => HYT.out.2.1 e.symm) (by rw [hz3]; exact setCell_blk (setCell_blk gy 0 _) 1 _) (by rw [hz3]; exact ((Mod.refl (fun q => q = Y) z2).setCell ⟨Y, 0, none⟩ (.inl rfl) _).setCell ⟨Y, 1, none⟩ (.inl rfl) _))
          clear e0 e1 e2 e3 e4 hz3 gy
          refine hK.out _ _ noK ?_
          clear hK KK
          try simp only [Act.put, List.setIfInBounds_toArray, List.set_cons_zero, List.set_cons_succ]
          refine wpAnyK_ready (rs := [14]) (by kernel_rfl) (by simp) ?_
          refine AllReadyK.cons (o := pq15) rfl (fun KK hK => ?_) (AllReadyK.nil)
          try simp only [List.getElem_toArray, List.getElem_cons_succ, List.getElem_cons_zero]
          go_simp
          refine hK.out _ _ noK ?_
          clear hK KK
          try simp only [Act.put, List.setIfInBounds_toArray, List.set_cons_zero, List.set_cons_succ]
          refine wpAnyK_done (by kernel_rfl) ?_ _
          go_wp2
          go_meet
          exact ⟨p', bo', m', bc', Y, rfl, rfl, rfl, HP3.out, HYT.out.1, HYT.out.2.2⟩
         ·
          try simp only [List.getElem_toArray, List.getElem_cons_succ, List.getElem_cons_zero]
          have gy := HP2.out.at (x := Y) (o := .cells #[.slice none 0 0, .int .i64 0] 36 (0, 0)) (by simp)
          have e0 := cell_blk gy 0 _ rfl
          have e1 := cell_blk gy 1 _ rfl
          have e2 := blk_lt gy
          have e3 := frozen_blk gy 0
          have e4 := frozen_blk gy 1
          go_simp
          obtain ⟨z3, hz3⟩ : ∃ Q, Q = (z2.setCell ⟨Y, 0, none⟩ (.slice bo' m' bc')).setCell ⟨Y, 1, none⟩ (.int .i64 most) := ⟨_, rfl⟩
          rw [← hz3]
          have HP3 : Hid (PS u p' most L1 bo' m' bc' [(Y, wantO bo' m' bc' most), (T9, wantO bo m bc most), (X5, tmO k i)] z3) := Lib.hid (HP2.out.set (C' := #[.slice bo' m' bc', .int .i64 most]) HYT.out.2.2 (by simp) (by decide) (by decide) (by
           intro x hx
           simp at hx
           rcases hx with rfl | rfl
           ·
            exact fun e => HYT.out.1 e.symm
           ·
            exact fun e => HYT.out.2.1 e.symm) (by rw [hz3]; exact setCell_blk (setCell_blk gy 0 _) 1 _) (by rw [hz3]; exact ((Mod.refl (fun q => q = Y) z2).setCell ⟨Y, 0, none⟩ (.inl rfl) _).setCell ⟨Y, 1, none⟩ (.inl rfl) _))
          clear e0 e1 e2 e3 e4 hz3 gy
          refine hK.out _ _ noK ?_
          clear hK KK
          try simp only [Act.put, List.setIfInBounds_toArray, List.set_cons_zero, List.set_cons_succ]
          refine wpAnyK_ready (rs := [10]) (by kernel_rfl) (by simp) ?_
          refine AllReadyK.cons (o := pq12) rfl (fun KK hK => ?_) (AllReadyK.nil)
          try simp only [List.getElem_toArray, List.getElem_cons_succ, List.getElem_cons_zero]
          go_simp
          refine hK.out _ _ noK ?_
          clear hK KK
          try simp only [Act.put, List.setIfInBounds_toArray, List.set_cons_zero, List.set_cons_succ]
          refine wpAnyK_ready (rs := [14]) (by kernel_rfl) (by simp) ?_
          refine AllReadyK.cons (o := pq15) rfl (fun KK hK => ?_) (AllReadyK.nil)
          try simp only [List.getElem_toArray, List.getElem_cons_succ, List.getElem_cons_zero]
          go_simp
          refine hK.out _ _ noK ?_
          clear hK KK
          try simp only [Act.put, List.setIfInBounds_toArray, List.set_cons_zero, List.set_cons_succ]
          refine wpAnyK_done (by kernel_rfl) ?_ _
          go_wp2
          go_meet
          exact ⟨p', bo', m', bc', Y, rfl, rfl, rfl, HP3.out, HYT.out.1, HYT.out.2.2⟩
        ·
         try simp only [List.getElem_toArray, List.getElem_cons_succ, List.getElem_cons_zero]
         go_simp
         refine hK.out _ _ noK ?_
         clear hK KK
         try simp only [Act.put, List.setIfInBounds_toArray, List.set_cons_zero, List.set_cons_succ]
         refine wpAnyK_ready (rs := [9]) (by kernel_rfl) (by simp) ?_
         refine AllReadyK.cons (o := pq11) rfl (fun KK hK => ?_) (AllReadyK.nil)
         try simp only [List.getElem_toArray, List.getElem_cons_succ, List.getElem_cons_zero]
         go_simp
         refine hK.out _ _ noK ?_
         clear hK KK
         try simp only [Act.put, List.setIfInBounds_toArray, List.set_cons_zero, List.set_cons_succ]
         refine wpAnyK_ready (rs := [13]) (by kernel_rfl) (by simp) ?_
         refine AllReadyK.cons (o := pq14) rfl (fun KK hK => ?_) (AllReadyK.nil)
         try simp only [List.getElem_toArray, List.getElem_cons_succ, List.getElem_cons_zero]
         have gy := HP2.out.at (x := Y) (o := .cells #[.slice none 0 0, .int .i64 0] 36 (0, 0)) (by simp)
         have e0 := cell_blk gy 0 _ rfl
         have e1 := cell_blk gy 1 _ rfl
         have e2 := blk_lt gy
         have e3 := frozen_blk gy 0
         have e4 := frozen_blk gy 1
         go_simp
         obtain ⟨z3, hz3⟩ : ∃ Q, Q = (z2.setCell ⟨Y, 0, none⟩ (.slice bo' m' bc')).setCell ⟨Y, 1, none⟩ (.int .i64 most) := ⟨_, rfl⟩
         rw [← hz3]
         have HP3 : Hid (PS u p' most L1 bo' m' bc' [(Y, wantO bo' m' bc' most), (T9, wantO bo m bc most), (X5, tmO k i)] z3) := Lib.hid (HP2.out.set (C' := #[.slice bo' m' bc', .int .i64 most]) HYT.out.2.2 (by simp) (by decide) (by decide) (by
          intro x hx
          simp at hx
          rcases hx with rfl | rfl
          ·
           exact fun e => HYT.out.1 e.symm
          ·
           exact fun e => HYT.out.2.1 e.symm) (by rw [hz3]; exact setCell_blk (setCell_blk gy 0 _) 1 _) (by rw [hz3]; exact ((Mod.refl (fun q => q = Y) z2).setCell ⟨Y, 0, none⟩ (.inl rfl) _).setCell ⟨Y, 1, none⟩ (.inl rfl) _))
         clear e0 e1 e2 e3 e4 hz3 gy
         refine hK.out _ _ noK ?_
         clear hK KK
         try simp only [Act.put, List.setIfInBounds_toArray, List.set_cons_zero, List.set_cons_succ]
         refine wpAnyK_ready (rs := [14]) (by kernel_rfl) (by simp) ?_
         refine AllReadyK.cons (o := pq15) rfl (fun KK hK => ?_) (AllReadyK.nil)
         try simp only [List.getElem_toArray, List.getElem_cons_succ, List.getElem_cons_zero]
         go_simp
         refine hK.out _ _ noK ?_
         clear hK KK
         try simp only [Act.put, List.setIfInBounds_toArray, List.set_cons_zero, List.set_cons_succ]
         refine wpAnyK_done (by kernel_rfl) ?_ _
         go_wp2
         go_meet
         exact ⟨p', bo', m', bc', Y, rfl, rfl, rfl, HP3.out, HYT.out.1, HYT.out.2.2⟩
      ·
       try simp only [List.getElem_toArray, List.getElem_cons_succ, List.getElem_cons_zero]
       go_simp
       refine hK.out _ _ noK ?_
       clear hK KK
       try simp only [Act.put, List.setIfInBounds_toArray, List.set_cons_zero, List.set_cons_succ]
       refine wpAnyK_ready (rs := [8, 10]) (by kernel_rfl) (by simp) ?_
       refine AllReadyK.cons (o := pq10) rfl (fun KK hK => ?_) (AllReadyK.cons (o := pq12) rfl (fun KK hK => ?_) (AllReadyK.nil))
       ·
        try simp only [List.getElem_toArray, List.getElem_cons_succ, List.getElem_cons_zero]
        go_simp
        refine hK.out _ _ noK ?_
        clear hK KK
        try simp only [Act.put, List.setIfInBounds_toArray, List.set_cons_zero, List.set_cons_succ]
        refine wpAnyK_ready (rs := [10, 12]) (by kernel_rfl) (by simp) ?_
        refine AllReadyK.cons (o := pq12) rfl (fun KK hK => ?_) (AllReadyK.cons (o := pq13) rfl (fun KK hK => ?_) (AllReadyK.nil))
        ·
         try simp only [List.getElem_toArray, List.getElem_cons_succ, List.getElem_cons_zero]
         go_simp
         refine hK.out _ _ noK ?_
         clear hK KK
         try simp only [Act.put, List.setIfInBounds_toArray, List.set_cons_zero, List.set_cons_succ]
         refine wpAnyK_ready (rs := [12]) (by kernel_rfl) (by simp) ?_
         refine AllReadyK.cons (o := pq13) rfl (fun KK hK => ?_) (AllReadyK.nil)
         try simp only [List.getElem_toArray, List.getElem_cons_succ, List.getElem_cons_zero]
         go_simp
         refine hK.out _ _ noK ?_
         clear hK KK
         try simp only [Act.put, List.setIfInBounds_toArray, List.set_cons_zero, List.set_cons_succ]
         refine wpAnyK_ready (rs := [13]) (by kernel_rfl) (by simp) ?_
         refine AllReadyK.cons (o := pq14) rfl (fun KK hK => ?_) (AllReadyK.nil)
         try simp only [List.getElem_toArray, List.getElem_cons_succ, List.getElem_cons_zero]
         have gy := HP2.out.at (x := Y) (o := .cells #[.slice none 0 0, .int .i64 0] 36 (0, 0)) (by simp)
         have e0 := cell_blk gy 0 _ rfl
         have e1 := cell_blk gy 1 _ rfl
         have e2 := blk_lt gy
         have e3 := frozen_blk gy 0
         have e4 := frozen_blk gy 1
         go_simp
         obtain ⟨z3, hz3⟩ : ∃ Q, Q = (z2.setCell ⟨Y, 0, none⟩ (.slice bo' m' bc')).setCell ⟨Y, 1, none⟩ (.int .i64 most) := ⟨_, rfl⟩
         rw [← hz3]
         have HP3 : Hid (PS u p' most L1 bo' m' bc' [(Y, wantO bo' m' bc' most), (T9, wantO bo m bc most), (X5, tmO k i)] z3) := Lib.hid (HP2.out.set (C' := #[.slice bo' m' bc', .int .i64 most]) HYT.out.2.2 (by simp) (by decide) (by decide) (by
          intro x hx
          simp at hx
          rcases hx with rfl | rfl
          ·
           exact fun e => HYT.out.1 e.symm
          ·
           exact fun e => HYT.out.2.1 e.symm) (by rw [hz3]; exact setCell_blk (setCell_blk gy 0 _) 1 _) (by rw [hz3]; exact ((Mod.refl (fun q => q = Y) z2).setCell ⟨Y, 0, none⟩ (.inl rfl) _).setCell ⟨Y, 1, none⟩ (.inl rfl) _))
         clear e0 e1 e2 e3 e4 hz3 gy
         refine hK.out _ _ noK ?_
         clear hK KK
         try simp only [Act.put, List.setIfInBounds_toArray, List.set_cons_zero, List.set_cons_succ]
         refine wpAnyK_ready (rs := [14]) (by kernel_rfl) (by simp) ?_
         refine AllReadyK.cons (o := pq15) rfl (fun KK hK => ?_) (AllReadyK.nil)
         try simp only [List.getElem_toArray, List.getElem_cons_succ, List.getElem_cons_zero]
         go_simp
         refine hK.out _ _ noK ?_
         clear hK KK
         try simp only [Act.put, List.setIfInBounds_toArray, List.set_cons_zero, List.set_cons_succ]
         refine wpAnyK_done (by kernel_rfl) ?_ _
         go_wp2
         go_meet
         exact ⟨p', bo', m', bc', Y, rfl, rfl, rfl, HP3.out, HYT.out.1, HYT.out.2.2⟩
        ·
         try simp only [List.getElem_toArray, List.getElem_cons_succ, List.getElem_cons_zero]
         go_simp
         refine hK.out _ _ noK ?_
         clear hK KK
         try simp only [Act.put, List.setIfInBounds_toArray, List.set_cons_zero, List.set_cons_succ]
         refine wpAnyK_ready (rs := [10, 13]) (by kernel_rfl) (by simp) ?_
         refine AllReadyK.cons (o := pq12) rfl (fun KK hK => ?_) (AllReadyK.cons (o := pq14) rfl (fun KK hK => ?_) (AllReadyK.nil))
         ·
          try simp only [List.getElem_toArray, List.getElem_cons_succ, List.getElem_cons_zero]
          go_simp
          refine hK.out _ _ noK ?_
          clear hK KK
          try simp only [Act.put, List.setIfInBounds_toArray, List.set_cons_zero, List.set_cons_succ]
          refine wpAnyK_ready (rs := [13]) (by kernel_rfl) (by simp) ?_
          refine AllReadyK.cons (o := pq14) rfl (fun KK hK => ?_) (AllReadyK.nil)
          try simp only [List.getElem_toArray, List.getElem_cons_succ, List.getElem_cons_zero]
          have gy := HP2.out.at (x := Y) (o := .cells #[.slice none 0 0, .int .i64 0] 36 (0, 0)) (by simp)
          have e0 := cell_blk gy 0 _ rfl
          have e1 := cell_blk gy 1 _ rfl
          have e2 := blk_lt gy
          have e3 := frozen_blk gy 0
          have e4 := frozen_blk gy 1
          go_simp
          obtain ⟨z3, hz3⟩ : ∃ Q, Q = (z2.setCell ⟨Y, 0, none⟩ (.slice bo' m' bc')).setCell ⟨Y, 1, none⟩ (.int .i64 most) := ⟨_, rfl⟩
          rw [← hz3]
          have HP3 : Hid (PS u p' most L1 bo' m' bc' [(Y, wantO bo' m' bc' most), (T9, wantO bo m bc most), (X5, tmO k i)] z3) := Lib.hid (HP2.out.set (C' := #[.slice bo' m' bc', .int .i64 most]) HYT.out.2.2 (by simp) (by decide) (by decide) (by
           intro x hx
           simp at hx
           rcases hx with rfl | rfl
           ·
            exact fun e => HYT.out.1 e.symm
           ·
            exact fun e => HYT.out.2.1 e.symm) (by rw [hz3]; exact setCell_blk (setCell_blk gy 0 _) 1 _) (by rw [hz3]; exact ((Mod.refl (fun q => q = Y) z2).setCell ⟨Y, 0, none⟩ (.inl rfl) _).setCell ⟨Y, 1, none⟩ (.inl rfl) _))
          clear e0 e1 e2 e3 e4 hz3 gy
          refine hK.out _ _ noK ?_
          clear hK KK
          try simp only [Act.put, List.setIfInBounds_toArray, List.set_cons_zero, List.set_cons_succ]
          refine wpAnyK_ready (rs := [14]) (by kernel_rfl) (by simp) ?_
          refine AllReadyK.cons (o := pq15) rfl (fun KK hK => ?_) (AllReadyK.nil)
          try simp only [List.getElem_toArray, List.getElem_cons_succ, List.getElem_cons_zero]
          go_simp
          refine hK.out _ _ noK ?_
          clear hK KK
          try simp only [Act.put, List.setIfInBounds_toArray, List.set_cons_zero, List.set_cons_succ]
          refine wpAnyK_done (by kernel_rfl) ?_ _
          go_wp2
          go_meet
          exact ⟨p', bo', m', bc', Y, rfl, rfl, rfl, HP3.out, HYT.out.1, HYT.out.2.2⟩
         ·
          try simp only [List.getElem_toArray, List.getElem_cons_succ, List.getElem_cons_zero]
          have gy := HP2.out.at (x := Y) (o := .cells #[.slice none 0 0, .int .i64 0] 36 (0, 0)) (by simp)
          have e0 := cell_blk gy 0 _ rfl
          have e1 := cell_blk gy 1 _ rfl
          have e2 := blk_lt gy
          have e3 := frozen_blk gy 0
          have e4 := frozen_blk gy 1
          go_simp
          obtain ⟨z3, hz3⟩ : ∃ Q, Q = (z2.setCell ⟨Y, 0, none⟩ (.slice bo' m' bc')).setCell ⟨Y, 1, none⟩ (.int .i64 most) := ⟨_, rfl⟩
          rw [← hz3]
          have HP3 : Hid (PS u p' most L1 bo' m' bc' [(Y, wantO bo' m' bc' most), (T9, wantO bo m bc most), (X5, tmO k i)] z3) := Lib.hid (HP2.out.set (C' := #[.slice bo' m' bc', .int .i64 most]) HYT.out.2.2 (by simp) (by decide) (by decide) (by
           intro x hx
           simp at hx
           rcases hx with rfl | rfl
           ·
            exact fun e => HYT.out.1 e.symm
           ·
            exact fun e => HYT.out.2.1 e.symm) (by rw [hz3]; exact setCell_blk (setCell_blk gy 0 _) 1 _) (by rw [hz3]; exact ((Mod.refl (fun q => q = Y) z2).setCell ⟨Y, 0, none⟩ (.inl rfl) _).setCell ⟨Y, 1, none⟩ (.inl rfl) _))
          clear e0 e1 e2 e3 e4 hz3 gy
          refine hK.out _ _ noK ?_
          clear hK KK
          try simp only [Act.put, List.setIfInBounds_toArray, List.set_cons_zero, List.set_cons_succ]
          refine wpAnyK_ready (rs := [10]) (by kernel_rfl) (by simp) ?_
          refine AllReadyK.cons (o := pq12) rfl (fun KK hK => ?_) (AllReadyK.nil)
          try simp only [List.getElem_toArray, List.getElem_cons_succ, List.getElem_cons_zero]
          go_simp
          refine hK.out _ _ noK ?_
          clear hK KK
          try simp only [Act.put, List.setIfInBounds_toArray, List.set_cons_zero, List.set_cons_succ]
          refine wpAnyK_ready (rs := [14]) (by kernel_rfl) (by simp) ?_
          refine AllReadyK.cons (o := pq15) rfl (fun KK hK => ?_) (AllReadyK.nil)
          try simp only [List.getElem_toArray, List.getElem_cons_succ, List.getElem_cons_zero]
          go_simp
          refine hK.out _ _ noK ?_
          clear hK KK
          try simp only [Act.put, List.setIfInBounds_toArray, List.set_cons_zero, List.set_cons_succ]
          refine wpAnyK_done (by kernel_rfl) ?_ _
          go_wp2
          go_meet
          exact ⟨p', bo', m', bc', Y, rfl, rfl, rfl, HP3.out, HYT.out.1, HYT.out.2.2⟩
       ·
        try simp only [List.getElem_toArray, List.getElem_cons_succ, List.getElem_cons_zero]
        go_simp
        refine hK.out _ _ noK ?_
        clear hK KK
        try simp only [Act.put, List.setIfInBounds_toArray, List.set_cons_zero, List.set_cons_succ]
        refine wpAnyK_ready (rs := [8]) (by kernel_rfl) (by simp) ?_
        refine AllReadyK.cons (o := pq10) rfl (fun KK hK => ?_) (AllReadyK.nil)
        try simp only [List.getElem_toArray, List.getElem_cons_succ, List.getElem_cons_zero]
        go_simp
        refine hK.out _ _ noK ?_
        clear hK KK
        try simp only [Act.put, List.setIfInBounds_toArray, List.set_cons_zero, List.set_cons_succ]
        refine wpAnyK_ready (rs := [12]) (by kernel_rfl) (by simp) ?_
        refine AllReadyK.cons (o := pq13) rfl (fun KK hK => ?_) (AllReadyK.nil)
        try simp only [List.getElem_toArray, List.getElem_cons_succ, List.getElem_cons_zero]
        go_simp
        refine hK.out _ _ noK ?_
        clear hK KK
        try simp only [Act.put, List.setIfInBounds_toArray, List.set_cons_zero, List.set_cons_succ]
        refine wpAnyK_ready (rs := [13]) (by kernel_rfl) (by simp) ?_
        refine AllReadyK.cons (o := pq14) rfl (fun KK hK => ?_) (AllReadyK.nil)
        try simp only [List.getElem_toArray, List.getElem_cons_succ, List.getElem_cons_zero]
        have gy := HP2.out.at (x := Y) (o := .cells #[.slice none 0 0, .int .i64 0] 36 (0, 0)) (by simp)
        have e0 := cell_blk gy 0 _ rfl
        have e1 := cell_blk gy 1 _ rfl
        have e2 := blk_lt gy
        have e3 := frozen_blk gy 0
        have e4 := frozen_blk gy 1
        go_simp
        obtain ⟨z3, hz3⟩ : ∃ Q, Q = (z2.setCell ⟨Y, 0, none⟩ (.slice bo' m' bc')).setCell ⟨Y, 1, none⟩ (.int .i64 most) := ⟨_, rfl⟩
        rw [← hz3]
        have HP3 : Hid (PS u p' most L1 bo' m' bc' [(Y, wantO bo' m' bc' most), (T9, wantO bo m bc most), (X5, tmO k i)] z3) := Lib.hid (HP2.out.set (C' := #[.slice bo' m' bc', .int .i64 most]) HYT.out.2.2 (by simp) (by decide) (by decide) (by
         intro x hx
         simp at hx
         rcases hx with rfl | rfl
         ·
          exact fun e => HYT.out.1 e.symm
         ·
          exact fun e => HYT.out.2.1 e.symm) (by rw [hz3]; exact setCell_blk (setCell_blk gy 0 _) 1 _) (by rw [hz3]; exact ((Mod.refl (fun q => q = Y) z2).setCell ⟨Y, 0, none⟩ (.inl rfl) _).setCell ⟨Y, 1, none⟩ (.inl rfl) _))
        clear e0 e1 e2 e3 e4 hz3 gy
        refine hK.out _ _ noK ?_
        clear hK KK
        try simp only [Act.put, List.setIfInBounds_toArray, List.set_cons_zero, List.set_cons_succ]
        refine wpAnyK_ready (rs := [14]) (by kernel_rfl) (by simp) ?_
        refine AllReadyK.cons (o := pq15) rfl (fun KK hK => ?_) (AllReadyK.nil)
        try simp only [List.getElem_toArray, List.getElem_cons_succ, List.getElem_cons_zero]
        go_simp
        refine hK.out _ _ noK ?_
        clear hK KK
        try simp only [Act.put, List.setIfInBounds_toArray, List.set_cons_zero, List.set_cons_succ]
        refine wpAnyK_done (by kernel_rfl) ?_ _
        go_wp2
        go_meet
        exact ⟨p', bo', m', bc', Y, rfl, rfl, rfl, HP3.out, HYT.out.1, HYT.out.2.2⟩
      ·
       try simp only [List.getElem_toArray, List.getElem_cons_succ, List.getElem_cons_zero]
       go_simp
       refine hK.out _ _ noK ?_
       clear hK KK
       try simp only [Act.put, List.setIfInBounds_toArray, List.set_cons_zero, List.set_cons_succ]
       refine wpAnyK_ready (rs := [8, 9]) (by kernel_rfl) (by simp) ?_
       refine AllReadyK.cons (o := pq10) rfl (fun KK hK => ?_) (AllReadyK.cons (o := pq11) rfl (fun KK hK => ?_) (AllReadyK.nil))
       ·
        try simp only [List.getElem_toArray, List.getElem_cons_succ, List.getElem_cons_zero]
        go_simp
        refine hK.out _ _ noK ?_
        clear hK KK
        try simp only [Act.put, List.setIfInBounds_toArray, List.set_cons_zero, List.set_cons_succ]
        refine wpAnyK_ready (rs := [9, 12]) (by kernel_rfl) (by simp) ?_
        refine AllReadyK.cons (o := pq11) rfl (fun KK hK => ?_) (AllReadyK.cons (o := pq13) rfl (fun KK hK => ?_) (AllReadyK.nil))
        ·
         try simp only [List.getElem_toArray, List.getElem_cons_succ, List.getElem_cons_zero]
         go_simp
         refine hK.out _ _ noK ?_
         clear hK KK
         try simp only [Act.put, List.setIfInBounds_toArray, List.set_cons_zero, List.set_cons_succ]
         refine wpAnyK_ready (rs := [12]) (by kernel_rfl) (by simp) ?_
         refine AllReadyK.cons (o := pq13) rfl (fun KK hK => ?_) (AllReadyK.nil)
         try simp only [List.getElem_toArray, List.getElem_cons_succ, List.getElem_cons_zero]
         go_simp
         refine hK.out _ _ noK ?_
         clear hK KK
         try simp only [Act.put, List.setIfInBounds_toArray, List.set_cons_zero, List.set_cons_succ]
         refine wpAnyK_ready (rs := [13]) (by kernel_rfl) (by simp) ?_
         refine AllReadyK.cons (o := pq14) rfl (fun KK hK => ?_) (AllReadyK.nil)
         try simp only [List.getElem_toArray, List.getElem_cons_succ, List.getElem_cons_zero]
         have gy := HP2.out.at (x := Y) (o := .cells #[.slice none 0 0, .int .i64 0] 36 (0, 0)) (by simp)
         have e0 := cell_blk gy 0 _ rfl
         have e1 := cell_blk gy 1 _ rfl
         have e2 := blk_lt gy
         have e3 := frozen_blk gy 0
         have e4 := frozen_blk gy 1
         go_simp
         obtain ⟨z3, hz3⟩ : ∃ Q, Q = (z2.setCell ⟨Y, 0, none⟩ (.slice bo' m' bc')).setCell ⟨Y, 1, none⟩ (.int .i64 most) := ⟨_, rfl⟩
         rw [← hz3]
         have HP3 : Hid (PS u p' most L1 bo' m' bc' [(Y, wantO bo' m' bc' most), (T9, wantO bo m bc most), (X5, tmO k i)] z3) := Lib.hid (HP2.out.set (C' := #[.slice bo' m' bc', .int .i64 most]) HYT.out.2.2 (by simp) (by decide) (by decide) (by
          intro x hx
          simp at hx
          rcases hx with rfl | rfl
          ·
           exact fun e => HYT.out.1 e.symm
          ·
           exact fun e => HYT.out.2.1 e.symm) (by rw [hz3]; exact setCell_blk (setCell_blk gy 0 _) 1 _) (by rw [hz3]; exact ((Mod.refl (fun q => q = Y) z2).setCell ⟨Y, 0, none⟩ (.inl rfl) _).setCell ⟨Y, 1, none⟩ (.inl rfl) _))
         clear e0 e1 e2 e3 e4 hz3 gy
         refine hK.out _ _ noK ?_
         clear hK KK
         try simp only [Act.put, List.setIfInBounds_toArray, List.set_cons_zero, List.set_cons_succ]
         refine wpAnyK_ready (rs := [14]) (by kernel_rfl) (by simp) ?_
         refine AllReadyK.cons (o := pq15) rfl (fun KK hK => ?_) (AllReadyK.nil)
         try simp only [List.getElem_toArray, List.getElem_cons_succ, List.getElem_cons_zero]
         go_simp
         refine hK.out _ _ noK ?_
         clear hK KK
         try simp only [Act.put, List.setIfInBounds_toArray, List.set_cons_zero, List.set_cons_succ]
         refine wpAnyK_done (by kernel_rfl) ?_ _
         go_wp2
         go_meet
         exact ⟨p', bo', m', bc', Y, rfl, rfl, rfl, HP3.out, HYT.out.1, HYT.out.2.2⟩
        ·
         try simp only [List.getElem_toArray, List.getElem_cons_succ, List.getElem_cons_zero]
         go_simp
         refine hK.out _ _ noK ?_
         clear hK KK
         try simp only [Act.put, List.setIfInBounds_toArray, List.set_cons_zero, List.set_cons_succ]
         refine wpAnyK_ready (rs := [9]) (by kernel_rfl) (by simp) ?_
         refine AllReadyK.cons (o := pq11) rfl (fun KK hK => ?_) (AllReadyK.nil)
         try simp only [List.getElem_toArray, List.getElem_cons_succ, List.getElem_cons_zero]
         go_simp
         refine hK.out _ _ noK ?_
         clear hK KK
         try simp only [Act.put, List.setIfInBounds_toArray, List.set_cons_zero, List.set_cons_succ]
         refine wpAnyK_ready (rs := [13]) (by kernel_rfl) (by simp) ?_
         refine AllReadyK.cons (o := pq14) rfl (fun KK hK => ?_) (AllReadyK.nil)
         try simp only [List.getElem_toArray, List.getElem_cons_succ, List.getElem_cons_zero]
         have gy := HP2.out.at (x := Y) (o := .cells #[.slice none 0 0, .int .i64 0] 36 (0, 0)) (by simp)
         have e0 := cell_blk gy 0 _ rfl
         have e1 := cell_blk gy 1 _ rfl
         have e2 := blk_lt gy
         have e3 := frozen_blk gy 0
         have e4 := frozen_blk gy 1
         go_simp
         obtain ⟨z3, hz3⟩ : ∃ Q, Q = (z2.setCell ⟨Y, 0, none⟩ (.slice bo' m' bc')).setCell ⟨Y, 1, none⟩ (.int .i64 most) := ⟨_, rfl⟩
         rw [← hz3]
         have HP3 : Hid (PS u p' most L1 bo' m' bc' [(Y, wantO bo' m' bc' most), (T9, wantO bo m bc most), (X5, tmO k i)] z3) := Lib.hid (HP2.out.set (C' := #[.slice bo' m' bc', .int .i64 most]) HYT.out.2.2 (by simp) (by decide) (by decide) (by
          intro x hx
          simp at hx
          rcases hx with rfl | rfl
          ·
           exact fun e => HYT.out.1 e.symm
          ·
           exact fun e => HYT.out.2.1 e.symm) (by rw [hz3]; exact setCell_blk (setCell_blk gy 0 _) 1 _) (by rw [hz3]; exact ((Mod.refl (fun q => q = Y) z2).setCell ⟨Y, 0, none⟩ (.inl rfl) _).setCell ⟨Y, 1, none⟩ (.inl rfl) _))
         clear e0 e1 e2 e3 e4 hz3 gy
         refine hK.out _ _ noK ?_
         clear hK KK
         try simp only [Act.put, List.setIfInBounds_toArray, List.set_cons_zero, List.set_cons_succ]
         refine wpAnyK_ready (rs := [14]) (by kernel_rfl) (by simp) ?_
         refine AllReadyK.cons (o := pq15) rfl (fun KK hK => ?_) (AllReadyK.nil)
         try simp only [List.getElem_toArray, List.getElem_cons_succ, List.getElem_cons_zero]
         go_simp
         refine hK.out _ _ noK ?_
         clear hK KK
         try simp only [Act.put, List.setIfInBounds_toArray, List.set_cons_zero, List.set_cons_succ]
         refine wpAnyK_done (by kernel_rfl) ?_ _
         go_wp2
         go_meet
         exact ⟨p', bo', m', bc', Y, rfl, rfl, rfl, HP3.out, HYT.out.1, HYT.out.2.2⟩
       ·
        try simp only [List.getElem_toArray, List.getElem_cons_succ, List.getElem_cons_zero]
        go_simp
        refine hK.out _ _ noK ?_
        clear hK KK
        try simp only [Act.put, List.setIfInBounds_toArray, List.set_cons_zero, List.set_cons_succ]
        refine wpAnyK_ready (rs := [8]) (by kernel_rfl) (by simp) ?_
        refine AllReadyK.cons (o := pq10) rfl (fun KK hK => ?_) (AllReadyK.nil)
        try simp only [List.getElem_toArray, List.getElem_cons_succ, List.getElem_cons_zero]
        go_simp
        refine hK.out _ _ noK ?_
        clear hK KK
        try simp only [Act.put, List.setIfInBounds_toArray, List.set_cons_zero, List.set_cons_succ]
        refine wpAnyK_ready (rs := [12]) (by kernel_rfl) (by simp) ?_
        refine AllReadyK.cons (o := pq13) rfl (fun KK hK => ?_) (AllReadyK.nil)
        try simp only [List.getElem_toArray, List.getElem_cons_succ, List.getElem_cons_zero]
        go_simp
        refine hK.out _ _ noK ?_
        clear hK KK
        try simp only [Act.put, List.setIfInBounds_toArray, List.set_cons_zero, List.set_cons_succ]
        refine wpAnyK_ready (rs := [13]) (by kernel_rfl) (by simp) ?_
        refine AllReadyK.cons (o := pq14) rfl (fun KK hK => ?_) (AllReadyK.nil)
        try simp only [List.getElem_toArray, List.getElem_cons_succ, List.getElem_cons_zero]
        have gy := HP2.out.at (x := Y) (o := .cells #[.slice none 0 0, .int .i64 0] 36 (0, 0)) (by simp)
        have e0 := cell_blk gy 0 _ rfl
        have e1 := cell_blk gy 1 _ rfl
        have e2 := blk_lt gy
        have e3 := frozen_blk gy 0
        have e4 := frozen_blk gy 1
        go_simp
        obtain ⟨z3, hz3⟩ : ∃ Q, Q = (z2.setCell ⟨Y, 0, none⟩ (.slice bo' m' bc')).setCell ⟨Y, 1, none⟩ (.int .i64 most) := ⟨_, rfl⟩
        rw [← hz3]
        have HP3 : Hid (PS u p' most L1 bo' m' bc' [(Y, wantO bo' m' bc' most), (T9, wantO bo m bc most), (X5, tmO k i)] z3) := Lib.hid (HP2.out.set (C' := #[.slice bo' m' bc', .int .i64 most]) HYT.out.2.2 (by simp) (by decide) (by decide) (by
         intro x hx
         simp at hx
         rcases hx with rfl | rfl
         ·
          exact fun e => HYT.out.1 e.symm
         ·
          exact fun e => HYT.out.2.1 e.symm) (by rw [hz3]; exact setCell_blk (setCell_blk gy 0 _) 1 _) (by rw [hz3]; exact ((Mod.refl (fun q => q = Y) z2).setCell ⟨Y, 0, none⟩ (.inl rfl) _).setCell ⟨Y, 1, none⟩ (.inl rfl) _))
        clear e0 e1 e2 e3 e4 hz3 gy
        refine hK.out _ _ noK ?_
        clear hK KK
        try simp only [Act.put, List.setIfInBounds_toArray, List.set_cons_zero, List.set_cons_succ]
        refine wpAnyK_ready (rs := [14]) (by kernel_rfl) (by simp) ?_
        refine AllReadyK.cons (o := pq15) rfl (fun KK hK => ?_) (AllReadyK.nil)
        try simp only [List.getElem_toArray, List.getElem_cons_succ, List.getElem_cons_zero]
        go_simp
        refine hK.out _ _ noK ?_
        clear hK KK
        try simp only [Act.put, List.setIfInBounds_toArray, List.set_cons_zero, List.set_cons_succ]
        refine wpAnyK_done (by kernel_rfl) ?_ _
        go_wp2
        go_meet
        exact ⟨p', bo', m', bc', Y, rfl, rfl, rfl, HP3.out, HYT.out.1, HYT.out.2.2⟩
    ·
     try simp only [List.getElem_toArray, List.getElem_cons_succ, List.getElem_cons_zero]
     obtain ⟨Y, hY⟩ : ∃ Q, Q = wd.heap.size := ⟨_, rfl⟩
     obtain ⟨z0, hz0⟩ : ∃ Q, Q = wd.alloc (.cells #[.slice none 0 0, .int .i64 0] 36) := ⟨_, rfl⟩
     go_simp
     have hp2 := hS0.add (.cells #[.slice none 0 0, .int .i64 0] 36)
     rw [← hz0, ← hY] at hp2 ⊢
     have HP0 := Lib.hid hp2
     have hS1 : (fun W : World => PS u p most (runL most z j) bo m bc [(T9, wantO bo m bc most), (X5, tmO k i)] W) z0 := hp2.less (by simp)
     have HYT : Hid (Y ≠ T9 ∧ Y ≠ X5 ∧ u.heap.size ≤ Y) := Lib.hid (by
      have h1 := blk_lt (hS0.at (x := T9) (o := wantO bo m bc most) (by simp))
      have h2 := blk_lt (hS0.at (x := X5) (o := tmO k i) (by simp))
      have h3 := hS0.bel.size
      omega)
     clear hz0 hY hp2
     refine hK.out _ _ (fun _ => hS1) ?_
     clear hK KK
     try simp only [Act.put, List.setIfInBounds_toArray, List.set_cons_zero, List.set_cons_succ]
     refine wpAnyK_ready (rs := [6]) (by kernel_rfl) (by simp) ?_
     refine AllReadyK.cons (o := pq7) rfl (fun KK hK => ?_) (AllReadyK.nil)
     try simp only [List.getElem_toArray, List.getElem_cons_succ, List.getElem_cons_zero]
     have hact := HP0.out.act xw xk xi xn HXR.out.1.1 HXR.out.1.2 HXR.out.2.1.1 HXR.out.2.1.2 HXR.out.2.2.1 HXR.out.2.2.2
     rw [← HNx.out] at hact
     go_simp
     refine hact.mono ?_
     rintro e z2 ⟨p', bo', m', bc', rfl, hpa⟩
     have HP2 := Lib.hid hpa
     clear hact hpa
     refine hK.out _ _ noK ?_
     clear hK KK
     try simp only [Act.put, List.setIfInBounds_toArray, List.set_cons_zero, List.set_cons_succ]
     refine wpAnyK_ready (rs := [7]) (by kernel_rfl) (by simp) ?_
     refine AllReadyK.cons (o := pq9) rfl (fun KK hK => ?_) (AllReadyK.nil)
     try simp only [List.getElem_toArray, List.getElem_cons_succ, List.getElem_cons_zero]
     go_simp
     refine hK.out _ _ noK ?_
     clear hK KK
     try simp only [Act.put, List.setIfInBounds_toArray, List.set_cons_zero, List.set_cons_succ]
     refine wpAnyK_ready (rs := [8, 9, 10]) (by kernel_rfl) (by simp) ?_
     refine AllReadyK.cons (o := pq10) rfl (fun KK hK => ?_) (AllReadyK.cons (o := pq11) rfl (fun KK hK => ?_) (AllReadyK.cons (o := pq12) rfl (fun KK hK => ?_) (AllReadyK.nil)))
     ·
      try simp only [List.getElem_toArray, List.getElem_cons_succ, List.getElem_cons_zero]
      go_simp
      refine hK.out _ _ noK ?_
      clear hK KK
      try simp only [Act.put, List.setIfInBounds_toArray, List.set_cons_zero, List.set_cons_succ]
      refine wpAnyK_ready (rs := [9, 10, 12]) (by kernel_rfl) (by simp) ?_
      refine AllReadyK.cons (o := pq11) rfl (fun KK hK => ?_) (AllReadyK.cons (o := pq12) rfl (fun KK hK => ?_) (AllReadyK.cons (o := pq13) rfl (fun KK hK => ?_) (AllReadyK.nil)))
      ·
       try simp only [List.getElem_toArray, List.getElem_cons_succ, List.getElem_cons_zero]
       go_simp
       refine hK.out _ _ noK ?_
       clear hK KK
       try simp only [Act.put, List.setIfInBounds_toArray, List.set_cons_zero, List.set_cons_succ]
       refine wpAnyK_ready (rs := [10, 12]) (by kernel_rfl) (by simp) ?_
       refine AllReadyK.cons (o := pq12) rfl (fun KK hK => ?_) (AllReadyK.cons (o := pq13) rfl (fun KK hK => ?_) (AllReadyK.nil))
       ·
        try simp only [List.getElem_toArray, List.getElem_cons_succ, List.getElem_cons_zero]
        go_simp
        refine hK.out _ _ noK ?_
        clear hK KK
        try simp only [Act.put, List.setIfInBounds_toArray, List.set_cons_zero, List.set_cons_succ]
        refine wpAnyK_ready (rs := [12]) (by kernel_rfl) (by simp) ?_
        refine AllReadyK.cons (o := pq13) rfl (fun KK hK => ?_) (AllReadyK.nil)
        try simp only [List.getElem_toArray, List.getElem_cons_succ, List.getElem_cons_zero]
        go_simp
        refine hK.out _ _ noK ?_
        clear hK KK
        try simp only [Act.put, List.setIfInBounds_toArray, List.set_cons_zero, List.set_cons_succ]
        refine wpAnyK_ready (rs := [13]) (by kernel_rfl) (by simp) ?_
        refine AllReadyK.cons (o := pq14) rfl (fun KK hK => ?_) (AllReadyK.nil)
        try simp only [List.getElem_toArray, List.getElem_cons_succ, List.getElem_cons_zero]
        have gy := HP2.out.at (x := Y) (o := .cells #[.slice none 0 0, .int .i64 0] 36 (0, 0)) (by simp)
        have e0 := cell_blk gy 0 _ rfl
        have e1 := cell_blk gy 1 _ rfl
        have e2 := blk_lt gy
        have e3 := frozen_blk gy 0
        have e4 := frozen_blk gy 1
        go_simp
        obtain ⟨z3, hz3⟩ : ∃ Q, Q = (z2.setCell ⟨Y, 0, none⟩ (.slice bo' m' bc')).setCell ⟨Y, 1, none⟩ (.int .i64 most) := ⟨_, rfl⟩
        rw [← hz3]
        have HP3 : Hid (PS u p' most L1 bo' m' bc' [(Y, wantO bo' m' bc' most), (T9, wantO bo m bc most), (X5, tmO k i)] z3) := Lib.hid (HP2.out.set (C' := #[.slice bo' m' bc', .int .i64 most]) HYT.out.2.2 (by simp) (by decide) (by decide) (by
         intro x hx
         simp at hx
         rcases hx with rfl | rfl
         ·
          exact fun e => HYT.out.1 e.symm
         ·
          exact fun e => HYT.out.2.1 e.symm) (by rw [hz3]; exact setCell_blk (setCell_blk gy 0 _) 1 _) (by rw [hz3]; exact ((Mod.refl (fun q => q = Y) z2).setCell ⟨Y, 0, none⟩ (.inl rfl) _).setCell ⟨Y, 1, none⟩ (.inl rfl) _))
        clear e0 e1 e2 e3 e4 hz3 gy
        refine hK.out _ _ noK ?_
        clear hK KK
        try simp only [Act.put, List.setIfInBounds_toArray, List.set_cons_zero, List.set_cons_succ]
        refine wpAnyK_ready (rs := [14]) (by kernel_rfl) (by simp) ?_
        refine AllReadyK.cons (o := pq15) rfl (fun KK hK => ?_) (AllReadyK.nil)
        try simp only [List.getElem_toArray, List.getElem_cons_succ, List.getElem_cons_zero]
        go_simp
        refine hK.out _ _ noK ?_
        clear hK KK
        try simp only [Act.put, List.setIfInBounds_toArray, List.set_cons_zero, List.set_cons_succ]
        refine wpAnyK_done (by kernel_rfl) ?_ _
        go_wp2
        go_meet
        exact ⟨p', bo', m', bc', Y, rfl, rfl, rfl, HP3.out, HYT.out.1, HYT.out.2.2⟩
       ·
        try simp only [List.getElem_toArray, List.getElem_cons_succ, List.getElem_cons_zero]
        go_simp
        refine hK.out _ _ noK ?_
        clear hK KK
        try simp only [Act.put, List.setIfInBounds_toArray, List.set_cons_zero, List.set_cons_succ]
        refine wpAnyK_ready (rs := [10, 13]) (by kernel_rfl) (by simp) ?_
        refine AllReadyK.cons (o := pq12) rfl (fun KK hK => ?_) (AllReadyK.cons (o := pq14) rfl (fun KK hK => ?_) (AllReadyK.nil))
        ·
         try simp only [List.getElem_toArray, List.getElem_cons_succ, List.getElem_cons_zero]
         go_simp
         refine hK.out _ _ noK ?_
         clear hK KK
         try simp only [Act.put, List.setIfInBounds_toArray, List.set_cons_zero, List.set_cons_succ]
         refine wpAnyK_ready (rs := [13]) (by kernel_rfl) (by simp) ?_
         refine AllReadyK.cons (o := pq14) rfl (fun KK hK => ?_) (AllReadyK.nil)
         try simp only [List.getElem_toArray, List.getElem_cons_succ, List.getElem_cons_zero]
         have gy := HP2.out.at (x := Y) (o := .cells #[.slice none 0 0, .int .i64 0] 36 (0, 0)) (by simp)
         have e0 := cell_blk gy 0 _ rfl
         have e1 := cell_blk gy 1 _ rfl
         have e2 := blk_lt gy
         have e3 := frozen_blk gy 0
         have e4 := frozen_blk gy 1
         go_simp
         obtain ⟨z3, hz3⟩ : ∃ Q, Q = (z2.setCell ⟨Y, 0, none⟩ (.slice bo' m' bc')).setCell ⟨Y, 1, none⟩ (.int .i64 most) := ⟨_, rfl⟩
         rw [← hz3]
         have HP3 : Hid (PS u p' most L1 bo' m' bc' [(Y, wantO bo' m' bc' most), (T9, wantO bo m bc most), (X5, tmO k i)] z3) := Lib.hid (HP2.out.set (C' := #[.slice bo' m' bc', .int .i64 most]) HYT.out.2.2 (by simp) (by decide) (by decide) (by
          intro x hx
          simp at hx
          rcases hx with rfl | rfl
          ·
           exact fun e => HYT.out.1 e.symm
          ·
           exact fun e => HYT.out.2.1 e.symm) (by rw [hz3]; exact setCell_blk (setCell_blk gy 0 _) 1 _) (by rw [hz3]; exact ((Mod.refl (fun q => q = Y) z2).setCell ⟨Y, 0, none⟩ (.inl rfl) _).setCell ⟨Y, 1, none⟩ (.inl rfl) _))
         clear e0 e1 e2 e3 e4 hz3 gy
         refine hK.out _ _ noK ?_
         clear hK KK
         try simp only [Act.put, List.setIfInBounds_toArray, List.set_cons_zero, List.set_cons_succ]
         refine wpAnyK_ready (rs := [14]) (by kernel_rfl) (by simp) ?_
         refine AllReadyK.cons (o := pq15) rfl (fun KK hK => ?_) (AllReadyK.nil)
         try simp only [List.getElem_toArray, List.getElem_cons_succ, List.getElem_cons_zero]
         go_simp
         refine hK.out _ _ noK ?_
         clear hK KK
         try simp only [Act.put, List.setIfInBounds_toArray, List.set_cons_zero, List.set_cons_succ]
         refine wpAnyK_done (by kernel_rfl) ?_ _
         go_wp2
         go_meet
         exact ⟨p', bo', m', bc', Y, rfl, rfl, rfl, HP3.out, HYT.out.1, HYT.out.2.2⟩
        ·
         try simp only [List.getElem_toArray, List.getElem_cons_succ, List.getElem_cons_zero]
         have gy := HP2.out.at (x := Y) (o := .cells #[.slice none 0 0, .int .i64 0] 36 (0, 0)) (by simp)
         have e0 := cell_blk gy 0 _ rfl
         have e1 := cell_blk gy 1 _ rfl
         have e2 := blk_lt gy
         have e3 := frozen_blk gy 0
         have e4 := frozen_blk gy 1
         go_simp
         obtain ⟨z3, hz3⟩ : ∃ Q, Q = (z2.setCell ⟨Y, 0, none⟩ (.slice bo' m' bc')).setCell ⟨Y, 1, none⟩ (.int .i64 most) := ⟨_, rfl⟩
         rw [← hz3]
         have HP3 : Hid (PS u p' most L1 bo' m' bc' [(Y, wantO bo' m' bc' most), (T9, wantO bo m bc most), (X5, tmO k i)] z3) := Lib.hid (HP2.out.set (C' := #[.slice bo' m' bc', .int .i64 most]) HYT.out.2.2 (by simp) (by decide) (by decide) (by
          intro x hx
          simp at hx
          rcases hx with rfl | rfl
          ·
           exact fun e => HYT.out.1 e.symm
          ·
           exact fun e => HYT.out.2.1 e.symm) (by rw [hz3]; exact setCell_blk (setCell_blk gy 0 _) 1 _) (by rw [hz3]; exact ((Mod.refl (fun q => q = Y) z2).setCell ⟨Y, 0, none⟩ (.inl rfl) _).setCell ⟨Y, 1, none⟩ (.inl rfl) _))
         clear e0 e1 e2 e3 e4 hz3 gy
         refine hK.out _ _ noK ?_
         clear hK KK
         try simp only [Act.put, List.setIfInBounds_toArray, List.set_cons_zero, List.set_cons_succ]
         refine wpAnyK_ready (rs := [10]) (by kernel_rfl) (by simp) ?_
         refine AllReadyK.cons (o := pq12) rfl (fun KK hK => ?_) (AllReadyK.nil)
         try simp only [List.getElem_toArray, List.getElem_cons_succ, List.getElem_cons_zero]
         go_simp
         refine hK.out _ _ noK ?_
         clear hK KK
         try simp only [Act.put, List.setIfInBounds_toArray, List.set_cons_zero, List.set_cons_succ]
         refine wpAnyK_ready (rs := [14]) (by kernel_rfl) (by simp) ?_
         refine AllReadyK.cons (o := pq15) rfl (fun KK hK => ?_) (AllReadyK.nil)
         try simp only [List.getElem_toArray, List.getElem_cons_succ, List.getElem_cons_zero]
         go_simp
         refine hK.out _ _ noK ?_
         clear hK KK
         try simp only [Act.put, List.setIfInBounds_toArray, List.set_cons_zero, List.set_cons_succ]
         refine wpAnyK_done (by kernel_rfl) ?_ _
         go_wp2
         go_meet
         exact ⟨p', bo', m', bc', Y, rfl, rfl, rfl, HP3.out, HYT.out.1, HYT.out.2.2⟩
      ·
       try simp only [List.getElem_toArray, List.getElem_cons_succ, List.getElem_cons_zero]
       go_simp
       refine hK.out _ _ noK ?_
       clear hK KK
       try simp only [Act.put, List.setIfInBounds_toArray, List.set_cons_zero, List.set_cons_succ]
       refine wpAnyK_ready (rs := [9, 12]) (by kernel_rfl) (by simp) ?_
       refine AllReadyK.cons (o := pq11) rfl (fun KK hK => ?_) (AllReadyK.cons (o := pq13) rfl (fun KK hK => ?_) (AllReadyK.nil))
       ·
        try simp only [List.getElem_toArray, List.getElem_cons_succ, List.getElem_cons_zero]
        go_simp
        refine hK.out _ _ noK ?_
        clear hK KK
        try simp only [Act.put, List.setIfInBounds_toArray, List.set_cons_zero, List.set_cons_succ]
        refine wpAnyK_ready (rs := [12]) (by kernel_rfl) (by simp) ?_
        refine AllReadyK.cons (o := pq13) rfl (fun KK hK => ?_) (AllReadyK.nil)
        try simp only [List.getElem_toArray, List.getElem_cons_succ, List.getElem_cons_zero]
        go_simp
        refine hK.out _ _ noK ?_
        clear hK KK
        try simp only [Act.put, List.setIfInBounds_toArray, List.set_cons_zero, List.set_cons_succ]
        refine wpAnyK_ready (rs := [13]) (by kernel_rfl) (by simp) ?_
        refine AllReadyK.cons (o := pq14) rfl (fun KK hK => ?_) (AllReadyK.nil)
        try simp only [List.getElem_toArray, List.getElem_cons_succ, List.getElem_cons_zero]
        have gy := HP2.out.at (x := Y) (o := .cells #[.slice none 0 0, .int .i64 0] 36 (0, 0)) (by simp)
        have e0 := cell_blk gy 0 _ rfl
        have e1 := cell_blk gy 1 _ rfl
        have e2 := blk_lt gy
        have e3 := frozen_blk gy 0
        have e4 := frozen_blk gy 1
        go_simp
        obtain ⟨z3, hz3⟩ : ∃ Q, Q = (z2.setCell ⟨Y, 0, none⟩ (.slice bo' m' bc')).setCell ⟨Y, 1, none⟩ (.int .i64 most) := ⟨_, rfl⟩
        rw [← hz3]
        have HP3 : Hid (PS u p' most L1 bo' m' bc' [(Y, wantO bo' m' bc' most), (T9, wantO bo m bc most), (X5, tmO k i)] z3) := Lib.hid (HP2.out.set (C' := #[.slice bo' m' bc', .int .i64 most]) HYT.out.2.2 (by simp) (by decide) (by decide) (by
         intro x hx
         simp at hx
         rcases hx with rfl | rfl
         ·
          exact fun e => HYT.out.1 e.symm
         ·
          exact fun e => HYT.out.2.1 e.symm) (by rw [hz3]; exact setCell_blk (setCell_blk gy 0 _) 1 _) (by rw [hz3]; exact ((Mod.refl (fun q => q = Y) z2).setCell ⟨Y, 0, none⟩ (.inl rfl) _).setCell ⟨Y, 1, none⟩ (.inl rfl) _))
        clear e0 e1 e2 e3 e4 hz3 gy
        refine hK.out _ _ noK ?_
        clear hK KK
        try simp only [Act.put, List.setIfInBounds_toArray, List.set_cons_zero, List.set_cons_succ]
        refine wpAnyK_ready (rs := [14]) (by kernel_rfl) (by simp) ?_
        refine AllReadyK.cons (o := pq15) rfl (fun KK hK => ?_) (AllReadyK.nil)
        try simp only [List.getElem_toArray, List.getElem_cons_succ, List.getElem_cons_zero]
        go_simp
        refine hK.out _ _ noK ?_
        clear hK KK
        try simp only [Act.put, List.setIfInBounds_toArray, List.set_cons_zero, List.set_cons_succ]
        refine wpAnyK_done (by kernel_rfl) ?_ _
        go_wp2
        go_meet
        exact ⟨p', bo', m', bc', Y, rfl, rfl, rfl, HP3.out, HYT.out.1, HYT.out.2.2⟩
       ·
        try simp only [List.getElem_toArray, List.getElem_cons_succ, List.getElem_cons_zero]
        go_simp
        refine hK.out _ _ noK ?_
        clear hK KK
        try simp only [Act.put, List.setIfInBounds_toArray, List.set_cons_zero, List.set_cons_succ]
        refine wpAnyK_ready (rs := [9]) (by kernel_rfl) (by simp) ?_
        refine AllReadyK.cons (o := pq11) rfl (fun KK hK => ?_) (AllReadyK.nil)
        try simp only [List.getElem_toArray, List.getElem_cons_succ, List.getElem_cons_zero]
        go_simp
        refine hK.out _ _ noK ?_
        clear hK KK
        try simp only [Act.put, List.setIfInBounds_toArray, List.set_cons_zero, List.set_cons_succ]
        refine wpAnyK_ready (rs := [13]) (by kernel_rfl) (by simp) ?_
        refine AllReadyK.cons (o := pq14) rfl (fun KK hK => ?_) (AllReadyK.nil)
        try simp only [List.getElem_toArray, List.getElem_cons_succ, List.getElem_cons_zero]
        have gy := HP2.out.at (x := Y) (o := .cells #[.slice none 0 0, .int .i64 0] 36 (0, 0)) (by simp)
        have e0 := cell_blk gy 0 _ rfl
        have e1 := cell_blk gy 1 _ rfl
        have e2 := blk_lt gy
        have e3 := frozen_blk gy 0
        have e4 := frozen_blk gy 1
        go_simp
        obtain ⟨z3, hz3⟩ : ∃ Q, Q = (z2.setCell ⟨Y, 0, none⟩ (.slice bo' m' bc')).setCell ⟨Y, 1, none⟩ (.int .i64 most) := ⟨_, rfl⟩
        rw [← hz3]
        have HP3 : Hid (PS u p' most L1 bo' m' bc' [(Y, wantO bo' m' bc' most), (T9, wantO bo m bc most), (X5, tmO k i)] z3) := Lib.hid (HP2.out.set (C' := #[.slice bo' m' bc', .int .i64 most]) HYT.out.2.2 (by simp) (by decide) (by decide) (by
         intro x hx
         simp at hx
         rcases hx with rfl | rfl
         ·
          exact fun e => HYT.out.1 e.symm
         ·
          exact fun e => HYT.out.2.1 e.symm) (by rw [hz3]; exact setCell_blk (setCell_blk gy 0 _) 1 _) (by rw [hz3]; exact ((Mod.refl (fun q => q = Y) z2).setCell ⟨Y, 0, none⟩ (.inl rfl) _).setCell ⟨Y, 1, none⟩ (.inl rfl) _))
        clear e0 e1 e2 e3 e4 hz3 gy
        refine hK.out _ _ noK ?_
        clear hK KK
        try simp only [Act.put, List.setIfInBounds_toArray, List.set_cons_zero, List.set_cons_succ]
        refine wpAnyK_ready (rs := [14]) (by kernel_rfl) (by simp) ?_
        refine AllReadyK.cons (o := pq15) rfl (fun KK hK => ?_) (AllReadyK.nil)
        try simp only [List.getElem_toArray, List.getElem_cons_succ, List.getElem_cons_zero]
        go_simp
        refine hK.out _ _ noK ?_
        clear hK KK
        try simp only [Act.put, List.setIfInBounds_toArray, List.set_cons_zero, List.set_cons_succ]
        refine wpAnyK_done (by kernel_rfl) ?_ _
        go_wp2
        go_meet
        exact ⟨p', bo', m', bc', Y, rfl, rfl, rfl, HP3.out, HYT.out.1, HYT.out.2.2⟩
      ·
       try simp only [List.getElem_toArray, List.getElem_cons_succ, List.getElem_cons_zero]
       go_simp
       refine hK.out _ _ noK ?_
       clear hK KK
       try simp only [Act.put, List.setIfInBounds_toArray, List.set_cons_zero, List.set_cons_succ]
       refine wpAnyK_ready (rs := [9, 10]) (by kernel_rfl) (by simp) ?_
       refine AllReadyK.cons (o := pq11) rfl (fun KK hK => ?_) (AllReadyK.cons (o := pq12) rfl (fun KK hK => ?_) (AllReadyK.nil))
       ·
        try simp only [List.getElem_toArray, List.getElem_cons_succ, List.getElem_cons_zero]
        go_simp
        refine hK.out _ _ noK ?_
        clear hK KK
        try simp only [Act.put, List.setIfInBounds_toArray, List.set_cons_zero, List.set_cons_succ]
        refine wpAnyK_ready (rs := [10, 13]) (by kernel_rfl) (by simp) ?_
        refine AllReadyK.cons (o := pq12) rfl (fun KK hK => ?_) (AllReadyK.cons (o := pq14) rfl (fun KK hK => ?_) (AllReadyK.nil))
        ·
         try simp only [List.getElem_toArray, List.getElem_cons_succ, List.getElem_cons_zero]
         go_simp
         refine hK.out _ _ noK ?_
         clear hK KK
         try simp only [Act.put, List.setIfInBounds_toArray, List.set_cons_zero, List.set_cons_succ]
         refine wpAnyK_ready (rs := [13]) (by kernel_rfl) (by simp) ?_
         refine AllReadyK.cons (o := pq14) rfl (fun KK hK => ?_) (AllReadyK.nil)
         try simp only [List.getElem_toArray, List.getElem_cons_succ, List.getElem_cons_zero]
         have gy := HP2.out.at (x := Y) (o := .cells #[.slice none 0 0, .int .i64 0] 36 (0, 0)) (by simp)
         have e0 := cell_blk gy 0 _ rfl
         have e1 := cell_blk gy 1 _ rfl
         have e2 := blk_lt gy
         have e3 := frozen_blk gy 0
         have e4 := frozen_blk gy 1
         go_simp
         obtain ⟨z3, hz3⟩ : ∃ Q, Q = (z2.setCell ⟨Y, 0, none⟩ (.slice bo' m' bc')).setCell ⟨Y, 1, none⟩ (.int .i64 most) := ⟨_, rfl⟩
         rw [← hz3]
         have HP3 : Hid (PS u p' most L1 bo' m' bc' [(Y, wantO bo' m' bc' most), (T9, wantO bo m bc most), (X5, tmO k i)] z3) := Lib.hid (HP2.out.set (C' := #[.slice bo' m' bc', .int .i64 most]) HYT.out.2.2 (by simp) (by decide) (by decide) (by
          intro x hx
          simp at hx
          rcases hx with rfl | rfl
          ·
           exact fun e => HYT.out.1 e.symm
          ·
           exact fun e => HYT.out.2.1 e.symm) (by rw [hz3]; exact setCell_blk (setCell_blk gy 0 _) 1 _) (by rw [hz3]; exact ((Mod.refl (fun q => q = Y) z2).setCell ⟨Y, 0, none⟩ (.inl rfl) _).setCell ⟨Y, 1, none⟩ (.inl rfl) _))
         clear e0 e1 e2 e3 e4 hz3 gy
         refine hK.out _ _ noK ?_
         clear hK KK
         try simp only [Act.put, List.setIfInBounds_toArray, List.set_cons_zero, List.set_cons_succ]
         refine wpAnyK_ready (rs := [14]) (by kernel_rfl) (by simp) ?_
         refine AllReadyK.cons (o := pq15) rfl (fun KK hK => ?_) (AllReadyK.nil)
         try simp only [List.getElem_toArray, List.getElem_cons_succ, List.getElem_cons_zero]
         go_simp
         refine hK.out _ _ noK ?_
         clear hK KK
         try simp only [Act.put, List.setIfInBounds_toArray, List.set_cons_zero, List.set_cons_succ]
         refine wpAnyK_done (by kernel_rfl) ?_ _
         go_wp2
         go_meet
         exact ⟨p', bo', m', bc', Y, rfl, rfl, rfl, HP3.out, HYT.out.1, HYT.out.2.2⟩
        ·
         try simp only [List.getElem_toArray, List.getElem_cons_succ, List.getElem_cons_zero]
         have gy := HP2.out.at (x := Y) (o := .cells #[.slice none 0 0, .int .i64 0] 36 (0, 0)) (by simp)
         have e0 := cell_blk gy 0 _ rfl
         have e1 := cell_blk gy 1 _ rfl
         have e2 := blk_lt gy
         have e3 := frozen_blk gy 0
         have e4 := frozen_blk gy 1
         go_simp
         obtain ⟨z3, hz3⟩ : ∃ Q, Q = (z2.setCell ⟨Y, 0, none⟩ (.slice bo' m' bc')).setCell ⟨Y, 1, none⟩ (.int .i64 most) := ⟨_, rfl⟩
         rw [← hz3]
         have HP3 : Hid (PS u p' most L1 bo' m' bc' [(Y, wantO bo' m' bc' most), (T9, wantO bo m bc most), (X5, tmO k i)] z3) := Lib.hid (HP2.out.set (C' := #[.slice bo' m' bc', .int .i64 most]) HYT.out.2.2 (by simp) (by decide) (by decide) (by
          intro x hx
          simp at hx
          rcases hx with rfl | rfl
          ·
           exact fun e => HYT.out.1 e.symm
          ·
           exact fun e => HYT.out.2.1 e.symm) (by rw [hz3]; exact setCell_blk (setCell_blk gy 0 _) 1 _) (by rw [hz3]; exact ((Mod.refl (fun q => q = Y) z2).setCell ⟨Y, 0, none⟩ (.inl rfl) _).setCell ⟨Y, 1, none⟩ (.inl rfl) _))
         clear e0 e1 e2 e3 e4 hz3 gy
         refine hK.out _ _ noK ?_
         clear hK KK
         try simp only [Act.put, List.setIfInBounds_toArray, List.set_cons_zero, List.set_cons_succ]
         refine wpAnyK_ready (rs := [10]) (by kernel_rfl) (by simp) ?_
         refine AllReadyK.cons (o := pq12) rfl (fun KK hK => ?_) (AllReadyK.nil)
         try simp only [List.getElem_toArray, List.getElem_cons_succ, List.getElem_cons_zero]
         go_simp
         refine hK.out _ _ noK ?_
         clear hK KK
         try simp only [Act.put, List.setIfInBounds_toArray, List.set_cons_zero, List.set_cons_succ]
         refine wpAnyK_ready (rs := [14]) (by kernel_rfl) (by simp) ?_
         refine AllReadyK.cons (o := pq15) rfl (fun KK hK => ?_) (AllReadyK.nil)
         try simp only [List.getElem_toArray, List.getElem_cons_succ, List.getElem_cons_zero]
         go_simp
         refine hK.out _ _ noK ?_
         clear hK KK
         try simp only [Act.put, List.setIfInBounds_toArray, List.set_cons_zero, List.set_cons_succ]
         refine wpAnyK_done (by kernel_rfl) ?_ _
         go_wp2
         go_meet
         exact ⟨p', bo', m', bc', Y, rfl, rfl, rfl, HP3.out, HYT.out.1, HYT.out.2.2⟩
       ·
        try simp only [List.getElem_toArray, List.getElem_cons_succ, List.getElem_cons_zero]
        go_simp
        refine hK.out _ _ noK ?_
        clear hK KK
        try simp only [Act.put, List.setIfInBounds_toArray, List.set_cons_zero, List.set_cons_succ]
        refine wpAnyK_ready (rs := [9]) (by kernel_rfl) (by simp) ?_
        refine AllReadyK.cons (o := pq11) rfl (fun KK hK => ?_) (AllReadyK.nil)
        try simp only [List.getElem_toArray, List.getElem_cons_succ, List.getElem_cons_zero]
        go_simp
        refine hK.out _ _ noK ?_
        clear hK KK
        try simp only [Act.put, List.setIfInBounds_toArray, List.set_cons_zero, List.set_cons_succ]
        refine wpAnyK_ready (rs := [13]) (by kernel_rfl) (by simp) ?_
        refine AllReadyK.cons (o := pq14) rfl (fun KK hK => ?_) (AllReadyK.nil)
        try simp only [List.getElem_toArray, List.getElem_cons_succ, List.getElem_cons_zero]
        have gy := HP2.out.at (x := Y) (o := .cells #[.slice none 0 0, .int .i64 0] 36 (0, 0)) (by simp)
        have e0 := cell_blk gy 0 _ rfl
        have e1 := cell_blk gy 1 _ rfl
        have e2 := blk_lt gy
        have e3 := frozen_blk gy 0
        have e4 := frozen_blk gy 1
        go_simp
        obtain ⟨z3, hz3⟩ : ∃ Q, Q = (z2.setCell ⟨Y, 0, none⟩ (.slice bo' m' bc')).setCell ⟨Y, 1, none⟩ (.int .i64 most) := ⟨_, rfl⟩
        rw [← hz3]
        have HP3 : Hid (PS u p' most L1 bo' m' bc' [(Y, wantO bo' m' bc' most), (T9, wantO bo m bc most), (X5, tmO k i)] z3) := Lib.hid (HP2.out.set (C' := #[.slice bo' m' bc', .int .i64 most]) HYT.out.2.2 (by simp) (by decide) (by decide) (by
         intro x hx
         simp at hx
         rcases hx with rfl | rfl
         ·
          exact fun e => HYT.out.1 e.symm
         ·
          exact fun e => HYT.out.2.1 e.symm) (by rw [hz3]; exact setCell_blk (setCell_blk gy 0 _) 1 _) (by rw [hz3]; exact ((Mod.refl (fun q => q = Y) z2).setCell ⟨Y, 0, none⟩ (.inl rfl) _).setCell ⟨Y, 1, none⟩ (.inl rfl) _))
        clear e0 e1 e2 e3 e4 hz3 gy
        refine hK.out _ _ noK ?_
        clear hK KK
        try simp only [Act.put, List.setIfInBounds_toArray, List.set_cons_zero, List.set_cons_succ]
        refine wpAnyK_ready (rs := [14]) (by kernel_rfl) (by simp) ?_
        refine AllReadyK.cons (o := pq15) rfl (fun KK hK => ?_) (AllReadyK.nil)
        try simp only [List.getElem_toArray, List.getElem_cons_succ, List.getElem_cons_zero]
        go_simp
        refine hK.out _ _ noK ?_
        clear hK KK
        try simp only [Act.put, List.setIfInBounds_toArray, List.set_cons_zero, List.set_cons_succ]
        refine wpAnyK_done (by kernel_rfl) ?_ _
        go_wp2
        go_meet
        exact ⟨p', bo', m', bc', Y, rfl, rfl, rfl, HP3.out, HYT.out.1, HYT.out.2.2⟩
     ·
      try simp only [List.getElem_toArray, List.getElem_cons_succ, List.getElem_cons_zero]
      go_simp
      refine hK.out _ _ noK ?_
      clear hK KK
      try simp only [Act.put, List.setIfInBounds_toArray, List.set_cons_zero, List.set_cons_succ]
      refine wpAnyK_ready (rs := [8, 10]) (by kernel_rfl) (by simp) ?_
      refine AllReadyK.cons (o := pq10) rfl (fun KK hK => ?_) (AllReadyK.cons (o := pq12) rfl (fun KK hK => ?_) (AllReadyK.nil))
      ·
       try simp only [List.getElem_toArray, List.getElem_cons_succ, List.getElem_cons_zero]
       go_simp
       refine hK.out _ _ noK ?_
       clear hK KK
       try simp only [Act.put, List.setIfInBounds_toArray, List.set_cons_zero, List.set_cons_succ]
       refine wpAnyK_ready (rs := [10, 12]) (by kernel_rfl) (by simp) ?_
       refine AllReadyK.cons (o := pq12) rfl (fun KK hK => ?_) (AllReadyK.cons (o := pq13) rfl (fun KK hK => ?_) (AllReadyK.nil))
       ·
        try simp only [List.getElem_toArray, List.getElem_cons_succ, List.getElem_cons_zero]
        go_simp
        refine hK.out _ _ noK ?_
        clear hK KK
        try simp only [Act.put, List.setIfInBounds_toArray, List.set_cons_zero, List.set_cons_succ]
        refine wpAnyK_ready (rs := [12]) (by kernel_rfl) (by simp) ?_
        refine AllReadyK.cons (o := pq13) rfl (fun KK hK => ?_) (AllReadyK.nil)
        try simp only [List.getElem_toArray, List.getElem_cons_succ, List.getElem_cons_zero]
        go_simp
        refine hK.out _ _ noK ?_
        clear hK KK
        try simp only [Act.put, List.setIfInBounds_toArray, List.set_cons_zero, List.set_cons_succ]
        refine wpAnyK_ready (rs := [13]) (by kernel_rfl) (by simp) ?_
        refine AllReadyK.cons (o := pq14) rfl (fun KK hK => ?_) (AllReadyK.nil)
        try simp only [List.getElem_toArray, List.getElem_cons_succ, List.getElem_cons_zero]
        have gy := HP2.out.at (x := Y) (o := .cells #[.slice none 0 0, .int .i64 0] 36 (0, 0)) (by simp)
        have e0 := cell_blk gy 0 _ rfl
        have e1 := cell_blk gy 1 _ rfl
        have e2 := blk_lt gy
        have e3 := frozen_blk gy 0
        have e4 := frozen_blk gy 1
        go_simp
        obtain ⟨z3, hz3⟩ : ∃ Q, Q = (z2.setCell ⟨Y, 0, none⟩ (.slice bo' m' bc')).setCell ⟨Y, 1, none⟩ (.int .i64 most) := ⟨_, rfl⟩
        rw [← hz3]
        have HP3 : Hid (PS u p' most L1 bo' m' bc' [(Y, wantO bo' m' bc' most), (T9, wantO bo m bc most), (X5, tmO k i)] z3) := Lib.hid (HP2.out.set (C' := #[.slice bo' m' bc', .int .i64 most]) HYT.out.2.2 (by simp) (by decide) (by decide) (by
         intro x hx
         simp at hx
         rcases hx with rfl | rfl
         ·
          exact fun e => HYT.out.1 e.symm
         ·
          exact fun e => HYT.out.2.1 e.symm) (by rw [hz3]; exact setCell_blk (setCell_blk gy 0 _) 1 _) (by rw [hz3]; exact ((Mod.refl (fun q => q = Y) z2).setCell ⟨Y, 0, none⟩ (.inl rfl) _).setCell ⟨Y, 1, none⟩ (.inl rfl) _))
        clear e0 e1 e2 e3 e4 hz3 gy
        refine hK.out _ _ noK ?_
        clear hK KK
        try simp only [Act.put, List.setIfInBounds_toArray, List.set_cons_zero, List.set_cons_succ]
        refine wpAnyK_ready (rs := [14]) (by kernel_rfl) (by simp) ?_
        refine AllReadyK.cons (o := pq15) rfl (fun KK hK => ?_) (AllReadyK.nil)
        try simp only [List.getElem_toArray, List.getElem_cons_succ, List.getElem_cons_zero]
        go_simp
        refine hK.out _ _ noK ?_
        clear hK KK
        try simp only [Act.put, List.setIfInBounds_toArray, List.set_cons_zero, List.set_cons_succ]
        refine wpAnyK_done (by kernel_rfl) ?_ _
        go_wp2
        go_meet
        exact ⟨p', bo', m', bc', Y, rfl, rfl, rfl, HP3.out, HYT.out.1, HYT.out.2.2⟩
       ·
        try simp only [List.getElem_toArray, List.getElem_cons_succ, List.getElem_cons_zero]
        go_simp
        refine hK.out _ _ noK ?_
        clear hK KK
        try simp only [Act.put, List.setIfInBounds_toArray, List.set_cons_zero, List.set_cons_succ]
        refine wpAnyK_ready (rs := [10, 13]) (by kernel_rfl) (by simp) ?_
        refine AllReadyK.cons (o := pq12) rfl (fun KK hK => ?_) (AllReadyK.cons (o := pq14) rfl (fun KK hK => ?_) (AllReadyK.nil))
        ·
         try simp only [List.getElem_toArray, List.getElem_cons_succ, List.getElem_cons_zero]
         go_simp
         refine hK.out _ _ noK ?_
         clear hK KK
         try simp only [Act.put, List.setIfInBounds_toArray, List.set_cons_zero, List.set_cons_succ]
         refine wpAnyK_ready (rs := [13]) (by kernel_rfl) (by simp) ?_
         refine AllReadyK.cons (o := pq14) rfl (fun KK hK => ?_) (AllReadyK.nil)
         try simp only [List.getElem_toArray, List.getElem_cons_succ, List.getElem_cons_zero]
         have gy := HP2.out.at (x := Y) (o := .cells #[.slice none 0 0, .int .i64 0] 36 (0, 0)) (by simp)
         have e0 := cell_blk gy 0 _ rfl
         have e1 := cell_blk gy 1 _ rfl
         have e2 := blk_lt gy
         have e3 := frozen_blk gy 0
         have e4 := frozen_blk gy 1
         go_simp
         obtain ⟨z3, hz3⟩ : ∃ Q, Q = (z2.setCell ⟨Y, 0, none⟩ (.slice bo' m' bc')).setCell ⟨Y, 1, none⟩ (.int .i64 most) := ⟨_, rfl⟩
         rw [← hz3]
         have HP3 : Hid (PS u p' most L1 bo' m' bc' [(Y, wantO bo' m' bc' most), (T9, wantO bo m bc most), (X5, tmO k i)] z3) := Lib.hid (HP2.out.set (C' := #[.slice bo' m' bc', .int .i64 most]) HYT.out.2.2 (by simp) (by decide) (by decide) (by
          intro x hx
          simp at hx
          rcases hx with rfl | rfl
          ·
           exact fun e => HYT.out.1 e.symm
          ·
           exact fun e => HYT.out.2.1 e.symm) (by rw [hz3]; exact setCell_blk (setCell_blk gy 0 _) 1 _) (by rw [hz3]; exact ((Mod.refl (fun q => q = Y) z2).setCell ⟨Y, 0, none⟩ (.inl rfl) _).setCell ⟨Y, 1, none⟩ (.inl rfl) _))
         clear e0 e1 e2 e3 e4 hz3 gy
         refine hK.out _ _ noK ?_
         clear hK KK
         try simp only [Act.put, List.setIfInBounds_toArray, List.set_cons_zero, List.set_cons_succ]
         refine wpAnyK_ready (rs := [14]) (by kernel_rfl) (by simp) ?_
         refine AllReadyK.cons (o := pq15) rfl (fun KK hK => ?_) (AllReadyK.nil)
         try simp only [List.getElem_toArray, List.getElem_cons_succ, List.getElem_cons_zero]
         go_simp
         refine hK.out _ _ noK ?_
         clear hK KK
         try simp only [Act.put, List.setIfInBounds_toArray, List.set_cons_zero, List.set_cons_succ]
         refine wpAnyK_done (by kernel_rfl) ?_ _
         go_wp2
         go_meet
         exact ⟨p', bo', m', bc', Y, rfl, rfl, rfl, HP3.out, HYT.out.1, HYT.out.2.2⟩
        ·
         try simp only [List.getElem_toArray, List.getElem_cons_succ, List.getElem_cons_zero]
         have gy := HP2.out.at (x := Y) (o := .cells #[.slice none 0 0, .int .i64 0] 36 (0, 0)) (by simp)
         have e0 := cell_blk gy 0 _ rfl
         have e1 := cell_blk gy 1 _ rfl
         have e2 := blk_lt gy
         have e3 := frozen_blk gy 0
         have e4 := frozen_blk gy 1
         go_simp
         obtain ⟨z3, hz3⟩ : ∃ Q, Q = (z2.setCell ⟨Y, 0, none⟩ (.slice bo' m' bc')).setCell ⟨Y, 1, none⟩ (.int .i64 most) := ⟨_, rfl⟩
         rw [← hz3]
         have HP3 : Hid (PS u p' most L1 bo' m' bc' [(Y, wantO bo' m' bc' most), (T9, wantO bo m bc most), (X5, tmO k i)] z3) := Lib.hid (HP2.out.set (C' := #[.slice bo' m' bc', .int .i64 most]) HYT.out.2.2 (by simp) (by decide) (by decide) (by
          intro x hx
          simp at hx
          rcases hx with rfl | rfl
          ·
           exact fun e => HYT.out.1 e.symm
          ·
           exact fun e => HYT.out.2.1 e.symm) (by rw [hz3]; exact setCell_blk (setCell_blk gy 0 _) 1 _) (by rw [hz3]; exact ((Mod.refl (fun q => q = Y) z2).setCell ⟨Y, 0, none⟩ (.inl rfl) _).setCell ⟨Y, 1, none⟩ (.inl rfl) _))
         clear e0 e1 e2 e3 e4 hz3 gy
         refine hK.out _ _ noK ?_
         clear hK KK
         try simp only [Act.put, List.setIfInBounds_toArray, List.set_cons_zero, List.set_cons_succ]
         refine wpAnyK_ready (rs := [10]) (by kernel_rfl) (by simp) ?_
         refine AllReadyK.cons (o := pq12) rfl (fun KK hK => ?_) (AllReadyK.nil)
         try simp only [List.getElem_toArray, List.getElem_cons_succ, List.getElem_cons_zero]
         go_simp
         refine hK.out _ _ noK ?_
         clear hK KK
         try simp only [Act.put, List.setIfInBounds_toArray, List.set_cons_zero, List.set_cons_succ]
         refine wpAnyK_ready (rs := [14]) (by kernel_rfl) (by simp) ?_
         refine AllReadyK.cons (o := pq15) rfl (fun KK hK => ?_) (AllReadyK.nil)
         try simp only [List.getElem_toArray, List.getElem_cons_succ, List.getElem_cons_zero]
         go_simp
         refine hK.out _ _ noK ?_
         clear hK KK
         try simp only [Act.put, List.setIfInBounds_toArray, List.set_cons_zero, List.set_cons_succ]
         refine wpAnyK_done (by kernel_rfl) ?_ _
         go_wp2
         go_meet
         exact ⟨p', bo', m', bc', Y, rfl, rfl, rfl, HP3.out, HYT.out.1, HYT.out.2.2⟩
      ·
       try simp only [List.getElem_toArray, List.getElem_cons_succ, List.getElem_cons_zero]
       go_simp
       refine hK.out _ _ noK ?_
       clear hK KK
       try simp only [Act.put, List.setIfInBounds_toArray, List.set_cons_zero, List.set_cons_succ]
       refine wpAnyK_ready (rs := [8]) (by kernel_rfl) (by simp) ?_
       refine AllReadyK.cons (o := pq10) rfl (fun KK hK => ?_) (AllReadyK.nil)
       try simp only [List.getElem_toArray, List.getElem_cons_succ, List.getElem_cons_zero]
       go_simp
       refine hK.out _ _ noK ?_
       clear hK KK
       try simp only [Act.put, List.setIfInBounds_toArray, List.set_cons_zero, List.set_cons_succ]
       refine wpAnyK_ready (rs := [12]) (by kernel_rfl) (by simp) ?_
       refine AllReadyK.cons (o := pq13) rfl (fun KK hK => ?_) (AllReadyK.nil)
       try simp only [List.getElem_toArray, List.getElem_cons_succ, List.getElem_cons_zero]
       go_simp
       refine hK.out _ _ noK ?_
       clear hK KK
       try simp only [Act.put, List.setIfInBounds_toArray, List.set_cons_zero, List.set_cons_succ]
       refine wpAnyK_ready (rs := [13]) (by kernel_rfl) (by simp) ?_
       refine AllReadyK.cons (o := pq14) rfl (fun KK hK => ?_) (AllReadyK.nil)
       try simp only [List.getElem_toArray, List.getElem_cons_succ, List.getElem_cons_zero]
       have gy := HP2.out.at (x := Y) (o := .cells #[.slice none 0 0, .int .i64 0] 36 (0, 0)) (by simp)
       have e0 := cell_blk gy 0 _ rfl
       have e1 := cell_blk gy 1 _ rfl
       have e2 := blk_lt gy
       have e3 := frozen_blk gy 0
       have e4 := frozen_blk gy 1
       go_simp
       obtain ⟨z3, hz3⟩ : ∃ Q, Q = (z2.setCell ⟨Y, 0, none⟩ (.slice bo' m' bc')).setCell ⟨Y, 1, none⟩ (.int .i64 most) := ⟨_, rfl⟩
       rw [← hz3]
       have HP3 : Hid (PS u p' most L1 bo' m' bc' [(Y, wantO bo' m' bc' most), (T9, wantO bo m bc most), (X5, tmO k i)] z3) := Lib.hid (HP2.out.set (C' := #[.slice bo' m' bc', .int .i64 most]) HYT.out.2.2 (by simp) (by decide) (by decide) (by
        intro x hx
        simp at hx
        rcases hx with rfl | rfl
        ·
         exact fun e => HYT.out.1 e.symm
        ·
         exact fun e => HYT.out.2.1 e.symm) (by rw [hz3]; exact setCell_blk (setCell_blk gy 0 _) 1 _) (by rw [hz3]; exact ((Mod.refl (fun q => q = Y) z2).setCell ⟨Y, 0, none⟩ (.inl rfl) _).setCell ⟨Y, 1, none⟩ (.inl rfl) _))
       clear e0 e1 e2 e3 e4 hz3 gy
       refine hK.out _ _ noK ?_
       clear hK KK
       try simp only [Act.put, List.setIfInBounds_toArray, List.set_cons_zero, List.set_cons_succ]
       refine wpAnyK_ready (rs := [14]) (by kernel_rfl) (by simp) ?_
       refine AllReadyK.cons (o := pq15) rfl (fun KK hK => ?_) (AllReadyK.nil)
       try simp only [List.getElem_toArray, List.getElem_cons_succ, List.getElem_cons_zero]
       go_simp
       refine hK.out _ _ noK ?_
       clear hK KK
       try simp only [Act.put, List.setIfInBounds_toArray, List.set_cons_zero, List.set_cons_succ]
       refine wpAnyK_done (by kernel_rfl) ?_ _
       go_wp2
       go_meet
       exact ⟨p', bo', m', bc', Y, rfl, rfl, rfl, HP3.out, HYT.out.1, HYT.out.2.2⟩
     ·
      try simp only [List.getElem_toArray, List.getElem_cons_succ, List.getElem_cons_zero]
      go_simp
      refine hK.out _ _ noK ?_
      clear hK KK
      try simp only [Act.put, List.setIfInBounds_toArray, List.set_cons_zero, List.set_cons_succ]
      refine wpAnyK_ready (rs := [8, 9]) (by kernel_rfl) (by simp) ?_
      refine AllReadyK.cons (o := pq10) rfl (fun KK hK => ?_) (AllReadyK.cons (o := pq11) rfl (fun KK hK => ?_) (AllReadyK.nil))
      ·
       try simp only [List.getElem_toArray, List.getElem_cons_succ, List.getElem_cons_zero]
       go_simp
       refine hK.out _ _ noK ?_
       clear hK KK
       try simp only [Act.put, List.setIfInBounds_toArray, List.set_cons_zero, List.set_cons_succ]
       refine wpAnyK_ready (rs := [9, 12]) (by kernel_rfl) (by simp) ?_
       refine AllReadyK.cons (o := pq11) rfl (fun KK hK => ?_) (AllReadyK.cons (o := pq13) rfl (fun KK hK => ?_) (AllReadyK.nil))
       ·
        try simp only [List.getElem_toArray, List.getElem_cons_succ, List.getElem_cons_zero]
        go_simp
        refine hK.out _ _ noK ?_
        clear hK KK
        try simp only [Act.put, List.setIfInBounds_toArray, List.set_cons_zero, List.set_cons_succ]
        refine wpAnyK_ready (rs := [12]) (by kernel_rfl) (by simp) ?_
        refine AllReadyK.cons (o := pq13) rfl (fun KK hK => ?_) (AllReadyK.nil)
        try simp only [List.getElem_toArray, List.getElem_cons_succ, List.getElem_cons_zero]
        go_simp
        refine hK.out _ _ noK ?_
        clear hK KK
        try simp only [Act.put, List.setIfInBounds_toArray, List.set_cons_zero, List.set_cons_succ]
        refine wpAnyK_ready (rs := [13]) (by kernel_rfl) (by simp) ?_
        refine AllReadyK.cons (o := pq14) rfl (fun KK hK => ?_) (AllReadyK.nil)
        try simp only [List.getElem_toArray, List.getElem_cons_succ, List.getElem_cons_zero]
        have gy := HP2.out.at (x := Y) (o := .cells #[.slice none 0 0, .int .i64 0] 36 (0, 0)) (by simp)
        have e0 := cell_blk gy 0 _ rfl
        have e1 := cell_blk gy 1 _ rfl
        have e2 := blk_lt gy
        have e3 := frozen_blk gy 0
        have e4 := frozen_blk gy 1
        go_simp
        obtain ⟨z3, hz3⟩ : ∃ Q, Q = (z2.setCell ⟨Y, 0, none⟩ (.slice bo' m' bc')).setCell ⟨Y, 1, none⟩ (.int .i64 most) := ⟨_, rfl⟩
        rw [← hz3]
        have HP3 : Hid (PS u p' most L1 bo' m' bc' [(Y, wantO bo' m' bc' most), (T9, wantO bo m bc most), (X5, tmO k i)] z3) := Lib.hid (HP2.out.set (C' := #[.slice bo' m' bc', .int .i64 most]) HYT.out.2.2 (by simp) (by decide) (by decide) (by
         intro x hx
         simp at hx
         rcases hx with rfl | rfl
         ·
          exact fun e => HYT.out.1 e.symm
         ·
          exact fun e => HYT.out.2.1 e.symm) (by rw [hz3]; exact setCell_blk (setCell_blk gy 0 _) 1 _) (by rw [hz3]; exact ((Mod.refl (fun q => q = Y) z2).setCell ⟨Y, 0, none⟩ (.inl rfl) _).setCell ⟨Y, 1, none⟩ (.inl rfl) _))
        clear e0 e1 e2 e3 e4 hz3 gy
        refine hK.out _ _ noK ?_
        clear hK KK
        try simp only [Act.put, List.setIfInBounds_toArray, List.set_cons_zero, List.set_cons_succ]
        refine wpAnyK_ready (rs := [14]) (by kernel_rfl) (by simp) ?_
        refine AllReadyK.cons (o := pq15) rfl (fun KK hK => ?_) (AllReadyK.nil)
        try simp only [List.getElem_toArray, List.getElem_cons_succ, List.getElem_cons_zero]
        go_simp
        refine hK.out _ _ noK ?_
        clear hK KK
        try simp only [Act.put, List.setIfInBounds_toArray, List.set_cons_zero, List.set_cons_succ]
        refine wpAnyK_done (by kernel_rfl) ?_ _
        go_wp2
        go_meet
        exact ⟨p', bo', m', bc', Y, rfl, rfl, rfl, HP3.out, HYT.out.1, HYT.out.2.2⟩
       ·
        try simp only [List.getElem_toArray, List.getElem_cons_succ, List.getElem_cons_zero]
        go_simp
        refine hK.out _ _ noK ?_
        clear hK KK
        try simp only [Act.put, List.setIfInBounds_toArray, List.set_cons_zero, List.set_cons_succ]
        refine wpAnyK_ready (rs := [9]) (by kernel_rfl) (by simp) ?_
        refine AllReadyK.cons (o := pq11) rfl (fun KK hK => ?_) (AllReadyK.nil)
        try simp only [List.getElem_toArray, List.getElem_cons_succ, List.getElem_cons_zero]
        go_simp
        refine hK.out _ _ noK ?_
        clear hK KK
        try simp only [Act.put, List.setIfInBounds_toArray, List.set_cons_zero, List.set_cons_succ]
        refine wpAnyK_ready (rs := [13]) (by kernel_rfl) (by simp) ?_
        refine AllReadyK.cons (o := pq14) rfl (fun KK hK => ?_) (AllReadyK.nil)
        try simp only [List.getElem_toArray, List.getElem_cons_succ, List.getElem_cons_zero]
        have gy := HP2.out.at (x := Y) (o := .cells #[.slice none 0 0, .int .i64 0] 36 (0, 0)) (by simp)
        have e0 := cell_blk gy 0 _ rfl
        have e1 := cell_blk gy 1 _ rfl
        have e2 := blk_lt gy
        have e3 := frozen_blk gy 0
        have e4 := frozen_blk gy 1
        go_simp
        obtain ⟨z3, hz3⟩ : ∃ Q, Q = (z2.setCell ⟨Y, 0, none⟩ (.slice bo' m' bc')).setCell ⟨Y, 1, none⟩ (.int .i64 most) := ⟨_, rfl⟩
        rw [← hz3]
        have HP3 : Hid (PS u p' most L1 bo' m' bc' [(Y, wantO bo' m' bc' most), (T9, wantO bo m bc most), (X5, tmO k i)] z3) := Lib.hid (HP2.out.set (C' := #[.slice bo' m' bc', .int .i64 most]) HYT.out.2.2 (by simp) (by decide) (by decide) (by
         intro x hx
         simp at hx
         rcases hx with rfl | rfl
         ·
          exact fun e => HYT.out.1 e.symm
         ·
          exact fun e => HYT.out.2.1 e.symm) (by rw [hz3]; exact setCell_blk (setCell_blk gy 0 _) 1 _) (by rw [hz3]; exact ((Mod.refl (fun q => q = Y) z2).setCell ⟨Y, 0, none⟩ (.inl rfl) _).setCell ⟨Y, 1, none⟩ (.inl rfl) _))
        clear e0 e1 e2 e3 e4 hz3 gy
        refine hK.out _ _ noK ?_
        clear hK KK
        try simp only [Act.put, List.setIfInBounds_toArray, List.set_cons_zero, List.set_cons_succ]
        refine wpAnyK_ready (rs := [14]) (by kernel_rfl) (by simp) ?_
        refine AllReadyK.cons (o := pq15) rfl (fun KK hK => ?_) (AllReadyK.nil)
        try simp only [List.getElem_toArray, List.getElem_cons_succ, List.getElem_cons_zero]
        go_simp
        refine hK.out _ _ noK ?_
        clear hK KK
        try simp only [Act.put, List.setIfInBounds_toArray, List.set_cons_zero, List.set_cons_succ]
        refine wpAnyK_done (by kernel_rfl) ?_ _
        go_wp2
        go_meet
        exact ⟨p', bo', m', bc', Y, rfl, rfl, rfl, HP3.out, HYT.out.1, HYT.out.2.2⟩
      ·
       try simp only [List.getElem_toArray, List.getElem_cons_succ, List.getElem_cons_zero]
       go_simp
       refine hK.out _ _ noK ?_
       clear hK KK
       try simp only [Act.put, List.setIfInBounds_toArray, List.set_cons_zero, List.set_cons_succ]
       refine wpAnyK_ready (rs := [8]) (by kernel_rfl) (by simp) ?_
       refine AllReadyK.cons (o := pq10) rfl (fun KK hK => ?_) (AllReadyK.nil)
       try simp only [List.getElem_toArray, List.getElem_cons_succ, List.getElem_cons_zero]
       go_simp
       refine hK.out _ _ noK ?_
       clear hK KK
       try simp only [Act.put, List.setIfInBounds_toArray, List.set_cons_zero, List.set_cons_succ]
       refine wpAnyK_ready (rs := [12]) (by kernel_rfl) (by simp) ?_
       refine AllReadyK.cons (o := pq13) rfl (fun KK hK => ?_) (AllReadyK.nil)
       try simp only [List.getElem_toArray, List.getElem_cons_succ, List.getElem_cons_zero]
       go_simp
       refine hK.out _ _ noK ?_
       clear hK KK
       try simp only [Act.put, List.setIfInBounds_toArray, List.set_cons_zero, List.set_cons_succ]
       refine wpAnyK_ready (rs := [13]) (by kernel_rfl) (by simp) ?_
       refine AllReadyK.cons (o := pq14) rfl (fun KK hK => ?_) (AllReadyK.nil)
       try simp only [List.getElem_toArray, List.getElem_cons_succ, List.getElem_cons_zero]
       have gy := HP2.out.at (x := Y) (o := .cells #[.slice none 0 0, .int .i64 0] 36 (0, 0)) (by simp)
       have e0 := cell_blk gy 0 _ rfl
       have e1 := cell_blk gy 1 _ rfl
       have e2 := blk_lt gy
       have e3 := frozen_blk gy 0
       have e4 := frozen_blk gy 1
       go_simp
       obtain ⟨z3, hz3⟩ : ∃ Q, Q = (z2.setCell ⟨Y, 0, none⟩ (.slice bo' m' bc')).setCell ⟨Y, 1, none⟩ (.int .i64 most) := ⟨_, rfl⟩
       rw [← hz3]
       have HP3 : Hid (PS u p' most L1 bo' m' bc' [(Y, wantO bo' m' bc' most), (T9, wantO bo m bc most), (X5, tmO k i)] z3) := Lib.hid (HP2.out.set (C' := #[.slice bo' m' bc', .int .i64 most]) HYT.out.2.2 (by simp) (by decide) (by decide) (by
        intro x hx
        simp at hx
        rcases hx with rfl | rfl
        ·
         exact fun e => HYT.out.1 e.symm
        ·
         exact fun e => HYT.out.2.1 e.symm) (by rw [hz3]; exact setCell_blk (setCell_blk gy 0 _) 1 _) (by rw [hz3]; exact ((Mod.refl (fun q => q = Y) z2).setCell ⟨Y, 0, none⟩ (.inl rfl) _).setCell ⟨Y, 1, none⟩ (.inl rfl) _))
       clear e0 e1 e2 e3 e4 hz3 gy
       refine hK.out _ _ noK ?_
       clear hK KK
       try simp only [Act.put, List.setIfInBounds_toArray, List.set_cons_zero, List.set_cons_succ]
       refine wpAnyK_ready (rs := [14]) (by kernel_rfl) (by simp) ?_
       refine AllReadyK.cons (o := pq15) rfl (fun KK hK => ?_) (AllReadyK.nil)
       try simp only [List.getElem_toArray, List.getElem_cons_succ, List.getElem_cons_zero]
       go_simp
       refine hK.out _ _ noK ?_
       clear hK KK
       try simp only [Act.put, List.setIfInBounds_toArray, List.set_cons_zero, List.set_cons_succ]
       refine wpAnyK_done (by kernel_rfl) ?_ _
       go_wp2
       go_meet
       exact ⟨p', bo', m', bc', Y, rfl, rfl, rfl, HP3.out, HYT.out.1, HYT.out.2.2⟩
   case rest =>
    obtain ⟨p', bo', m', bc', Y, rfl, rfl, rfl, hps, hYT, hYu⟩ := hcut
    have Pc := Lib.hid hps
    have gy := hps.at (x := Y) (o := wantO bo' m' bc' most) (by simp)
    have gt := hps.at (x := T9) (o := wantO bo m bc most) (by simp)
    unfold wantO at gy gt
    have HGY := Lib.hid gy
    have HGT := Lib.hid gt
    have e2 := cell_blk gy 0 _ rfl
    have e3 := cell_blk gy 1 _ rfl
    have e4 := blk_lt gy
    have e5 := cell_blk gt 0 _ rfl
    have e6 := cell_blk gt 1 _ rfl
    have e7 := blk_lt gt
    have e8 := frozen_blk gt 0
    have e9 := frozen_blk gt 1
    have HYT := Lib.hid (And.intro hYT hYu)
    clear hps gy gt c0 c1 c2 c3 lt lx P hYT hYu e1 HCA
    go_wp2_with fail
    go_region
    obtain ⟨v5, hv5⟩ : ∃ Q, Q = ((wc.setCell ⟨T9, 0, none⟩ (.slice bo' m' bc')).setCell ⟨T9, 1, none⟩ (.int .i64 most)).drew := ⟨_, rfl⟩
    rw [← hv5]
    have P5 : Hid (PS u p' most L1 bo' m' bc' [(T9, wantO bo' m' bc' most), (X5, tmO k i)] v5) := Lib.hid (by
     have h0 := Pc.out.less (B' := [(T9, wantO bo m bc most), (X5, tmO k i)]) (by simp)
     rw [hv5]
     refine h0.set (C' := #[.slice bo' m' bc', .int .i64 most]) HT9.out.1 (by simp) (by decide) (by decide) (by
      intro x hx
      simp at hx
      subst hx
      have := HT9.out
      simp only
      omega) ?_ ?_
     ·
      exact setCell_blk (setCell_blk HGT.out 0 _) 1 _
     ·
      exact (((Mod.refl (fun q => q = T9) wc).setCell ⟨T9, 0, none⟩ (.inl rfl) _).setCell ⟨T9, 1, none⟩ (.inl rfl) _).drew)
    have g5 := P5.out.at (x := T9) (o := wantO bo' m' bc' most) (by simp)
    have g6 := P5.out.at (x := X5) (o := tmO k i) (by simp)
    unfold wantO at g5
    unfold tmO at g6
    have q0 := cell_blk g5 0 _ rfl
    have q1 := cell_blk g5 1 _ rfl
    have q2 := blk_lt g5
    have q3 := cell_blk g6 0 _ rfl
    have q4 := cell_blk g6 1 _ rfl
    have q5 := blk_lt g6
    clear hv5 e2 e3 e4 e5 e6 e7 e8 e9 g5 g6 Pc HGY HGT HYT
    go_wp2_with (go_at_call 16; fail)
    refine (P5.out.is k i ((j : Int) % 4) HRg.out.1.1 HRg.out.1.2 HRg.out.2.1 HRg.out.2.2 (by omega) (by omega)).mono ?_
    rintro e v6 ⟨rfl, hp⟩
    have P6 := Lib.hid hp
    clear hp
    go_wp2_with fail
    go_roundg (n - (j + 1))
    case measure => have := HG.out; omega
    case rel => exact ⟨j + 1, p', bo', m', bc', rfl, by go_num, by omega, rfl, by rw [← HL1.out]; exact P6.out⟩
  ·
   have hjn : j = n := by omega
   subst hjn
   have e1 : decide ((j : Int) < j) = false := by simp
   have his := P.out.is k i 99 HRg.out.1.1 HRg.out.1.2 HRg.out.2.1 HRg.out.2.2 (by omega) (by omega)
   have HIs := Lib.hid his
   clear his
   go_wp2_with (first
    | (go_at_call 16; refine HIs.out.mono ?_; rintro e w' ⟨rfl, hp⟩; have Pq := Lib.hid hp; clear hp)
    | (go_at_call 8; refine (HWk.out _).mono ?_; rintro e w' ⟨rfl, hb⟩; have HBz := Lib.hid (B1.out.trans ((Pq.out.bel.trans (hb.mono Pq.out.bel.size)).mono B1.out.size)); clear hb))
   go_ret
   exact ⟨rfl, HBz.out⟩
end
end Go.Proofs.Ytnmbhcekcdicnaa
