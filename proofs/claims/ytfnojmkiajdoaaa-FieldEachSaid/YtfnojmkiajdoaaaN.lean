/-
  What counts, and numbers.
-/
import Derived.Test.YtfnojmkiajdoaaaH
import Derived.Test.YtfnojmkiajdoaaaL
namespace Go.Proofs.Ytfnojmkiajdoaaa
open Go.RowKit
set_option linter.unusedVariables false
set_option linter.unusedSimpArgs false
attribute [local go_sem high] neq25 eql25

theorem num16 (x : Int) (w : World) : Calls Try.prog 16 #[.int .i64 x] w fun e w' => e = .returned (.int .i64 x) ∧ w = w' := by
  go_enter Try.func16, Try.ntmps16
  go_wp2
  go_ret
  exact ⟨rfl, rfl⟩
/-- What is asked of a value. -/
def askV (f : Fd) : Bool := if f.k = 5 then decide (at1 0 f.v = none) else if f.k = 6 then decide ((digF f.v).2 = 0) else true
theorem countsF_eq (f : Fd) : countsF f = (rightF f && askV f) := rfl
theorem ask39 (v : List Int) (hb : Byt v) (hl : v.length ≤ 100000) (w : World) : Calls Try.prog 39 #[.string (strOfNums v)] w fun e w' => e = .returned (.bool (decide (at1 0 v = none))) ∧ Below w.heap.size w w' := by
  have HC := Lib.hid (contains40 v hb (by omega) w)
  have e0 : strOfNums [0] = ⟨#[0]⟩ := rfl
  rw [e0] at HC
  obtain ⟨b, hb'⟩ : ∃ b, b = decide (at1 0 v = none) := ⟨_, rfl⟩
  rw [← hb'] at HC ⊢
  clear hb' hb hl e0
  go_enter Try.func39, Try.ntmps39
  go_wp2_with (go_at_call 40; refine HC.out.mono ?_; rintro e w' ⟨rfl, rfl⟩)
  go_ret
  exact ⟨rfl, Below.refl _ _⟩
theorem ask41 (v : List Int) (hb : Byt v) (hl : v.length ≤ 100000) (w : World) : Calls Try.prog 41 #[.string (strOfNums v)] w fun e w' => e = .returned (.bool (decide ((digF v).2 = 0))) ∧ Below w.heap.size w w' := by
  have HC := Lib.hid (Digits25 v hb hl w)
  obtain ⟨a, ha⟩ : ∃ b, b = (digF v).1 := ⟨_, rfl⟩
  obtain ⟨b, hb'⟩ : ∃ b, b = (digF v).2 := ⟨_, rfl⟩
  rw [← ha, ← hb'] at HC
  rw [← hb']
  clear hb' hb hl ha
  go_enter Try.func41, Try.ntmps41
  go_wp2_with (go_at_call 25; fail)
  refine HC.out.mono ?_
  rintro e w1 ⟨rfl, hb1⟩
  have HB := Lib.hid hb1
  clear hb1
  go_wp2
  go_ret
  exact ⟨by by_cases h : b = 0 <;> simp [h], HB.out⟩
theorem ask29 (v : Value) (w : World) : Calls Try.prog 29 #[v] w fun e w' => e = .returned (.bool true) ∧ Below w.heap.size w w' := by
  go_enter Try.func29, Try.ntmps29
  go_wp2
  go_ret
  exact ⟨rfl, Below.refl _ _⟩
set_option maxHeartbeats 1600000 in
theorem refRight19 (f : Fd) (h : f.Ok) (w : World) : Calls Try.prog 19 #[fdV f] w fun e w' => e = .returned (.bool (rightF f)) ∧ Below w.heap.size w w' := by
  obtain ⟨N, hN⟩ : ∃ x, x = strOfNums f.n := ⟨_, rfl⟩
  obtain ⟨V, hV⟩ : ∃ x, x = strOfNums f.v := ⟨_, rfl⟩
  obtain ⟨k, hk⟩ : ∃ k, k = f.k := ⟨_, rfl⟩
  have eF : fdV f = .agg #[.int .i64 k, .string N, .string V] := by rw [hN, hV, hk]; rfl
  obtain ⟨L, hL⟩ : ∃ x, x = strOfNums (lineF f) := ⟨_, rfl⟩
  have hlb := lineF_byt h.n h.v
  have hll : (lineF f).length ≤ 2010 := by have := lineF_len f; have := h.l; omega
  obtain ⟨g, hg⟩ : ∃ g, g = ofF (lineF f) := ⟨_, rfl⟩
  obtain ⟨gk, hgk⟩ : ∃ x, x = g.k := ⟨_, rfl⟩
  obtain ⟨gn, hgn⟩ : ∃ x, x = strOfNums g.n := ⟨_, rfl⟩
  obtain ⟨gv, hgv⟩ : ∃ x, x = strOfNums g.v := ⟨_, rfl⟩
  have HLi : Hid (∀ W, Calls Try.prog 15 #[.agg #[.int .i64 k, .string N, .string V]] W fun e w' => e = .returned (.string L) ∧ Below W.heap.size W w') := Lib.hid fun W => by
    rw [hL, ← eF]; exact refLine15 f h W
  have HOf : Hid (∀ W, Calls Try.prog 9 #[.string L] W fun e w' => e = .returned (.agg #[.int .i64 gk, .string gn, .string gv]) ∧ Below W.heap.size W w') := Lib.hid fun W => by
    rw [hL, hgk, hgn, hgv, hg]; exact refOf9 (lineF f) hlb (by omega) W
  obtain ⟨r, hr⟩ : ∃ r, r = rightF f := ⟨_, rfl⟩
  have heq : fdEq gk gn gv k N V = r := by
    rw [hgk, hgn, hgv, hk, hN, hV, fd_eq (by rw [hg]; exact ofF_byt hlb) ⟨h.n, h.v⟩, hr, hg]; rfl
  obtain ⟨w1, hw1⟩ : ∃ W, W = w.alloc (.cells #[.int .i64 k, .string N, .string V] 25) := ⟨_, rfl⟩
  have b1 : Below w.heap.size w w1 := by rw [hw1]; exact (Below.refl _ w).alloc (Nat.le_refl _) _
  have k1 : w1.heap[w.heap.size]? = some (.cells #[.int .i64 k, .string N, .string V] 25 (0, 0)) := by rw [hw1]; exact alloc_blk_new _ _
  have HCP : Hid (∀ W, Below w1.heap.size w1 W → (W.cell? ⟨w.heap.size, 0, none⟩ = some (.int .i64 k) ∧ W.cell? ⟨w.heap.size, 1, none⟩ = some (.string N) ∧ W.cell? ⟨w.heap.size, 2, none⟩ = some (.string V)) ∧ w.heap.size < W.heap.size) := Lib.hid fun W hW => by
    have q := (hW.block _ (blk_lt k1)).trans k1
    exact ⟨⟨cell_blk q 0 _ rfl, cell_blk q 1 _ rfl, cell_blk q 2 _ rfl⟩, blk_lt q⟩
  rw [eF, ← hr]
  have E1 := Lib.hid hw1
  have B1 := Lib.hid b1
  clear hN hV hk hL eF hlb hll hg hgk hgn hgv hr hw1 b1 k1 h
  go_enter Try.func19, Try.ntmps19
  go_upto_region 1 with fail
  rw [← E1.out]
  refine wp_region_held_drew (S := fun W => Below w1.heap.size w1 W) (by kernel_rfl) (Below.drewN' w1 1) (fun hHeld => ?_)
  generalize w1.drew = wd at hHeld ⊢
  refine' wpAnyH_take (i := 0) (oi := { dst := some 3, op := Op.load 25 (Operand.tmp 1), type := 25, pos := "ref.go:59", after := #[], guard := none }) (v := ?v101001) rfl (by kernel_rfl) (by kernel_rfl) (by kernel_rfl) (fun _ _ _ h => h) (.inl ⟨by first | rfl | simp [Region.wanted, yielded], ?hy101001⟩) (by assumption) ?rest101001
  case hy101001 => (intro W hW; obtain ⟨⟨f1, f2, f3⟩, f4⟩ := HCP.out _ hW; go_simp; try with_reducible rfl)
  simp only [Act.put, List.setIfInBounds_toArray, List.set_cons_zero, List.set_cons_succ]
  refine' wpAnyH_take (i := 3) (oi := { dst := some 6, op := Op.load 25 (Operand.tmp 1), type := 25, pos := "ref.go:59", after := #[], guard := none }) (v := ?v101002) rfl (by kernel_rfl) (by kernel_rfl) (by kernel_rfl) (fun _ _ _ h => h) (.inl ⟨by first | rfl | simp [Region.wanted, yielded], ?hy101002⟩) (by assumption) ?rest101002
  case hy101002 => (intro W hW; obtain ⟨⟨f1, f2, f3⟩, f4⟩ := HCP.out _ hW; go_simp; try with_reducible rfl)
  simp only [Act.put, List.setIfInBounds_toArray, List.set_cons_zero, List.set_cons_succ]
  refine wpAnyH_ready (rs := [1]) (by kernel_rfl) (by simp) ?_
  refine AllReadyH.cons (o := { dst := some 4, op := Op.call { callee := Callee.value (Operand.func 15), args := #[Operand.tmp 3], argTypes := #[25] }, type := 9, pos := "ref.go:59", after := #[{ on := 0, ground := Ground.data }], guard := none }) rfl (fun K hK => ?_) (AllReadyH.nil)
  try simp only [List.getElem_toArray, List.getElem_cons_succ, List.getElem_cons_zero]
  go_simp
  refine (HLi.out _).mono ?_
  rintro e w5 ⟨rfl, hb5⟩
  have HB5 := hHeld.trans (hb5.mono hHeld.size)
  refine hK.out _ _ HB5 (fun hHeld => ?_)
  clear hK K
  try simp only [Act.put, List.setIfInBounds_toArray, List.set_cons_zero, List.set_cons_succ]
  refine wpAnyH_ready (rs := [2]) (by kernel_rfl) (by simp) ?_
  refine AllReadyH.cons (o := { dst := some 5, op := Op.call { callee := Callee.value (Operand.func 9), args := #[Operand.tmp 4], argTypes := #[9] }, type := 25, pos := "ref.go:59", after := #[{ on := 1, ground := Ground.data }, { on := 1, ground := Ground.chain }], guard := none }) rfl (fun K hK => ?_) (AllReadyH.nil)
  try simp only [List.getElem_toArray, List.getElem_cons_succ, List.getElem_cons_zero]
  go_simp
  refine (HOf.out _).mono ?_
  rintro e w6 ⟨rfl, hb6⟩
  have HB6 := hHeld.trans (hb6.mono hHeld.size)
  refine hK.out _ _ HB6 (fun hHeld => ?_)
  clear hK K
  try simp only [Act.put, List.setIfInBounds_toArray, List.set_cons_zero, List.set_cons_succ]
  refine' wpAnyH_take (i := 4) (oi := { dst := some 7, op := Op.binOp BinOp.eql 25 (Operand.tmp 5) (Operand.tmp 6) 25, type := 4, pos := "ref.go:59", after := #[{ on := 2, ground := Ground.data }, { on := 3, ground := Ground.data }], guard := none }) (v := ?v101003) rfl (by kernel_rfl) (by kernel_rfl) (by kernel_rfl) (fun _ _ _ h => h) (.inl ⟨by first | rfl | simp [Region.wanted, yielded], ?hy101003⟩) (by assumption) ?rest101003
  case hy101003 => (intro W hW; obtain ⟨⟨f1, f2, f3⟩, f4⟩ := HCP.out _ hW; go_simp; try with_reducible rfl)
  simp only [Act.put, List.setIfInBounds_toArray, List.set_cons_zero, List.set_cons_succ]
  refine' wpAnyH_take (i := 5) (oi := { dst := some 2, op := Op.assign (Operand.tmp 7), type := 4, pos := "ref.go:59", after := #[{ on := 4, ground := Ground.data }, { on := 2, ground := Ground.chain }, { on := 0, ground := Ground.phase }, { on := 1, ground := Ground.phase }, { on := 2, ground := Ground.phase }, { on := 3, ground := Ground.phase }, { on := 4, ground := Ground.phase }], guard := none }) (v := ?v101004) rfl (by kernel_rfl) (by kernel_rfl) (by kernel_rfl) (fun _ _ _ h => h) (.inl ⟨by first | rfl | simp [Region.wanted, yielded], ?hy101004⟩) (by assumption) ?rest101004
  case hy101004 => (intro W hW; obtain ⟨⟨f1, f2, f3⟩, f4⟩ := HCP.out _ hW; go_simp; try with_reducible rfl)
  simp only [Act.put, List.setIfInBounds_toArray, List.set_cons_zero, List.set_cons_succ]
  refine wpAnyH_done (by kernel_rfl) ?_ _
  have HBz := Lib.hid (B1.out.trans (hHeld.mono B1.out.size))
  go_wp2
  go_ret
  exact ⟨rfl, HBz.out⟩
set_option maxHeartbeats 3200000 in
theorem Counts13 (f : Fd) (h : f.Ok) (w : World) : Calls Try.prog 13 #[fdV f] w fun e w' => e = .returned (.bool (countsF f)) ∧ Below w.heap.size w w' := by
  have hvl : f.v.length ≤ 100000 := by have := h.l; omega
  have hk0 := h.k0
  have hk1 := h.k1
  rw [countsF_eq]
  obtain ⟨N, hN⟩ : ∃ x, x = strOfNums f.n := ⟨_, rfl⟩
  obtain ⟨V, hV⟩ : ∃ x, x = strOfNums f.v := ⟨_, rfl⟩
  obtain ⟨k, hk⟩ : ∃ k, k = f.k := ⟨_, rfl⟩
  have eF : fdV f = .agg #[.int .i64 k, .string N, .string V] := by rw [hN, hV, hk]; rfl
  obtain ⟨r, hr⟩ : ∃ r, r = rightF f := ⟨_, rfl⟩
  obtain ⟨s, hs⟩ : ∃ r, r = askV f := ⟨_, rfl⟩
  obtain ⟨L, hL⟩ : ∃ x, x = strOfNums (if rightF f = true then lineF f else []) := ⟨_, rfl⟩
  obtain ⟨er, her⟩ : ∃ x : Int, x = (if rightF f = true then 0 else 2) := ⟨_, rfl⟩
  have HLi : Hid (∀ W, Calls Try.prog 12 #[.agg #[.int .i64 k, .string N, .string V]] W fun e w' => e = .returned (.tuple #[.string L, .int .i64 er]) ∧ Below W.heap.size W w') := Lib.hid fun W => by
    rw [hL, her, ← eF]; exact Line12 f h W
  have her2 : (r = true → er = 0) ∧ (r = false → er = 2) := by rw [her, hr]; constructor <;> intro e <;> rw [e] <;> simp
  have hask : (k = 5 ∧ (∀ W, Calls Try.prog 39 #[.string V] W fun e w' => e = .returned (.bool s) ∧ Below W.heap.size W w')) ∨ (k = 6 ∧ (∀ W, Calls Try.prog 41 #[.string V] W fun e w' => e = .returned (.bool s) ∧ Below W.heap.size W w')) ∨ (askFn k = 29 ∧ s = true) := by
    rw [hs, hk, hV]
    unfold askV askFn
    by_cases h5 : f.k = 5
    · refine .inl ⟨h5, fun W => ?_⟩
      rw [if_pos h5]
      exact ask39 f.v h.v hvl W
    by_cases h6 : f.k = 6
    · refine .inr (.inl ⟨h6, fun W => ?_⟩)
      rw [if_neg h5, if_pos h6]
      exact ask41 f.v h.v hvl W
    · exact .inr (.inr ⟨by rw [if_neg h5, if_neg h6], by rw [if_neg h5, if_neg h6]⟩)
  have HKn : Hid (∀ b W, W.heap[b]? = some (.map asksE 2) → Calls Try.prog 27 #[.map (some b), .int .i64 k, .func (.func 29) #[] #[]] W fun e w' => e = .returned (.func (.func (askFn k)) #[] #[]) ∧ W = w') := Lib.hid fun b W hb => known27 k (by rw [hk]; exact hk0) (by rw [hk]; exact hk1) b W hb
  obtain ⟨w1, hw1⟩ : ∃ W, W = w.alloc (.cells #[.int .i64 k, .string N, .string V] 25) := ⟨_, rfl⟩
  have b1 : Below w.heap.size w w1 := by rw [hw1]; exact (Below.refl _ w).alloc (Nat.le_refl _) _
  have k1 : w1.heap[w.heap.size]? = some (.cells #[.int .i64 k, .string N, .string V] 25 (0, 0)) := by rw [hw1]; exact alloc_blk_new _ _
  have HCP : Hid (∀ W, Below w1.heap.size w1 W → (W.cell? ⟨w.heap.size, 0, none⟩ = some (.int .i64 k) ∧ W.cell? ⟨w.heap.size, 1, none⟩ = some (.string N) ∧ W.cell? ⟨w.heap.size, 2, none⟩ = some (.string V)) ∧ w.heap.size < W.heap.size) := Lib.hid fun W hW => by
    have q := (hW.block _ (blk_lt k1)).trans k1
    exact ⟨⟨cell_blk q 0 _ rfl, cell_blk q 1 _ rfl, cell_blk q 2 _ rfl⟩, blk_lt q⟩
  rw [eF, ← hr, ← hs]
  have E1 := Lib.hid hw1
  have B1 := Lib.hid b1
  obtain ⟨g0, g1⟩ := HCP.out w1 (Below.refl _ _)
  obtain ⟨c0, c1, c2⟩ := g0
  clear hN hV hk hL eF her hr hs hw1 b1 k1 h hvl hk0 hk1
  rcases hask with ⟨rfl, hA⟩ | ⟨rfl, hA⟩ | ⟨hfn, rfl⟩
  · have HAsk := Lib.hid hA
    have hfn : askFn 5 = 39 := rfl
    clear hA
    rw [hfn] at HKn
    clear hfn
    cases r with
    | true =>
      obtain rfl := her2.1 rfl
      clear her2
      rw [Bool.true_and]
      go_enter Try.func13, Try.ntmps13
      go_wp2_with (go_at_call 12; fail)
      rw [← E1.out]
      refine (HLi.out _).mono ?_
      rintro e w3 ⟨rfl, hb3⟩
      have HB3 := Lib.hid hb3
      clear hb3
      go_upto_region 2 with fail
      refine wp_region_held_drew (S := fun W => Below w1.heap.size w1 W) (by kernel_rfl) (HB3.out.trans ((Below.drewN' w3 1).mono HB3.out.size)) (fun hHeld => ?_)
      generalize w3.drew = wd at hHeld ⊢
      refine' wpAnyH_take (i := 1) (oi := { dst := some 12, op := Op.fieldAddr 25 (Operand.tmp 1) 0, type := 0, pos := "field.go:81", after := #[], guard := none }) (v := ?v102001) rfl (by kernel_rfl) (by kernel_rfl) (by kernel_rfl) (fun _ _ _ h => h) (.inl ⟨by first | rfl | simp [Region.wanted, yielded], ?hy102001⟩) (by assumption) ?rest102001
      case hy102001 => (intro W hW; obtain ⟨⟨f1, f2, f3⟩, f4⟩ := HCP.out _ hW; go_simp; try with_reducible rfl)
      simp only [Act.put, List.setIfInBounds_toArray, List.set_cons_zero, List.set_cons_succ]
      refine' wpAnyH_take (i := 2) (oi := { dst := some 13, op := Op.load 23 (Operand.tmp 12), type := 23, pos := "field.go:81", after := #[{ on := 1, ground := Ground.data }], guard := none }) (v := ?v102002) rfl (by kernel_rfl) (by kernel_rfl) (by kernel_rfl) (fun _ _ _ h => h) (.inl ⟨by first | rfl | simp [Region.wanted, yielded], ?hy102002⟩) (by assumption) ?rest102002
      case hy102002 => (intro W hW; obtain ⟨⟨f1, f2, f3⟩, f4⟩ := HCP.out _ hW; go_simp; try with_reducible rfl)
      simp only [Act.put, List.setIfInBounds_toArray, List.set_cons_zero, List.set_cons_succ]
      refine wpAnyH_ready (rs := [0]) (by kernel_rfl) (by simp) ?_
      refine AllReadyH.cons (o := { dst := some 11, op := Op.call { callee := Callee.value (Operand.func 28), args := #[], argTypes := #[] }, type := 60, pos := "field.go:81", after := #[], guard := none }) rfl (fun K hK => ?_) (AllReadyH.nil)
      try simp only [List.getElem_toArray, List.getElem_cons_succ, List.getElem_cons_zero]
      go_simp
      obtain ⟨M, hM⟩ : ∃ M, M = wd.heap.size := ⟨_, rfl⟩
      refine (asks_any wd).mono ?_
      rintro e w5 ⟨rfl, hw5⟩
      have hb5 : Below wd.heap.size wd w5 := by rw [hw5]; exact (Below.refl _ wd).alloc (Nat.le_refl _) _
      have hm5 : w5.heap[M]? = some (.map asksE 2) := by rw [hw5, hM]; exact (MapKept.heap_alloc wd _).1
      have HB5 := hHeld.trans (hb5.mono hHeld.size)
      rw [← hM]
      clear hM hw5
      refine hK.out _ _ HB5 (fun hHeld => ?_)
      clear hK K
      try simp only [Act.put, List.setIfInBounds_toArray, List.set_cons_zero, List.set_cons_succ]
      refine wpAnyH_ready (rs := [3]) (by kernel_rfl) (by simp) ?_
      refine AllReadyH.cons (o := { dst := some 14, op := Op.call { callee := Callee.value (Operand.func 27), args := #[Operand.tmp 11, Operand.tmp 13, Operand.func 29], argTypes := #[60, 23, 36] }, type := 36, pos := "field.go:81", after := #[{ on := 0, ground := Ground.data }, { on := 2, ground := Ground.data }, { on := 0, ground := Ground.chain }], guard := none }) rfl (fun K hK => ?_) (AllReadyH.nil)
      try simp only [List.getElem_toArray, List.getElem_cons_succ, List.getElem_cons_zero]
      go_simp
      refine (HKn.out _ _ hm5).mono ?_
      rintro e w6 ⟨rfl, rfl⟩
      refine hK.out _ _ hHeld (fun hHeld => ?_)
      clear hK K
      try simp only [Act.put, List.setIfInBounds_toArray, List.set_cons_zero, List.set_cons_succ]
      refine' wpAnyH_take (i := 4) (oi := { dst := some 5, op := Op.assign (Operand.tmp 14), type := 36, pos := "field.go:81", after := #[{ on := 3, ground := Ground.data }, { on := 3, ground := Ground.chain }, { on := 0, ground := Ground.phase }, { on := 1, ground := Ground.phase }, { on := 2, ground := Ground.phase }, { on := 3, ground := Ground.phase }], guard := none }) (v := ?v102003) rfl (by kernel_rfl) (by kernel_rfl) (by kernel_rfl) (fun _ _ _ h => h) (.inl ⟨by first | rfl | simp [Region.wanted, yielded], ?hy102003⟩) (by assumption) ?rest102003
      case hy102003 => (intro W hW; obtain ⟨⟨f1, f2, f3⟩, f4⟩ := HCP.out _ hW; go_simp; try with_reducible rfl)
      simp only [Act.put, List.setIfInBounds_toArray, List.set_cons_zero, List.set_cons_succ]
      refine wpAnyH_done (by kernel_rfl) ?_ _
      obtain ⟨⟨f1, f2, f3⟩, f4⟩ := HCP.out _ hHeld
      have HBz := Lib.hid (B1.out.trans (hHeld.mono B1.out.size))
      go_wp2_with (go_at_call 39; fail)
      refine (HAsk.out _).mono ?_
      rintro e w9 ⟨rfl, hb9⟩
      have HB9 := Lib.hid (HBz.out.trans (hb9.mono HBz.out.size))
      clear hb9
      go_wp2
      go_ret
      exact ⟨rfl, HB9.out⟩
    | false =>
      obtain rfl := her2.2 rfl
      clear her2
      rw [Bool.false_and]
      go_enter Try.func13, Try.ntmps13
      go_wp2_with (go_at_call 12; fail)
      rw [← E1.out]
      refine (HLi.out _).mono ?_
      rintro e w3 ⟨rfl, hb3⟩
      have HB3 := Lib.hid hb3
      clear hb3
      go_upto_region 2 with fail
      refine wp_region_held_drew (S := fun W => Below w1.heap.size w1 W) (by kernel_rfl) (HB3.out.trans ((Below.drewN' w3 1).mono HB3.out.size)) (fun hHeld => ?_)
      generalize w3.drew = wd at hHeld ⊢
      refine' wpAnyH_take (i := 1) (oi := { dst := some 12, op := Op.fieldAddr 25 (Operand.tmp 1) 0, type := 0, pos := "field.go:81", after := #[], guard := none }) (v := ?v103001) rfl (by kernel_rfl) (by kernel_rfl) (by kernel_rfl) (fun _ _ _ h => h) (.inl ⟨by first | rfl | simp [Region.wanted, yielded], ?hy103001⟩) (by assumption) ?rest103001
      case hy103001 => (intro W hW; obtain ⟨⟨f1, f2, f3⟩, f4⟩ := HCP.out _ hW; go_simp; try with_reducible rfl)
      simp only [Act.put, List.setIfInBounds_toArray, List.set_cons_zero, List.set_cons_succ]
      refine' wpAnyH_take (i := 2) (oi := { dst := some 13, op := Op.load 23 (Operand.tmp 12), type := 23, pos := "field.go:81", after := #[{ on := 1, ground := Ground.data }], guard := none }) (v := ?v103002) rfl (by kernel_rfl) (by kernel_rfl) (by kernel_rfl) (fun _ _ _ h => h) (.inl ⟨by first | rfl | simp [Region.wanted, yielded], ?hy103002⟩) (by assumption) ?rest103002
      case hy103002 => (intro W hW; obtain ⟨⟨f1, f2, f3⟩, f4⟩ := HCP.out _ hW; go_simp; try with_reducible rfl)
      simp only [Act.put, List.setIfInBounds_toArray, List.set_cons_zero, List.set_cons_succ]
      refine wpAnyH_ready (rs := [0]) (by kernel_rfl) (by simp) ?_
      refine AllReadyH.cons (o := { dst := some 11, op := Op.call { callee := Callee.value (Operand.func 28), args := #[], argTypes := #[] }, type := 60, pos := "field.go:81", after := #[], guard := none }) rfl (fun K hK => ?_) (AllReadyH.nil)
      try simp only [List.getElem_toArray, List.getElem_cons_succ, List.getElem_cons_zero]
      go_simp
      obtain ⟨M, hM⟩ : ∃ M, M = wd.heap.size := ⟨_, rfl⟩
      refine (asks_any wd).mono ?_
      rintro e w5 ⟨rfl, hw5⟩
      have hb5 : Below wd.heap.size wd w5 := by rw [hw5]; exact (Below.refl _ wd).alloc (Nat.le_refl _) _
      have hm5 : w5.heap[M]? = some (.map asksE 2) := by rw [hw5, hM]; exact (MapKept.heap_alloc wd _).1
      have HB5 := hHeld.trans (hb5.mono hHeld.size)
      rw [← hM]
      clear hM hw5
      refine hK.out _ _ HB5 (fun hHeld => ?_)
      clear hK K
      try simp only [Act.put, List.setIfInBounds_toArray, List.set_cons_zero, List.set_cons_succ]
      refine wpAnyH_ready (rs := [3]) (by kernel_rfl) (by simp) ?_
      refine AllReadyH.cons (o := { dst := some 14, op := Op.call { callee := Callee.value (Operand.func 27), args := #[Operand.tmp 11, Operand.tmp 13, Operand.func 29], argTypes := #[60, 23, 36] }, type := 36, pos := "field.go:81", after := #[{ on := 0, ground := Ground.data }, { on := 2, ground := Ground.data }, { on := 0, ground := Ground.chain }], guard := none }) rfl (fun K hK => ?_) (AllReadyH.nil)
      try simp only [List.getElem_toArray, List.getElem_cons_succ, List.getElem_cons_zero]
      go_simp
      refine (HKn.out _ _ hm5).mono ?_
      rintro e w6 ⟨rfl, rfl⟩
      refine hK.out _ _ hHeld (fun hHeld => ?_)
      clear hK K
      try simp only [Act.put, List.setIfInBounds_toArray, List.set_cons_zero, List.set_cons_succ]
      refine' wpAnyH_take (i := 4) (oi := { dst := some 5, op := Op.assign (Operand.tmp 14), type := 36, pos := "field.go:81", after := #[{ on := 3, ground := Ground.data }, { on := 3, ground := Ground.chain }, { on := 0, ground := Ground.phase }, { on := 1, ground := Ground.phase }, { on := 2, ground := Ground.phase }, { on := 3, ground := Ground.phase }], guard := none }) (v := ?v103003) rfl (by kernel_rfl) (by kernel_rfl) (by kernel_rfl) (fun _ _ _ h => h) (.inl ⟨by first | rfl | simp [Region.wanted, yielded], ?hy103003⟩) (by assumption) ?rest103003
      case hy103003 => (intro W hW; obtain ⟨⟨f1, f2, f3⟩, f4⟩ := HCP.out _ hW; go_simp; try with_reducible rfl)
      simp only [Act.put, List.setIfInBounds_toArray, List.set_cons_zero, List.set_cons_succ]
      refine wpAnyH_done (by kernel_rfl) ?_ _
      obtain ⟨⟨f1, f2, f3⟩, f4⟩ := HCP.out _ hHeld
      have HBz := Lib.hid (B1.out.trans (hHeld.mono B1.out.size))
      go_wp2
      go_ret
      exact ⟨rfl, HBz.out⟩
  · have HAsk := Lib.hid hA
    have hfn : askFn 6 = 41 := rfl
    clear hA
    rw [hfn] at HKn
    clear hfn
    cases r with
    | true =>
      obtain rfl := her2.1 rfl
      clear her2
      rw [Bool.true_and]
      go_enter Try.func13, Try.ntmps13
      go_wp2_with (go_at_call 12; fail)
      rw [← E1.out]
      refine (HLi.out _).mono ?_
      rintro e w3 ⟨rfl, hb3⟩
      have HB3 := Lib.hid hb3
      clear hb3
      go_upto_region 2 with fail
      refine wp_region_held_drew (S := fun W => Below w1.heap.size w1 W) (by kernel_rfl) (HB3.out.trans ((Below.drewN' w3 1).mono HB3.out.size)) (fun hHeld => ?_)
      generalize w3.drew = wd at hHeld ⊢
      refine' wpAnyH_take (i := 1) (oi := { dst := some 12, op := Op.fieldAddr 25 (Operand.tmp 1) 0, type := 0, pos := "field.go:81", after := #[], guard := none }) (v := ?v104001) rfl (by kernel_rfl) (by kernel_rfl) (by kernel_rfl) (fun _ _ _ h => h) (.inl ⟨by first | rfl | simp [Region.wanted, yielded], ?hy104001⟩) (by assumption) ?rest104001
      case hy104001 => (intro W hW; obtain ⟨⟨f1, f2, f3⟩, f4⟩ := HCP.out _ hW; go_simp; try with_reducible rfl)
      simp only [Act.put, List.setIfInBounds_toArray, List.set_cons_zero, List.set_cons_succ]
      refine' wpAnyH_take (i := 2) (oi := { dst := some 13, op := Op.load 23 (Operand.tmp 12), type := 23, pos := "field.go:81", after := #[{ on := 1, ground := Ground.data }], guard := none }) (v := ?v104002) rfl (by kernel_rfl) (by kernel_rfl) (by kernel_rfl) (fun _ _ _ h => h) (.inl ⟨by first | rfl | simp [Region.wanted, yielded], ?hy104002⟩) (by assumption) ?rest104002
      case hy104002 => (intro W hW; obtain ⟨⟨f1, f2, f3⟩, f4⟩ := HCP.out _ hW; go_simp; try with_reducible rfl)
      simp only [Act.put, List.setIfInBounds_toArray, List.set_cons_zero, List.set_cons_succ]
      refine wpAnyH_ready (rs := [0]) (by kernel_rfl) (by simp) ?_
      refine AllReadyH.cons (o := { dst := some 11, op := Op.call { callee := Callee.value (Operand.func 28), args := #[], argTypes := #[] }, type := 60, pos := "field.go:81", after := #[], guard := none }) rfl (fun K hK => ?_) (AllReadyH.nil)
      try simp only [List.getElem_toArray, List.getElem_cons_succ, List.getElem_cons_zero]
      go_simp
      obtain ⟨M, hM⟩ : ∃ M, M = wd.heap.size := ⟨_, rfl⟩
      refine (asks_any wd).mono ?_
      rintro e w5 ⟨rfl, hw5⟩
      have hb5 : Below wd.heap.size wd w5 := by rw [hw5]; exact (Below.refl _ wd).alloc (Nat.le_refl _) _
      have hm5 : w5.heap[M]? = some (.map asksE 2) := by rw [hw5, hM]; exact (MapKept.heap_alloc wd _).1
      have HB5 := hHeld.trans (hb5.mono hHeld.size)
      rw [← hM]
      clear hM hw5
      refine hK.out _ _ HB5 (fun hHeld => ?_)
      clear hK K
      try simp only [Act.put, List.setIfInBounds_toArray, List.set_cons_zero, List.set_cons_succ]
      refine wpAnyH_ready (rs := [3]) (by kernel_rfl) (by simp) ?_
      refine AllReadyH.cons (o := { dst := some 14, op := Op.call { callee := Callee.value (Operand.func 27), args := #[Operand.tmp 11, Operand.tmp 13, Operand.func 29], argTypes := #[60, 23, 36] }, type := 36, pos := "field.go:81", after := #[{ on := 0, ground := Ground.data }, { on := 2, ground := Ground.data }, { on := 0, ground := Ground.chain }], guard := none }) rfl (fun K hK => ?_) (AllReadyH.nil)
      try simp only [List.getElem_toArray, List.getElem_cons_succ, List.getElem_cons_zero]
      go_simp
      refine (HKn.out _ _ hm5).mono ?_
      rintro e w6 ⟨rfl, rfl⟩
      refine hK.out _ _ hHeld (fun hHeld => ?_)
      clear hK K
      try simp only [Act.put, List.setIfInBounds_toArray, List.set_cons_zero, List.set_cons_succ]
      refine' wpAnyH_take (i := 4) (oi := { dst := some 5, op := Op.assign (Operand.tmp 14), type := 36, pos := "field.go:81", after := #[{ on := 3, ground := Ground.data }, { on := 3, ground := Ground.chain }, { on := 0, ground := Ground.phase }, { on := 1, ground := Ground.phase }, { on := 2, ground := Ground.phase }, { on := 3, ground := Ground.phase }], guard := none }) (v := ?v104003) rfl (by kernel_rfl) (by kernel_rfl) (by kernel_rfl) (fun _ _ _ h => h) (.inl ⟨by first | rfl | simp [Region.wanted, yielded], ?hy104003⟩) (by assumption) ?rest104003
      case hy104003 => (intro W hW; obtain ⟨⟨f1, f2, f3⟩, f4⟩ := HCP.out _ hW; go_simp; try with_reducible rfl)
      simp only [Act.put, List.setIfInBounds_toArray, List.set_cons_zero, List.set_cons_succ]
      refine wpAnyH_done (by kernel_rfl) ?_ _
      obtain ⟨⟨f1, f2, f3⟩, f4⟩ := HCP.out _ hHeld
      have HBz := Lib.hid (B1.out.trans (hHeld.mono B1.out.size))
      go_wp2_with (go_at_call 41; fail)
      refine (HAsk.out _).mono ?_
      rintro e w9 ⟨rfl, hb9⟩
      have HB9 := Lib.hid (HBz.out.trans (hb9.mono HBz.out.size))
      clear hb9
      go_wp2
      go_ret
      exact ⟨rfl, HB9.out⟩
    | false =>
      obtain rfl := her2.2 rfl
      clear her2
      rw [Bool.false_and]
      go_enter Try.func13, Try.ntmps13
      go_wp2_with (go_at_call 12; fail)
      rw [← E1.out]
      refine (HLi.out _).mono ?_
      rintro e w3 ⟨rfl, hb3⟩
      have HB3 := Lib.hid hb3
      clear hb3
      go_upto_region 2 with fail
      refine wp_region_held_drew (S := fun W => Below w1.heap.size w1 W) (by kernel_rfl) (HB3.out.trans ((Below.drewN' w3 1).mono HB3.out.size)) (fun hHeld => ?_)
      generalize w3.drew = wd at hHeld ⊢
      refine' wpAnyH_take (i := 1) (oi := { dst := some 12, op := Op.fieldAddr 25 (Operand.tmp 1) 0, type := 0, pos := "field.go:81", after := #[], guard := none }) (v := ?v105001) rfl (by kernel_rfl) (by kernel_rfl) (by kernel_rfl) (fun _ _ _ h => h) (.inl ⟨by first | rfl | simp [Region.wanted, yielded], ?hy105001⟩) (by assumption) ?rest105001
      case hy105001 => (intro W hW; obtain ⟨⟨f1, f2, f3⟩, f4⟩ := HCP.out _ hW; go_simp; try with_reducible rfl)
      simp only [Act.put, List.setIfInBounds_toArray, List.set_cons_zero, List.set_cons_succ]
      refine' wpAnyH_take (i := 2) (oi := { dst := some 13, op := Op.load 23 (Operand.tmp 12), type := 23, pos := "field.go:81", after := #[{ on := 1, ground := Ground.data }], guard := none }) (v := ?v105002) rfl (by kernel_rfl) (by kernel_rfl) (by kernel_rfl) (fun _ _ _ h => h) (.inl ⟨by first | rfl | simp [Region.wanted, yielded], ?hy105002⟩) (by assumption) ?rest105002
      case hy105002 => (intro W hW; obtain ⟨⟨f1, f2, f3⟩, f4⟩ := HCP.out _ hW; go_simp; try with_reducible rfl)
      simp only [Act.put, List.setIfInBounds_toArray, List.set_cons_zero, List.set_cons_succ]
      refine wpAnyH_ready (rs := [0]) (by kernel_rfl) (by simp) ?_
      refine AllReadyH.cons (o := { dst := some 11, op := Op.call { callee := Callee.value (Operand.func 28), args := #[], argTypes := #[] }, type := 60, pos := "field.go:81", after := #[], guard := none }) rfl (fun K hK => ?_) (AllReadyH.nil)
      try simp only [List.getElem_toArray, List.getElem_cons_succ, List.getElem_cons_zero]
      go_simp
      obtain ⟨M, hM⟩ : ∃ M, M = wd.heap.size := ⟨_, rfl⟩
      refine (asks_any wd).mono ?_
      rintro e w5 ⟨rfl, hw5⟩
      have hb5 : Below wd.heap.size wd w5 := by rw [hw5]; exact (Below.refl _ wd).alloc (Nat.le_refl _) _
      have hm5 : w5.heap[M]? = some (.map asksE 2) := by rw [hw5, hM]; exact (MapKept.heap_alloc wd _).1
      have HB5 := hHeld.trans (hb5.mono hHeld.size)
      rw [← hM]
      clear hM hw5
      refine hK.out _ _ HB5 (fun hHeld => ?_)
      clear hK K
      try simp only [Act.put, List.setIfInBounds_toArray, List.set_cons_zero, List.set_cons_succ]
      refine wpAnyH_ready (rs := [3]) (by kernel_rfl) (by simp) ?_
      refine AllReadyH.cons (o := { dst := some 14, op := Op.call { callee := Callee.value (Operand.func 27), args := #[Operand.tmp 11, Operand.tmp 13, Operand.func 29], argTypes := #[60, 23, 36] }, type := 36, pos := "field.go:81", after := #[{ on := 0, ground := Ground.data }, { on := 2, ground := Ground.data }, { on := 0, ground := Ground.chain }], guard := none }) rfl (fun K hK => ?_) (AllReadyH.nil)
      try simp only [List.getElem_toArray, List.getElem_cons_succ, List.getElem_cons_zero]
      go_simp
      refine (HKn.out _ _ hm5).mono ?_
      rintro e w6 ⟨rfl, rfl⟩
      refine hK.out _ _ hHeld (fun hHeld => ?_)
      clear hK K
      try simp only [Act.put, List.setIfInBounds_toArray, List.set_cons_zero, List.set_cons_succ]
      refine' wpAnyH_take (i := 4) (oi := { dst := some 5, op := Op.assign (Operand.tmp 14), type := 36, pos := "field.go:81", after := #[{ on := 3, ground := Ground.data }, { on := 3, ground := Ground.chain }, { on := 0, ground := Ground.phase }, { on := 1, ground := Ground.phase }, { on := 2, ground := Ground.phase }, { on := 3, ground := Ground.phase }], guard := none }) (v := ?v105003) rfl (by kernel_rfl) (by kernel_rfl) (by kernel_rfl) (fun _ _ _ h => h) (.inl ⟨by first | rfl | simp [Region.wanted, yielded], ?hy105003⟩) (by assumption) ?rest105003
      case hy105003 => (intro W hW; obtain ⟨⟨f1, f2, f3⟩, f4⟩ := HCP.out _ hW; go_simp; try with_reducible rfl)
      simp only [Act.put, List.setIfInBounds_toArray, List.set_cons_zero, List.set_cons_succ]
      refine wpAnyH_done (by kernel_rfl) ?_ _
      obtain ⟨⟨f1, f2, f3⟩, f4⟩ := HCP.out _ hHeld
      have HBz := Lib.hid (B1.out.trans (hHeld.mono B1.out.size))
      go_wp2
      go_ret
      exact ⟨rfl, HBz.out⟩
  · rw [hfn] at HKn
    clear hfn
    cases r with
    | true =>
      obtain rfl := her2.1 rfl
      clear her2
      rw [Bool.true_and]
      go_enter Try.func13, Try.ntmps13
      go_wp2_with (go_at_call 12; fail)
      rw [← E1.out]
      refine (HLi.out _).mono ?_
      rintro e w3 ⟨rfl, hb3⟩
      have HB3 := Lib.hid hb3
      clear hb3
      go_upto_region 2 with fail
      refine wp_region_held_drew (S := fun W => Below w1.heap.size w1 W) (by kernel_rfl) (HB3.out.trans ((Below.drewN' w3 1).mono HB3.out.size)) (fun hHeld => ?_)
      generalize w3.drew = wd at hHeld ⊢
      refine' wpAnyH_take (i := 1) (oi := { dst := some 12, op := Op.fieldAddr 25 (Operand.tmp 1) 0, type := 0, pos := "field.go:81", after := #[], guard := none }) (v := ?v106001) rfl (by kernel_rfl) (by kernel_rfl) (by kernel_rfl) (fun _ _ _ h => h) (.inl ⟨by first | rfl | simp [Region.wanted, yielded], ?hy106001⟩) (by assumption) ?rest106001
      case hy106001 => (intro W hW; obtain ⟨⟨f1, f2, f3⟩, f4⟩ := HCP.out _ hW; go_simp; try with_reducible rfl)
      simp only [Act.put, List.setIfInBounds_toArray, List.set_cons_zero, List.set_cons_succ]
      refine' wpAnyH_take (i := 2) (oi := { dst := some 13, op := Op.load 23 (Operand.tmp 12), type := 23, pos := "field.go:81", after := #[{ on := 1, ground := Ground.data }], guard := none }) (v := ?v106002) rfl (by kernel_rfl) (by kernel_rfl) (by kernel_rfl) (fun _ _ _ h => h) (.inl ⟨by first | rfl | simp [Region.wanted, yielded], ?hy106002⟩) (by assumption) ?rest106002
      case hy106002 => (intro W hW; obtain ⟨⟨f1, f2, f3⟩, f4⟩ := HCP.out _ hW; go_simp; try with_reducible rfl)
      simp only [Act.put, List.setIfInBounds_toArray, List.set_cons_zero, List.set_cons_succ]
      refine wpAnyH_ready (rs := [0]) (by kernel_rfl) (by simp) ?_
      refine AllReadyH.cons (o := { dst := some 11, op := Op.call { callee := Callee.value (Operand.func 28), args := #[], argTypes := #[] }, type := 60, pos := "field.go:81", after := #[], guard := none }) rfl (fun K hK => ?_) (AllReadyH.nil)
      try simp only [List.getElem_toArray, List.getElem_cons_succ, List.getElem_cons_zero]
      go_simp
      obtain ⟨M, hM⟩ : ∃ M, M = wd.heap.size := ⟨_, rfl⟩
      refine (asks_any wd).mono ?_
      rintro e w5 ⟨rfl, hw5⟩
      have hb5 : Below wd.heap.size wd w5 := by rw [hw5]; exact (Below.refl _ wd).alloc (Nat.le_refl _) _
      have hm5 : w5.heap[M]? = some (.map asksE 2) := by rw [hw5, hM]; exact (MapKept.heap_alloc wd _).1
      have HB5 := hHeld.trans (hb5.mono hHeld.size)
      rw [← hM]
      clear hM hw5
      refine hK.out _ _ HB5 (fun hHeld => ?_)
      clear hK K
      try simp only [Act.put, List.setIfInBounds_toArray, List.set_cons_zero, List.set_cons_succ]
      refine wpAnyH_ready (rs := [3]) (by kernel_rfl) (by simp) ?_
      refine AllReadyH.cons (o := { dst := some 14, op := Op.call { callee := Callee.value (Operand.func 27), args := #[Operand.tmp 11, Operand.tmp 13, Operand.func 29], argTypes := #[60, 23, 36] }, type := 36, pos := "field.go:81", after := #[{ on := 0, ground := Ground.data }, { on := 2, ground := Ground.data }, { on := 0, ground := Ground.chain }], guard := none }) rfl (fun K hK => ?_) (AllReadyH.nil)
      try simp only [List.getElem_toArray, List.getElem_cons_succ, List.getElem_cons_zero]
      go_simp
      refine (HKn.out _ _ hm5).mono ?_
      rintro e w6 ⟨rfl, rfl⟩
      refine hK.out _ _ hHeld (fun hHeld => ?_)
      clear hK K
      try simp only [Act.put, List.setIfInBounds_toArray, List.set_cons_zero, List.set_cons_succ]
      refine' wpAnyH_take (i := 4) (oi := { dst := some 5, op := Op.assign (Operand.tmp 14), type := 36, pos := "field.go:81", after := #[{ on := 3, ground := Ground.data }, { on := 3, ground := Ground.chain }, { on := 0, ground := Ground.phase }, { on := 1, ground := Ground.phase }, { on := 2, ground := Ground.phase }, { on := 3, ground := Ground.phase }], guard := none }) (v := ?v106003) rfl (by kernel_rfl) (by kernel_rfl) (by kernel_rfl) (fun _ _ _ h => h) (.inl ⟨by first | rfl | simp [Region.wanted, yielded], ?hy106003⟩) (by assumption) ?rest106003
      case hy106003 => (intro W hW; obtain ⟨⟨f1, f2, f3⟩, f4⟩ := HCP.out _ hW; go_simp; try with_reducible rfl)
      simp only [Act.put, List.setIfInBounds_toArray, List.set_cons_zero, List.set_cons_succ]
      refine wpAnyH_done (by kernel_rfl) ?_ _
      obtain ⟨⟨f1, f2, f3⟩, f4⟩ := HCP.out _ hHeld
      have HBz := Lib.hid (B1.out.trans (hHeld.mono B1.out.size))
      go_wp2_with (go_at_call 29; fail)
      refine (ask29 _ _).mono ?_
      rintro e w9 ⟨rfl, hb9⟩
      have HB9 := Lib.hid (HBz.out.trans (hb9.mono HBz.out.size))
      clear hb9
      go_wp2
      go_ret
      exact ⟨rfl, HB9.out⟩
    | false =>
      obtain rfl := her2.2 rfl
      clear her2
      rw [Bool.false_and]
      go_enter Try.func13, Try.ntmps13
      go_wp2_with (go_at_call 12; fail)
      rw [← E1.out]
      refine (HLi.out _).mono ?_
      rintro e w3 ⟨rfl, hb3⟩
      have HB3 := Lib.hid hb3
      clear hb3
      go_upto_region 2 with fail
      refine wp_region_held_drew (S := fun W => Below w1.heap.size w1 W) (by kernel_rfl) (HB3.out.trans ((Below.drewN' w3 1).mono HB3.out.size)) (fun hHeld => ?_)
      generalize w3.drew = wd at hHeld ⊢
      refine' wpAnyH_take (i := 1) (oi := { dst := some 12, op := Op.fieldAddr 25 (Operand.tmp 1) 0, type := 0, pos := "field.go:81", after := #[], guard := none }) (v := ?v107001) rfl (by kernel_rfl) (by kernel_rfl) (by kernel_rfl) (fun _ _ _ h => h) (.inl ⟨by first | rfl | simp [Region.wanted, yielded], ?hy107001⟩) (by assumption) ?rest107001
      case hy107001 => (intro W hW; obtain ⟨⟨f1, f2, f3⟩, f4⟩ := HCP.out _ hW; go_simp; try with_reducible rfl)
      simp only [Act.put, List.setIfInBounds_toArray, List.set_cons_zero, List.set_cons_succ]
      refine' wpAnyH_take (i := 2) (oi := { dst := some 13, op := Op.load 23 (Operand.tmp 12), type := 23, pos := "field.go:81", after := #[{ on := 1, ground := Ground.data }], guard := none }) (v := ?v107002) rfl (by kernel_rfl) (by kernel_rfl) (by kernel_rfl) (fun _ _ _ h => h) (.inl ⟨by first | rfl | simp [Region.wanted, yielded], ?hy107002⟩) (by assumption) ?rest107002
      case hy107002 => (intro W hW; obtain ⟨⟨f1, f2, f3⟩, f4⟩ := HCP.out _ hW; go_simp; try with_reducible rfl)
      simp only [Act.put, List.setIfInBounds_toArray, List.set_cons_zero, List.set_cons_succ]
      refine wpAnyH_ready (rs := [0]) (by kernel_rfl) (by simp) ?_
      refine AllReadyH.cons (o := { dst := some 11, op := Op.call { callee := Callee.value (Operand.func 28), args := #[], argTypes := #[] }, type := 60, pos := "field.go:81", after := #[], guard := none }) rfl (fun K hK => ?_) (AllReadyH.nil)
      try simp only [List.getElem_toArray, List.getElem_cons_succ, List.getElem_cons_zero]
      go_simp
      obtain ⟨M, hM⟩ : ∃ M, M = wd.heap.size := ⟨_, rfl⟩
      refine (asks_any wd).mono ?_
      rintro e w5 ⟨rfl, hw5⟩
      have hb5 : Below wd.heap.size wd w5 := by rw [hw5]; exact (Below.refl _ wd).alloc (Nat.le_refl _) _
      have hm5 : w5.heap[M]? = some (.map asksE 2) := by rw [hw5, hM]; exact (MapKept.heap_alloc wd _).1
      have HB5 := hHeld.trans (hb5.mono hHeld.size)
      rw [← hM]
      clear hM hw5
      refine hK.out _ _ HB5 (fun hHeld => ?_)
      clear hK K
      try simp only [Act.put, List.setIfInBounds_toArray, List.set_cons_zero, List.set_cons_succ]
      refine wpAnyH_ready (rs := [3]) (by kernel_rfl) (by simp) ?_
      refine AllReadyH.cons (o := { dst := some 14, op := Op.call { callee := Callee.value (Operand.func 27), args := #[Operand.tmp 11, Operand.tmp 13, Operand.func 29], argTypes := #[60, 23, 36] }, type := 36, pos := "field.go:81", after := #[{ on := 0, ground := Ground.data }, { on := 2, ground := Ground.data }, { on := 0, ground := Ground.chain }], guard := none }) rfl (fun K hK => ?_) (AllReadyH.nil)
      try simp only [List.getElem_toArray, List.getElem_cons_succ, List.getElem_cons_zero]
      go_simp
      refine (HKn.out _ _ hm5).mono ?_
      rintro e w6 ⟨rfl, rfl⟩
      refine hK.out _ _ hHeld (fun hHeld => ?_)
      clear hK K
      try simp only [Act.put, List.setIfInBounds_toArray, List.set_cons_zero, List.set_cons_succ]
      refine' wpAnyH_take (i := 4) (oi := { dst := some 5, op := Op.assign (Operand.tmp 14), type := 36, pos := "field.go:81", after := #[{ on := 3, ground := Ground.data }, { on := 3, ground := Ground.chain }, { on := 0, ground := Ground.phase }, { on := 1, ground := Ground.phase }, { on := 2, ground := Ground.phase }, { on := 3, ground := Ground.phase }], guard := none }) (v := ?v107003) rfl (by kernel_rfl) (by kernel_rfl) (by kernel_rfl) (fun _ _ _ h => h) (.inl ⟨by first | rfl | simp [Region.wanted, yielded], ?hy107003⟩) (by assumption) ?rest107003
      case hy107003 => (intro W hW; obtain ⟨⟨f1, f2, f3⟩, f4⟩ := HCP.out _ hW; go_simp; try with_reducible rfl)
      simp only [Act.put, List.setIfInBounds_toArray, List.set_cons_zero, List.set_cons_succ]
      refine wpAnyH_done (by kernel_rfl) ?_ _
      obtain ⟨⟨f1, f2, f3⟩, f4⟩ := HCP.out _ hHeld
      have HBz := Lib.hid (B1.out.trans (hHeld.mono B1.out.size))
      go_wp2
      go_ret
      exact ⟨rfl, HBz.out⟩
end Go.Proofs.Ytfnojmkiajdoaaa
