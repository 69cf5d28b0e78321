/-
  What is told of none.
-/
import Derived.Test.YtnmbhcekcdicnaaSm
import Derived.Test.YtnmbhcekcdicnaaSb
namespace Go.Proofs.Ytnmbhcekcdicnaa
open Go.RowKit
set_option linter.unusedVariables false
set_option linter.unusedSimpArgs false
attribute [local go_sem] eql54

/-- None: no pointer, or what was never made. -/
structure NilT (v : Value) (W : World) : Prop where
  ex : v = .pointer none ∨ ∃ p, v = .pointer (some ⟨p, 0, none⟩) ∧ W.heap[p]? = some (.cells #[.slice none 0 0, .map none, .int .i64 0] 56 (0, 0))
section
variable {v : Value} {W W' : World}
theorem NilT.below (h : NilT v W) (hb : Below W.heap.size W W') : NilT v W' := by
  rcases h.ex with rfl | ⟨p, rfl, hp⟩
  · exact ⟨.inl rfl⟩
  · exact ⟨.inr ⟨p, rfl, (hb.block p (blk_lt hp)).trans hp⟩⟩
theorem NilT.is (h : NilT v W) : Calls Try.prog 30 #[v] W fun e w' => e = .returned (.bool true) ∧ W = w' := by
  rcases h.ex with rfl | ⟨p, rfl, hp⟩
  · exact none_nil W
  · have c1 := cell_blk hp 1 _ rfl
    have lp := blk_lt hp
    clear h hp
    go_enter Try.func30, Try.ntmps30
    go_wp2
    go_ret
    exact ⟨rfl, rfl⟩
theorem NilT.length (h : NilT v W) : Calls Try.prog 23 #[v] W fun e w' => e = .returned (.int .i64 0) ∧ W = w' := by
  have HN := Lib.hid h.is
  clear h
  go_enter Try.func23, Try.ntmps23
  go_wp2_with (go_at_call 30; refine HN.out.mono ?_; rintro e w' ⟨rfl, rfl⟩)
  go_ret
  exact ⟨rfl, rfl⟩
theorem NilT.copy (h : NilT v W) : Calls Try.prog 14 #[v] W fun e w' => e = .returned (.pointer none) ∧ W = w' := by
  have HN := Lib.hid h.is
  clear h
  go_enter Try.func14, Try.ntmps14
  go_wp2_with (go_at_call 30; refine HN.out.mono ?_; rintro e w' ⟨rfl, rfl⟩)
  go_ret
  exact ⟨rfl, rfl⟩
theorem NilT.due (h : NilT v W) (k i : Int) : Calls Try.prog 20 #[v, .agg #[.int .i64 k, .int .u64 i]] W fun e w' => e = .returned (.tuple #[.int .u64 0, .bool false]) ∧ Below W.heap.size W w' := by
  obtain ⟨u, hu⟩ : ∃ X, X = W.alloc (.cells #[.int .i64 k, .int .u64 i] 26) := ⟨_, rfl⟩
  obtain ⟨X, hX⟩ : ∃ X, X = W.heap.size := ⟨_, rfl⟩
  have b1 : Below W.heap.size W u := by rw [hu]; exact (Below.refl _ W).alloc (Nat.le_refl _) _
  have HN := Lib.hid (h.below b1).is
  have EU := Lib.hid hu
  have EX := Lib.hid hX
  have B1 := Lib.hid b1
  clear h hu hX b1
  go_enter Try.func20, Try.ntmps20
  go_wp2_with (go_at_call 30; fail)
  rw [← EU.out]
  try rw [← EX.out]
  refine HN.out.mono ?_
  rintro e w' ⟨rfl, rfl⟩
  go_wp2_with fail
  go_ret2
  exact ⟨rfl, B1.out⟩
theorem NilT.stop (h : NilT v W) (k i : Int) : Calls Try.prog 19 #[v, .agg #[.int .i64 k, .int .u64 i]] W fun e w' => e = .returned (.tuple #[.int .u64 0, .bool false]) ∧ Below W.heap.size W w' := by
  obtain ⟨u, hu⟩ : ∃ X, X = W.alloc (.cells #[.int .i64 k, .int .u64 i] 26) := ⟨_, rfl⟩
  obtain ⟨X, hX⟩ : ∃ X, X = W.heap.size := ⟨_, rfl⟩
  have b1 : Below W.heap.size W u := by rw [hu]; exact (Below.refl _ W).alloc (Nat.le_refl _) _
  have kk : u.heap[X]? = some (.cells #[.int .i64 k, .int .u64 i] 26 (0, 0)) := by rw [hu, hX]; exact alloc_blk_new _ _
  have HD := Lib.hid ((h.below b1).due k i)
  have x0 := cell_blk kk 0 _ rfl
  have x1 := cell_blk kk 1 _ rfl
  have lx := blk_lt kk
  have EU := Lib.hid hu
  have EX := Lib.hid hX
  have B1 := Lib.hid b1
  clear h hu hX b1 kk
  go_enter Try.func19, Try.ntmps19
  go_wp2_with (go_at_call 20; fail)
  rw [← EU.out, ← EX.out]
  refine HD.out.mono ?_
  rintro e w2 ⟨rfl, hb2⟩
  have HB := Lib.hid (B1.out.trans (hb2.mono B1.out.size))
  clear hb2
  go_wp2
  go_ret2
  exact ⟨rfl, HB.out⟩
set_option maxHeartbeats 3200000 in
theorem NilT.set (h : NilT v W) (k i d : Int) : Calls Try.prog 18 #[v, .agg #[.int .i64 k, .int .u64 i], .int .u64 d] W fun e w' => e = .returned (.tuple #[.int .u64 0, .bool false, .int .i64 1]) ∧ Below W.heap.size W w' := by
  obtain ⟨u, hu⟩ : ∃ X, X = W.alloc (.cells #[.int .i64 k, .int .u64 i] 26) := ⟨_, rfl⟩
  obtain ⟨X, hX⟩ : ∃ X, X = W.heap.size := ⟨_, rfl⟩
  have b1 : Below W.heap.size W u := by rw [hu]; exact (Below.refl _ W).alloc (Nat.le_refl _) _
  have HN := Lib.hid (h.below b1).is
  have EU := Lib.hid hu
  have EX := Lib.hid hX
  have B1 := Lib.hid b1
  clear h hu hX b1
  go_enter Try.func18, Try.ntmps18
  go_wp2_with fail
  refine wp_scope_fwd 0 rfl ?_
  go_wp2_with (go_at_call 30; fail)
  rw [← EU.out]
  try rw [← EX.out]
  refine HN.out.mono ?_
  rintro e w' ⟨rfl, rfl⟩
  go_wp2
  refine wp_goto ?_
  refine ⟨rfl, ?_⟩
  go_wp2
  try rw [Exit.noGoto_ret]
  refine bodyPost_ret (v := .tuple #[.int .u64 0, .bool false, .int .i64 1]) (by simp [results, Try.f18, go_sem]) rfl ⟨rfl, ?_⟩
  exact B1.out
set_option maxHeartbeats 3200000 in
theorem NilT.ahead (h : NilT v W) : Calls Try.prog 39 #[v] W fun e w' => e = .returned (.tuple #[.agg #[.int .i64 0, .int .u64 0, .int .u64 0], .bool false]) ∧ Below W.heap.size W w' := by
  obtain ⟨u, hu⟩ : ∃ X, X = W.alloc (.cells #[.int .i64 0, .int .u64 0, .int .u64 0] 80) := ⟨_, rfl⟩
  obtain ⟨X, hX⟩ : ∃ X, X = W.heap.size := ⟨_, rfl⟩
  have b1 : Below W.heap.size W u := by rw [hu]; exact (Below.refl _ W).alloc (Nat.le_refl _) _
  have kk : u.heap[X]? = some (.cells #[.int .i64 0, .int .u64 0, .int .u64 0] 80 (0, 0)) := by rw [hu, hX]; exact alloc_blk_new _ _
  have HN := Lib.hid (h.below b1).is
  have EU := Lib.hid hu
  have B1 := Lib.hid b1
  have KK := Lib.hid kk
  have EX := Lib.hid hX
  have d0 := cell_blk kk 0 _ rfl
  have d1 := cell_blk kk 1 _ rfl
  have d2 := cell_blk kk 2 _ rfl
  have f0 := frozen_blk kk 0
  have f1 := frozen_blk kk 1
  have f2 := frozen_blk kk 2
  have lx := blk_lt kk
  clear h hu b1 kk hX
  go_enter Try.func39, Try.ntmps39
  go_wp2_with (go_at_call 30; fail)
  rw [← EU.out, ← EX.out]
  refine HN.out.mono ?_
  rintro e w' ⟨rfl, rfl⟩
  go_wp2
  have hXW : W.heap.size ≤ X := by rw [EX.out]; exact Nat.le_refl _
  have hk3 := setCell_blk (setCell_blk (setCell_blk KK.out 0 (.int .i64 0)) 1 (.int .u64 0)) 2 (.int .u64 0)
  have g0 := cell_blk hk3 0 (.int .i64 0) rfl
  have g1 := cell_blk hk3 1 (.int .u64 0) rfl
  have g2 := cell_blk hk3 2 (.int .u64 0) rfl
  refine bodyPost_ret (v := .tuple #[.agg #[.int .i64 0, .int .u64 0, .int .u64 0], .bool false]) (by simp [results, Try.f39, go_sem, g0, g1, g2]) rfl ⟨rfl, ?_⟩
  exact ((B1.out.setCell (p := ⟨X, 0, none⟩) hXW _).setCell (p := ⟨X, 1, none⟩) hXW _).setCell (p := ⟨X, 2, none⟩) hXW _
theorem NilT.next (h : NilT v W) : Calls Try.prog 22 #[v] W fun e w' => e = .returned (.tuple #[.int .u64 0, .bool false]) ∧ Below W.heap.size W w' := by
  have HA := Lib.hid h.ahead
  clear h
  go_enter Try.func22, Try.ntmps22
  go_wp2_with (go_at_call 39; fail)
  refine HA.out.mono ?_
  rintro e w2 ⟨rfl, hb2⟩
  have HB := Lib.hid (hb2.alloc hb2.size (.cells #[.int .i64 0, .int .u64 0, .int .u64 0] 80))
  clear hb2
  go_wp2
  go_ret2
  exact ⟨rfl, HB.out⟩
set_option maxHeartbeats 3200000 in
set_option maxRecDepth 100000 in
theorem NilT.pop (h : NilT v W) (now : Int) :
    Calls Try.prog 21 #[v, .int .u64 now] W fun e w' => e = .returned (.tuple #[.agg #[.int .i64 0, .int .u64 0], .int .u64 0, .bool false]) ∧ Below W.heap.size W w' := by
  obtain ⟨u, hu⟩ : ∃ Y, Y = W.alloc (.cells #[.int .i64 0, .int .u64 0] 26) := ⟨_, rfl⟩
  obtain ⟨X, hX⟩ : ∃ Y, Y = W.heap.size := ⟨_, rfl⟩
  have b1 : Below W.heap.size W u := by rw [hu]; exact (Below.refl _ W).alloc (Nat.le_refl _) _
  have kk : u.heap[X]? = some (.cells #[.int .i64 0, .int .u64 0] 26 (0, 0)) := by rw [hu, hX]; exact alloc_blk_new _ _
  have HA0 := (h.below b1).ahead
  obtain ⟨rk, hrk⟩ : ∃ x : Int, x = 0 := ⟨_, rfl⟩
  obtain ⟨ri, hri⟩ : ∃ x : Int, x = 0 := ⟨_, rfl⟩
  obtain ⟨rd, hrd⟩ : ∃ x : Int, x = 0 := ⟨_, rfl⟩
  have HA := Lib.hid HA0
  have KX := Lib.hid kk
  have EU := Lib.hid hu
  have EX := Lib.hid hX
  have B1 := Lib.hid b1
  have H := Lib.hid h
  clear h hu hX b1 kk HA0
  go_enter Try.func21, Try.ntmps21
  go_wp2_with (go_at_call 39; fail)
  rw [← EU.out, ← EX.out]
  refine HA.out.mono ?_
  rintro e v1 ⟨rfl, hb⟩
  have HB := Lib.hid hb
  clear hb
  go_upto_region 2 with fail
  obtain ⟨u2, hu2⟩ : ∃ Y, Y = v1.alloc (.cells #[.int .i64 0, .int .u64 0, .int .u64 0] 80) := ⟨_, rfl⟩
  obtain ⟨Y, hY⟩ : ∃ Y, Y = v1.heap.size := ⟨_, rfl⟩
  rw [← hu2, ← hY]
  have b2 : Below v1.heap.size v1 u2 := by rw [hu2]; exact (Below.refl _ v1).alloc (Nat.le_refl _) _
  have ky : u2.heap[Y]? = some (.cells #[.int .i64 0, .int .u64 0, .int .u64 0] 80 (0, 0)) := by rw [hu2, hY]; exact alloc_blk_new _ _
  have kx := (b2.block _ (Nat.lt_of_lt_of_le (blk_lt KX.out) HB.out.size)).trans ((HB.out.block _ (blk_lt KX.out)).trans KX.out)
  have KX2 := Lib.hid kx
  have KY := Lib.hid ky
  have EY := Lib.hid hY
  have B2 := Lib.hid (B1.out.trans ((HB.out.trans (b2.mono HB.out.size)).mono B1.out.size))
  have x0 := cell_blk kx 0 _ rfl
  have x1 := cell_blk kx 1 _ rfl
  have lx := blk_lt kx
  have y0 := cell_blk ky 0 _ rfl
  have y1 := cell_blk ky 1 _ rfl
  have y2 := cell_blk ky 2 _ rfl
  have ly := blk_lt ky
  have fx0 := frozen_blk kx 0
  have fx1 := frozen_blk kx 1
  clear hu2 hY b2 ky kx
  go_wp2
  have hk3 := setCell_blk (setCell_blk KX2.out 0 (.int .i64 0)) 1 (.int .u64 0)
  have g0 := cell_blk hk3 0 (.int .i64 0) rfl
  have g1 := cell_blk hk3 1 (.int .u64 0) rfl
  refine bodyPost_ret (v := .tuple #[.agg #[.int .i64 0, .int .u64 0], .int .u64 0, .bool false]) (by simp [results, Try.f21, go_sem, g0, g1]) rfl ⟨rfl, ?_⟩
  have hXW : W.heap.size ≤ X := by rw [EX.out]; exact Nat.le_refl _
  exact (B2.out.setCell (p := ⟨X, 0, none⟩) hXW _).setCell (p := ⟨X, 1, none⟩) hXW _
/-- Nothing to go over. -/
theorem NilT.all (h : NilT v W) : Calls Try.prog 12 #[v] W fun e w' => ∃ B, e = .returned (.func (.func 32) #[] #[.pointer (some ⟨B, 0, none⟩)]) ∧ W.heap.size ≤ B ∧ w'.heap[B]? = some (.cells #[.slice none 0 0] 53 (0, 0)) ∧ Below W.heap.size W w' := by
  obtain ⟨u, hu⟩ : ∃ X, X = W.alloc (.cells #[.slice none 0 0] 53) := ⟨_, rfl⟩
  obtain ⟨X, hX⟩ : ∃ X, X = W.heap.size := ⟨_, rfl⟩
  have b1 : Below W.heap.size W u := by rw [hu]; exact (Below.refl _ W).alloc (Nat.le_refl _) _
  have kk : u.heap[X]? = some (.cells #[.slice none 0 0] 53 (0, 0)) := by rw [hu, hX]; exact alloc_blk_new _ _
  have HN := Lib.hid (h.below b1).is
  have EU := Lib.hid hu
  have B1 := Lib.hid b1
  have KK := Lib.hid kk
  have EX := Lib.hid hX
  clear h hu b1 kk hX
  go_enter Try.func12, Try.ntmps12
  go_wp2_with (go_at_call 30; fail)
  rw [← EU.out]
  try rw [← EX.out]
  refine HN.out.mono ?_
  rintro e w' ⟨rfl, rfl⟩
  go_wp2
  go_ret
  exact ⟨X, rfl, by rw [EX.out]; exact Nat.le_refl _, KK.out, B1.out⟩
/-- None is none. -/
theorem NilT.same (h : NilT v W) : Calls Try.prog 17 #[v, .pointer none] W fun e w' => e = .returned (.bool true) ∧ W = w' := by
  have HN := Lib.hid h.is
  have HZ := Lib.hid (none_nil W)
  clear h
  go_enter Try.func17, Try.ntmps17
  go_wp2_with (go_at_call 30; fail)
  refine HN.out.mono ?_
  rintro e w' ⟨rfl, rfl⟩
  go_wp2_with (go_at_call 30; fail)
  refine HN.out.mono ?_
  rintro e w' ⟨rfl, rfl⟩
  go_wp2_with (go_at_call 30; fail)
  refine HZ.out.mono ?_
  rintro e w' ⟨rfl, rfl⟩
  go_wp2_with fail
  go_ret
  exact ⟨rfl, rfl⟩
/-- Some are not none. -/
theorem TS.not_none {K : Nat → Prop} {p : Nat} {most : Int} {l : List Rw} (g : TS K p most l W) (h : NilT v W) : Calls Try.prog 17 #[.pointer (some ⟨p, 0, none⟩), v] W fun e w' => e = .returned (.bool false) ∧ W = w' := by
  have HN := Lib.hid h.is
  have HT := Lib.hid g.isT
  clear h g
  go_enter Try.func17, Try.ntmps17
  go_wp2_with (go_at_call 30; fail)
  refine HT.out.mono ?_
  rintro e w' ⟨rfl, rfl⟩
  go_wp2_with (go_at_call 30; fail)
  refine HN.out.mono ?_
  rintro e w' ⟨rfl, rfl⟩
  go_wp2_with (go_at_call 30; fail)
  refine HT.out.mono ?_
  rintro e w' ⟨rfl, rfl⟩
  go_wp2_with fail
  go_ret
  exact ⟨rfl, rfl⟩
end
end Go.Proofs.Ytnmbhcekcdicnaa
