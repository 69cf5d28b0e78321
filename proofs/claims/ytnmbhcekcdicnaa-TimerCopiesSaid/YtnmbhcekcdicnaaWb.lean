/-
  works is true.
-/
import Derived.Test.YtnmbhcekcdicnaaWa
namespace Go.Proofs.Ytnmbhcekcdicnaa
open Go.RowKit
set_option linter.unusedVariables false
set_option linter.unusedSimpArgs false

theorem tm1 : tmEq 1 2 1 2 = true := by decide
theorem tm2 : tmEq 2 7 2 7 = true := by decide
attribute [local go_sem high] eql26 tm1 tm2
set_option maxHeartbeats 6400000 in
set_option maxRecDepth 100000 in
theorem works_true (w : World) : Calls Try.prog 8 #[] w fun e w' => e = .returned (.bool true) ∧ Below w.heap.size w w' := by
  have HNum := Lib.hid num13
  have HOf := Lib.hid of24
  go_enter Try.func8, Try.ntmps8
  go_wp2_with fail
  refine (TB.new w 3 (by omega) (by omega)).mono ?_
  rintro e w1 ⟨p, rfl, h1⟩
  have T1 := Lib.hid h1
  clear h1
  unfold tmV at HOf
  go_wp2_with (go_at_call 24; fail)
  refine (HOf.out 3 1 _).mono ?_
  rintro e w2 ⟨rfl, hb⟩
  have T2 := Lib.hid (T1.out.below hb)
  clear hb T1
  go_wp2_with (go_at_call 24; fail)
  refine (HOf.out 2 7 _).mono ?_
  rintro e w3 ⟨rfl, hb⟩
  have T3 := Lib.hid (T2.out.below hb)
  clear hb T2
  go_wp2_with (go_at_call 24; fail)
  refine (HOf.out 1 2 _).mono ?_
  rintro e w4 ⟨rfl, hb⟩
  have T4 := Lib.hid (T3.out.below hb)
  clear hb T3
  go_wp2_with (go_at_call 18; fail)
  obtain ⟨w5, hu⟩ : ∃ Y, Y = w4.alloc (.cells #[.int .i64 3, .int .u64 1] 26) := ⟨_, rfl⟩
  obtain ⟨X, hX⟩ : ∃ Y, Y = w4.heap.size := ⟨_, rfl⟩
  have hz : w5.heap.size = X + 1 := by rw [hu, hX]; simp
  have hT := T4.out.box 3 1
  rw [← hu, ← hX] at hT
  rw [← hu, ← hX]
  try rw [← hz]
  have T5 := Lib.hid hT
  clear hT hu hX hz T4
  obtain ⟨w6, hu⟩ : ∃ Y, Y = w5.alloc (.cells #[.int .i64 2, .int .u64 7] 26) := ⟨_, rfl⟩
  obtain ⟨Y, hX⟩ : ∃ Y, Y = w5.heap.size := ⟨_, rfl⟩
  have hz : w6.heap.size = Y + 1 := by rw [hu, hX]; simp
  have hT := T5.out.box 2 7
  rw [← hu, ← hX] at hT
  rw [← hu, ← hX]
  try rw [← hz]
  have T6 := Lib.hid hT
  clear hT hu hX hz T5
  obtain ⟨w7, hu⟩ : ∃ Y, Y = w6.alloc (.cells #[.int .i64 1, .int .u64 2] 26) := ⟨_, rfl⟩
  obtain ⟨Z, hX⟩ : ∃ Y, Y = w6.heap.size := ⟨_, rfl⟩
  have hz : w7.heap.size = Z + 1 := by rw [hu, hX]; simp
  have hT := T6.out.box 1 2
  rw [← hu, ← hX] at hT
  rw [← hu, ← hX]
  try rw [← hz]
  have T7 := Lib.hid hT
  clear hT hu hX hz T6
  have bZ : w7.heap[Z]? = some (.cells #[.int .i64 1, .int .u64 2] 26 (0, 0)) := T7.out.at (x := (Z, 1, 2)) (by simp)
  have cZ0 := cell_blk bZ 0 _ rfl
  have cZ1 := cell_blk bZ 1 _ rfl
  have lZ := blk_lt bZ
  clear bZ
  have bY : w7.heap[Y]? = some (.cells #[.int .i64 2, .int .u64 7] 26 (0, 0)) := T7.out.at (x := (Y, 2, 7)) (by simp)
  have cY0 := cell_blk bY 0 _ rfl
  have cY1 := cell_blk bY 1 _ rfl
  have lY := blk_lt bY
  clear bY
  have bX : w7.heap[X]? = some (.cells #[.int .i64 3, .int .u64 1] 26 (0, 0)) := T7.out.at (x := (X, 3, 1)) (by simp)
  have cX0 := cell_blk bX 0 _ rfl
  have cX1 := cell_blk bX 1 _ rfl
  have lX := blk_lt bX
  clear bX
  go_wp2_with (go_at_call 18; fail)
  have hc : ∀ K, TS K p 3 [] w7 → Calls Try.prog 18 #[.pointer (some ⟨p, 0, none⟩), .agg #[.int .i64 3, .int .u64 1], .int .u64 9] w7 fun e w' => e = .returned (.tuple #[.int .u64 0, .bool false, .int .i64 0]) ∧ Turned K p 3 [⟨3, 1, 9⟩] w7 w' := fun K h => by
    have q := h.set_ok (k := 3) (i := 1) (d := 9) (by decide) (by omega) (by omega) (by omega) (by omega) (by decide)
    rw [show ins (wo [] 3 1) ⟨3, 1, 9⟩ = [⟨3, 1, 9⟩] by decide, show dueOf [] 3 1 = none by decide] at q
    unfold tmV at q
    exact q
  refine (T7.out.turn hc).mono ?_
  rintro e w8 ⟨rfl, hT⟩
  have T8 := Lib.hid hT
  clear hT hc T7
  clear cZ0 cZ1 lZ cY0 cY1 lY cX0 cX1 lX
  have bZ : w8.heap[Z]? = some (.cells #[.int .i64 1, .int .u64 2] 26 (0, 0)) := T8.out.at (x := (Z, 1, 2)) (by simp)
  have cZ0 := cell_blk bZ 0 _ rfl
  have cZ1 := cell_blk bZ 1 _ rfl
  have lZ := blk_lt bZ
  clear bZ
  have bY : w8.heap[Y]? = some (.cells #[.int .i64 2, .int .u64 7] 26 (0, 0)) := T8.out.at (x := (Y, 2, 7)) (by simp)
  have cY0 := cell_blk bY 0 _ rfl
  have cY1 := cell_blk bY 1 _ rfl
  have lY := blk_lt bY
  clear bY
  have bX : w8.heap[X]? = some (.cells #[.int .i64 3, .int .u64 1] 26 (0, 0)) := T8.out.at (x := (X, 3, 1)) (by simp)
  have cX0 := cell_blk bX 0 _ rfl
  have cX1 := cell_blk bX 1 _ rfl
  have lX := blk_lt bX
  clear bX
  go_wp2_with (go_at_call 18; fail)
  have hc : ∀ K, TS K p 3 [⟨3, 1, 9⟩] w8 → Calls Try.prog 18 #[.pointer (some ⟨p, 0, none⟩), .agg #[.int .i64 2, .int .u64 7], .int .u64 5] w8 fun e w' => e = .returned (.tuple #[.int .u64 0, .bool false, .int .i64 0]) ∧ Turned K p 3 [⟨2, 7, 5⟩, ⟨3, 1, 9⟩] w8 w' := fun K h => by
    have q := h.set_ok (k := 2) (i := 7) (d := 5) (by decide) (by omega) (by omega) (by omega) (by omega) (by decide)
    rw [show ins (wo [⟨3, 1, 9⟩] 2 7) ⟨2, 7, 5⟩ = [⟨2, 7, 5⟩, ⟨3, 1, 9⟩] by decide, show dueOf [⟨3, 1, 9⟩] 2 7 = none by decide] at q
    unfold tmV at q
    exact q
  refine (T8.out.turn hc).mono ?_
  rintro e w9 ⟨rfl, hT⟩
  have T9 := Lib.hid hT
  clear hT hc T8
  clear cZ0 cZ1 lZ cY0 cY1 lY cX0 cX1 lX
  have bZ : w9.heap[Z]? = some (.cells #[.int .i64 1, .int .u64 2] 26 (0, 0)) := T9.out.at (x := (Z, 1, 2)) (by simp)
  have cZ0 := cell_blk bZ 0 _ rfl
  have cZ1 := cell_blk bZ 1 _ rfl
  have lZ := blk_lt bZ
  clear bZ
  have bY : w9.heap[Y]? = some (.cells #[.int .i64 2, .int .u64 7] 26 (0, 0)) := T9.out.at (x := (Y, 2, 7)) (by simp)
  have cY0 := cell_blk bY 0 _ rfl
  have cY1 := cell_blk bY 1 _ rfl
  have lY := blk_lt bY
  clear bY
  have bX : w9.heap[X]? = some (.cells #[.int .i64 3, .int .u64 1] 26 (0, 0)) := T9.out.at (x := (X, 3, 1)) (by simp)
  have cX0 := cell_blk bX 0 _ rfl
  have cX1 := cell_blk bX 1 _ rfl
  have lX := blk_lt bX
  clear bX
  go_wp2_with (go_at_call 18; fail)
  have hc : ∀ K, TS K p 3 [⟨2, 7, 5⟩, ⟨3, 1, 9⟩] w9 → Calls Try.prog 18 #[.pointer (some ⟨p, 0, none⟩), .agg #[.int .i64 1, .int .u64 2], .int .u64 5] w9 fun e w' => e = .returned (.tuple #[.int .u64 0, .bool false, .int .i64 0]) ∧ Turned K p 3 [⟨1, 2, 5⟩, ⟨2, 7, 5⟩, ⟨3, 1, 9⟩] w9 w' := fun K h => by
    have q := h.set_ok (k := 1) (i := 2) (d := 5) (by decide) (by omega) (by omega) (by omega) (by omega) (by decide)
    rw [show ins (wo [⟨2, 7, 5⟩, ⟨3, 1, 9⟩] 1 2) ⟨1, 2, 5⟩ = [⟨1, 2, 5⟩, ⟨2, 7, 5⟩, ⟨3, 1, 9⟩] by decide, show dueOf [⟨2, 7, 5⟩, ⟨3, 1, 9⟩] 1 2 = none by decide] at q
    unfold tmV at q
    exact q
  refine (T9.out.turn hc).mono ?_
  rintro e w10 ⟨rfl, hT⟩
  have T10 := Lib.hid hT
  clear hT hc T9
  clear cZ0 cZ1 lZ cY0 cY1 lY cX0 cX1 lX
  have bZ : w10.heap[Z]? = some (.cells #[.int .i64 1, .int .u64 2] 26 (0, 0)) := T10.out.at (x := (Z, 1, 2)) (by simp)
  have cZ0 := cell_blk bZ 0 _ rfl
  have cZ1 := cell_blk bZ 1 _ rfl
  have lZ := blk_lt bZ
  clear bZ
  have bY : w10.heap[Y]? = some (.cells #[.int .i64 2, .int .u64 7] 26 (0, 0)) := T10.out.at (x := (Y, 2, 7)) (by simp)
  have cY0 := cell_blk bY 0 _ rfl
  have cY1 := cell_blk bY 1 _ rfl
  have lY := blk_lt bY
  clear bY
  have bX : w10.heap[X]? = some (.cells #[.int .i64 3, .int .u64 1] 26 (0, 0)) := T10.out.at (x := (X, 3, 1)) (by simp)
  have cX0 := cell_blk bX 0 _ rfl
  have cX1 := cell_blk bX 1 _ rfl
  have lX := blk_lt bX
  clear bX
  go_wp2_with (go_at_call 24; fail)
  refine (HOf.out 4 1 _).mono ?_
  rintro e w11 ⟨rfl, hb⟩
  have T11 := Lib.hid (T10.out.below hb)
  clear hb T10
  clear cZ0 cZ1 lZ cY0 cY1 lY cX0 cX1 lX
  have bZ : w11.heap[Z]? = some (.cells #[.int .i64 1, .int .u64 2] 26 (0, 0)) := T11.out.at (x := (Z, 1, 2)) (by simp)
  have cZ0 := cell_blk bZ 0 _ rfl
  have cZ1 := cell_blk bZ 1 _ rfl
  have lZ := blk_lt bZ
  clear bZ
  have bY : w11.heap[Y]? = some (.cells #[.int .i64 2, .int .u64 7] 26 (0, 0)) := T11.out.at (x := (Y, 2, 7)) (by simp)
  have cY0 := cell_blk bY 0 _ rfl
  have cY1 := cell_blk bY 1 _ rfl
  have lY := blk_lt bY
  clear bY
  have bX : w11.heap[X]? = some (.cells #[.int .i64 3, .int .u64 1] 26 (0, 0)) := T11.out.at (x := (X, 3, 1)) (by simp)
  have cX0 := cell_blk bX 0 _ rfl
  have cX1 := cell_blk bX 1 _ rfl
  have lX := blk_lt bX
  clear bX
  go_wp2_with (go_at_call 18; fail)
  have hc : ∀ K, TS K p 3 [⟨1, 2, 5⟩, ⟨2, 7, 5⟩, ⟨3, 1, 9⟩] w11 → Calls Try.prog 18 #[.pointer (some ⟨p, 0, none⟩), .agg #[.int .i64 4, .int .u64 1], .int .u64 1] w11 fun e w' => e = .returned (.tuple #[.int .u64 0, .bool false, .int .i64 3]) ∧ Turned K p 3 [⟨1, 2, 5⟩, ⟨2, 7, 5⟩, ⟨3, 1, 9⟩] w11 w' := fun K h => by
    have q := h.set_long (k := 4) (i := 1) (d := 1) (by decide) (by omega) (by omega) (by omega) (by omega) (by decide)
    unfold tmV at q
    exact q
  refine (T11.out.turn hc).mono ?_
  rintro e w12 ⟨rfl, hT⟩
  have T12 := Lib.hid hT
  clear hT hc T11
  clear cZ0 cZ1 lZ cY0 cY1 lY cX0 cX1 lX
  have bZ : w12.heap[Z]? = some (.cells #[.int .i64 1, .int .u64 2] 26 (0, 0)) := T12.out.at (x := (Z, 1, 2)) (by simp)
  have cZ0 := cell_blk bZ 0 _ rfl
  have cZ1 := cell_blk bZ 1 _ rfl
  have lZ := blk_lt bZ
  clear bZ
  have bY : w12.heap[Y]? = some (.cells #[.int .i64 2, .int .u64 7] 26 (0, 0)) := T12.out.at (x := (Y, 2, 7)) (by simp)
  have cY0 := cell_blk bY 0 _ rfl
  have cY1 := cell_blk bY 1 _ rfl
  have lY := blk_lt bY
  clear bY
  have bX : w12.heap[X]? = some (.cells #[.int .i64 3, .int .u64 1] 26 (0, 0)) := T12.out.at (x := (X, 3, 1)) (by simp)
  have cX0 := cell_blk bX 0 _ rfl
  have cX1 := cell_blk bX 1 _ rfl
  have lX := blk_lt bX
  clear bX
  go_wp2_with (go_at_call 18; fail)
  have hc : ∀ K, TS K p 3 [⟨1, 2, 5⟩, ⟨2, 7, 5⟩, ⟨3, 1, 9⟩] w12 → Calls Try.prog 18 #[.pointer (some ⟨p, 0, none⟩), .agg #[.int .i64 3, .int .u64 1], .int .u64 5] w12 fun e w' => e = .returned (.tuple #[.int .u64 9, .bool true, .int .i64 0]) ∧ Turned K p 3 [⟨1, 2, 5⟩, ⟨2, 7, 5⟩, ⟨3, 1, 5⟩] w12 w' := fun K h => by
    have q := h.set_ok (k := 3) (i := 1) (d := 5) (by decide) (by omega) (by omega) (by omega) (by omega) (by decide)
    rw [show ins (wo [⟨1, 2, 5⟩, ⟨2, 7, 5⟩, ⟨3, 1, 9⟩] 3 1) ⟨3, 1, 5⟩ = [⟨1, 2, 5⟩, ⟨2, 7, 5⟩, ⟨3, 1, 5⟩] by decide, show dueOf [⟨1, 2, 5⟩, ⟨2, 7, 5⟩, ⟨3, 1, 9⟩] 3 1 = some 9 by decide] at q
    unfold tmV at q
    exact q
  refine (T12.out.turn hc).mono ?_
  rintro e w13 ⟨rfl, hT⟩
  have T13 := Lib.hid hT
  clear hT hc T12
  clear cZ0 cZ1 lZ cY0 cY1 lY cX0 cX1 lX
  have bZ : w13.heap[Z]? = some (.cells #[.int .i64 1, .int .u64 2] 26 (0, 0)) := T13.out.at (x := (Z, 1, 2)) (by simp)
  have cZ0 := cell_blk bZ 0 _ rfl
  have cZ1 := cell_blk bZ 1 _ rfl
  have lZ := blk_lt bZ
  clear bZ
  have bY : w13.heap[Y]? = some (.cells #[.int .i64 2, .int .u64 7] 26 (0, 0)) := T13.out.at (x := (Y, 2, 7)) (by simp)
  have cY0 := cell_blk bY 0 _ rfl
  have cY1 := cell_blk bY 1 _ rfl
  have lY := blk_lt bY
  clear bY
  have bX : w13.heap[X]? = some (.cells #[.int .i64 3, .int .u64 1] 26 (0, 0)) := T13.out.at (x := (X, 3, 1)) (by simp)
  have cX0 := cell_blk bX 0 _ rfl
  have cX1 := cell_blk bX 1 _ rfl
  have lX := blk_lt bX
  clear bX
  go_wp2_with (go_at_call 22; fail)
  have hc : ∀ K, TS K p 3 [⟨1, 2, 5⟩, ⟨2, 7, 5⟩, ⟨3, 1, 5⟩] w13 → Calls Try.prog 22 #[.pointer (some ⟨p, 0, none⟩)] w13 fun e w' => e = .returned (.tuple #[.int .u64 5, .bool true]) ∧ Below w13.heap.size w13 w' := fun K h => by
    have q := h.next
    skip
    exact q
  refine (T13.out.read hc).mono ?_
  rintro e w14 ⟨rfl, hT⟩
  have T14 := Lib.hid hT
  clear hT hc T13
  clear cZ0 cZ1 lZ cY0 cY1 lY cX0 cX1 lX
  have bZ : w14.heap[Z]? = some (.cells #[.int .i64 1, .int .u64 2] 26 (0, 0)) := T14.out.at (x := (Z, 1, 2)) (by simp)
  have cZ0 := cell_blk bZ 0 _ rfl
  have cZ1 := cell_blk bZ 1 _ rfl
  have lZ := blk_lt bZ
  clear bZ
  have bY : w14.heap[Y]? = some (.cells #[.int .i64 2, .int .u64 7] 26 (0, 0)) := T14.out.at (x := (Y, 2, 7)) (by simp)
  have cY0 := cell_blk bY 0 _ rfl
  have cY1 := cell_blk bY 1 _ rfl
  have lY := blk_lt bY
  clear bY
  have bX : w14.heap[X]? = some (.cells #[.int .i64 3, .int .u64 1] 26 (0, 0)) := T14.out.at (x := (X, 3, 1)) (by simp)
  have cX0 := cell_blk bX 0 _ rfl
  have cX1 := cell_blk bX 1 _ rfl
  have lX := blk_lt bX
  clear bX
  go_wp2_with (go_at_call 21; fail)
  have hc : ∀ K, TS K p 3 [⟨1, 2, 5⟩, ⟨2, 7, 5⟩, ⟨3, 1, 5⟩] w14 → Calls Try.prog 21 #[.pointer (some ⟨p, 0, none⟩), .int .u64 4] w14 fun e w' => e = .returned (.tuple #[.agg #[.int .i64 0, .int .u64 0], .int .u64 0, .bool false]) ∧ Below w14.heap.size w14 w' := fun K h => by
    have q := h.pop_early 4 (by omega)
    skip
    exact q
  refine (T14.out.read hc).mono ?_
  rintro e w15 ⟨rfl, hT⟩
  have T15 := Lib.hid hT
  clear hT hc T14
  clear cZ0 cZ1 lZ cY0 cY1 lY cX0 cX1 lX
  have bZ : w15.heap[Z]? = some (.cells #[.int .i64 1, .int .u64 2] 26 (0, 0)) := T15.out.at (x := (Z, 1, 2)) (by simp)
  have cZ0 := cell_blk bZ 0 _ rfl
  have cZ1 := cell_blk bZ 1 _ rfl
  have lZ := blk_lt bZ
  clear bZ
  have bY : w15.heap[Y]? = some (.cells #[.int .i64 2, .int .u64 7] 26 (0, 0)) := T15.out.at (x := (Y, 2, 7)) (by simp)
  have cY0 := cell_blk bY 0 _ rfl
  have cY1 := cell_blk bY 1 _ rfl
  have lY := blk_lt bY
  clear bY
  have bX : w15.heap[X]? = some (.cells #[.int .i64 3, .int .u64 1] 26 (0, 0)) := T15.out.at (x := (X, 3, 1)) (by simp)
  have cX0 := cell_blk bX 0 _ rfl
  have cX1 := cell_blk bX 1 _ rfl
  have lX := blk_lt bX
  clear bX
  go_wp2_with (go_at_call 21; fail)
  obtain ⟨w16, hu⟩ : ∃ Y, Y = w15.alloc (.cells #[.int .i64 0, .int .u64 0] 26) := ⟨_, rfl⟩
  obtain ⟨U0, hX⟩ : ∃ Y, Y = w15.heap.size := ⟨_, rfl⟩
  have hz : w16.heap.size = U0 + 1 := by rw [hu, hX]; simp
  have hT := T15.out.box 0 0
  rw [← hu, ← hX] at hT
  rw [← hu, ← hX]
  try rw [← hz]
  have T16 := Lib.hid hT
  clear hT hu hX hz T15
  clear cZ0 cZ1 lZ cY0 cY1 lY cX0 cX1 lX
  have bU0 : w16.heap[U0]? = some (.cells #[.int .i64 0, .int .u64 0] 26 (0, 0)) := T16.out.at (x := (U0, 0, 0)) (by simp)
  have cU00 := cell_blk bU0 0 _ rfl
  have cU01 := cell_blk bU0 1 _ rfl
  have lU0 := blk_lt bU0
  clear bU0
  have bZ : w16.heap[Z]? = some (.cells #[.int .i64 1, .int .u64 2] 26 (0, 0)) := T16.out.at (x := (Z, 1, 2)) (by simp)
  have cZ0 := cell_blk bZ 0 _ rfl
  have cZ1 := cell_blk bZ 1 _ rfl
  have lZ := blk_lt bZ
  clear bZ
  have bY : w16.heap[Y]? = some (.cells #[.int .i64 2, .int .u64 7] 26 (0, 0)) := T16.out.at (x := (Y, 2, 7)) (by simp)
  have cY0 := cell_blk bY 0 _ rfl
  have cY1 := cell_blk bY 1 _ rfl
  have lY := blk_lt bY
  clear bY
  have bX : w16.heap[X]? = some (.cells #[.int .i64 3, .int .u64 1] 26 (0, 0)) := T16.out.at (x := (X, 3, 1)) (by simp)
  have cX0 := cell_blk bX 0 _ rfl
  have cX1 := cell_blk bX 1 _ rfl
  have lX := blk_lt bX
  clear bX
  go_wp2_with (go_at_call 21; fail)
  have hc : ∀ K, TS K p 3 [⟨1, 2, 5⟩, ⟨2, 7, 5⟩, ⟨3, 1, 5⟩] w16 → Calls Try.prog 21 #[.pointer (some ⟨p, 0, none⟩), .int .u64 5] w16 fun e w' => e = .returned (.tuple #[.agg #[.int .i64 1, .int .u64 2], .int .u64 5, .bool true]) ∧ Turned K p 3 [⟨2, 7, 5⟩, ⟨3, 1, 5⟩] w16 w' := fun K h => by
    have q := h.pop_yes 5 (by omega)
    unfold tmV at q
    exact q
  refine (T16.out.turn hc).mono ?_
  rintro e w17 ⟨rfl, hT⟩
  have T17 := Lib.hid hT
  clear hT hc T16
  clear cU00 cU01 lU0 cZ0 cZ1 lZ cY0 cY1 lY cX0 cX1 lX
  have bU0 : w17.heap[U0]? = some (.cells #[.int .i64 0, .int .u64 0] 26 (0, 0)) := T17.out.at (x := (U0, 0, 0)) (by simp)
  have cU00 := cell_blk bU0 0 _ rfl
  have cU01 := cell_blk bU0 1 _ rfl
  have lU0 := blk_lt bU0
  clear bU0
  have bZ : w17.heap[Z]? = some (.cells #[.int .i64 1, .int .u64 2] 26 (0, 0)) := T17.out.at (x := (Z, 1, 2)) (by simp)
  have cZ0 := cell_blk bZ 0 _ rfl
  have cZ1 := cell_blk bZ 1 _ rfl
  have lZ := blk_lt bZ
  clear bZ
  have bY : w17.heap[Y]? = some (.cells #[.int .i64 2, .int .u64 7] 26 (0, 0)) := T17.out.at (x := (Y, 2, 7)) (by simp)
  have cY0 := cell_blk bY 0 _ rfl
  have cY1 := cell_blk bY 1 _ rfl
  have lY := blk_lt bY
  clear bY
  have bX : w17.heap[X]? = some (.cells #[.int .i64 3, .int .u64 1] 26 (0, 0)) := T17.out.at (x := (X, 3, 1)) (by simp)
  have cX0 := cell_blk bX 0 _ rfl
  have cX1 := cell_blk bX 1 _ rfl
  have lX := blk_lt bX
  clear bX
  go_wp2_with (go_at_call 21; fail)
  obtain ⟨w18, hu⟩ : ∃ Y, Y = w17.alloc (.cells #[.int .i64 1, .int .u64 2] 26) := ⟨_, rfl⟩
  obtain ⟨U1, hX⟩ : ∃ Y, Y = w17.heap.size := ⟨_, rfl⟩
  have hz : w18.heap.size = U1 + 1 := by rw [hu, hX]; simp
  have hT := T17.out.box 1 2
  rw [← hu, ← hX] at hT
  rw [← hu, ← hX]
  try rw [← hz]
  have T18 := Lib.hid hT
  clear hT hu hX hz T17
  clear cU00 cU01 lU0 cZ0 cZ1 lZ cY0 cY1 lY cX0 cX1 lX
  have bU1 : w18.heap[U1]? = some (.cells #[.int .i64 1, .int .u64 2] 26 (0, 0)) := T18.out.at (x := (U1, 1, 2)) (by simp)
  have cU10 := cell_blk bU1 0 _ rfl
  have cU11 := cell_blk bU1 1 _ rfl
  have lU1 := blk_lt bU1
  clear bU1
  have bU0 : w18.heap[U0]? = some (.cells #[.int .i64 0, .int .u64 0] 26 (0, 0)) := T18.out.at (x := (U0, 0, 0)) (by simp)
  have cU00 := cell_blk bU0 0 _ rfl
  have cU01 := cell_blk bU0 1 _ rfl
  have lU0 := blk_lt bU0
  clear bU0
  have bZ : w18.heap[Z]? = some (.cells #[.int .i64 1, .int .u64 2] 26 (0, 0)) := T18.out.at (x := (Z, 1, 2)) (by simp)
  have cZ0 := cell_blk bZ 0 _ rfl
  have cZ1 := cell_blk bZ 1 _ rfl
  have lZ := blk_lt bZ
  clear bZ
  have bY : w18.heap[Y]? = some (.cells #[.int .i64 2, .int .u64 7] 26 (0, 0)) := T18.out.at (x := (Y, 2, 7)) (by simp)
  have cY0 := cell_blk bY 0 _ rfl
  have cY1 := cell_blk bY 1 _ rfl
  have lY := blk_lt bY
  clear bY
  have bX : w18.heap[X]? = some (.cells #[.int .i64 3, .int .u64 1] 26 (0, 0)) := T18.out.at (x := (X, 3, 1)) (by simp)
  have cX0 := cell_blk bX 0 _ rfl
  have cX1 := cell_blk bX 1 _ rfl
  have lX := blk_lt bX
  clear bX
  go_wp2_with (go_at_call 21; fail)
  have hc : ∀ K, TS K p 3 [⟨2, 7, 5⟩, ⟨3, 1, 5⟩] w18 → Calls Try.prog 21 #[.pointer (some ⟨p, 0, none⟩), .int .u64 5] w18 fun e w' => e = .returned (.tuple #[.agg #[.int .i64 2, .int .u64 7], .int .u64 5, .bool true]) ∧ Turned K p 3 [⟨3, 1, 5⟩] w18 w' := fun K h => by
    have q := h.pop_yes 5 (by omega)
    unfold tmV at q
    exact q
  refine (T18.out.turn hc).mono ?_
  rintro e w19 ⟨rfl, hT⟩
  have T19 := Lib.hid hT
  clear hT hc T18
  clear cU10 cU11 lU1 cU00 cU01 lU0 cZ0 cZ1 lZ cY0 cY1 lY cX0 cX1 lX
  have bU1 : w19.heap[U1]? = some (.cells #[.int .i64 1, .int .u64 2] 26 (0, 0)) := T19.out.at (x := (U1, 1, 2)) (by simp)
  have cU10 := cell_blk bU1 0 _ rfl
  have cU11 := cell_blk bU1 1 _ rfl
  have lU1 := blk_lt bU1
  clear bU1
  have bU0 : w19.heap[U0]? = some (.cells #[.int .i64 0, .int .u64 0] 26 (0, 0)) := T19.out.at (x := (U0, 0, 0)) (by simp)
  have cU00 := cell_blk bU0 0 _ rfl
  have cU01 := cell_blk bU0 1 _ rfl
  have lU0 := blk_lt bU0
  clear bU0
  have bZ : w19.heap[Z]? = some (.cells #[.int .i64 1, .int .u64 2] 26 (0, 0)) := T19.out.at (x := (Z, 1, 2)) (by simp)
  have cZ0 := cell_blk bZ 0 _ rfl
  have cZ1 := cell_blk bZ 1 _ rfl
  have lZ := blk_lt bZ
  clear bZ
  have bY : w19.heap[Y]? = some (.cells #[.int .i64 2, .int .u64 7] 26 (0, 0)) := T19.out.at (x := (Y, 2, 7)) (by simp)
  have cY0 := cell_blk bY 0 _ rfl
  have cY1 := cell_blk bY 1 _ rfl
  have lY := blk_lt bY
  clear bY
  have bX : w19.heap[X]? = some (.cells #[.int .i64 3, .int .u64 1] 26 (0, 0)) := T19.out.at (x := (X, 3, 1)) (by simp)
  have cX0 := cell_blk bX 0 _ rfl
  have cX1 := cell_blk bX 1 _ rfl
  have lX := blk_lt bX
  clear bX
  go_wp2_with (go_at_call 19; fail)
  obtain ⟨w20, hu⟩ : ∃ Y, Y = w19.alloc (.cells #[.int .i64 2, .int .u64 7] 26) := ⟨_, rfl⟩
  obtain ⟨U2, hX⟩ : ∃ Y, Y = w19.heap.size := ⟨_, rfl⟩
  have hz : w20.heap.size = U2 + 1 := by rw [hu, hX]; simp
  have hT := T19.out.box 2 7
  rw [← hu, ← hX] at hT
  rw [← hu, ← hX]
  try rw [← hz]
  have T20 := Lib.hid hT
  clear hT hu hX hz T19
  clear cU10 cU11 lU1 cU00 cU01 lU0 cZ0 cZ1 lZ cY0 cY1 lY cX0 cX1 lX
  have bU2 : w20.heap[U2]? = some (.cells #[.int .i64 2, .int .u64 7] 26 (0, 0)) := T20.out.at (x := (U2, 2, 7)) (by simp)
  have cU20 := cell_blk bU2 0 _ rfl
  have cU21 := cell_blk bU2 1 _ rfl
  have lU2 := blk_lt bU2
  clear bU2
  have bU1 : w20.heap[U1]? = some (.cells #[.int .i64 1, .int .u64 2] 26 (0, 0)) := T20.out.at (x := (U1, 1, 2)) (by simp)
  have cU10 := cell_blk bU1 0 _ rfl
  have cU11 := cell_blk bU1 1 _ rfl
  have lU1 := blk_lt bU1
  clear bU1
  have bU0 : w20.heap[U0]? = some (.cells #[.int .i64 0, .int .u64 0] 26 (0, 0)) := T20.out.at (x := (U0, 0, 0)) (by simp)
  have cU00 := cell_blk bU0 0 _ rfl
  have cU01 := cell_blk bU0 1 _ rfl
  have lU0 := blk_lt bU0
  clear bU0
  have bZ : w20.heap[Z]? = some (.cells #[.int .i64 1, .int .u64 2] 26 (0, 0)) := T20.out.at (x := (Z, 1, 2)) (by simp)
  have cZ0 := cell_blk bZ 0 _ rfl
  have cZ1 := cell_blk bZ 1 _ rfl
  have lZ := blk_lt bZ
  clear bZ
  have bY : w20.heap[Y]? = some (.cells #[.int .i64 2, .int .u64 7] 26 (0, 0)) := T20.out.at (x := (Y, 2, 7)) (by simp)
  have cY0 := cell_blk bY 0 _ rfl
  have cY1 := cell_blk bY 1 _ rfl
  have lY := blk_lt bY
  clear bY
  have bX : w20.heap[X]? = some (.cells #[.int .i64 3, .int .u64 1] 26 (0, 0)) := T20.out.at (x := (X, 3, 1)) (by simp)
  have cX0 := cell_blk bX 0 _ rfl
  have cX1 := cell_blk bX 1 _ rfl
  have lX := blk_lt bX
  clear bX
  go_wp2_with (go_at_call 19; fail)
  have hc : ∀ K, TS K p 3 [⟨3, 1, 5⟩] w20 → Calls Try.prog 19 #[.pointer (some ⟨p, 0, none⟩), .agg #[.int .i64 3, .int .u64 1]] w20 fun e w' => e = .returned (.tuple #[.int .u64 5, .bool true]) ∧ Turned K p 3 [] w20 w' := fun K h => by
    have q := h.stop (k := 3) (i := 1) (by omega) (by omega) (by omega) (by omega)
    rw [show wo [⟨3, 1, 5⟩] 3 1 = [] by decide, show dueOf [⟨3, 1, 5⟩] 3 1 = some 5 by decide] at q
    unfold tmV at q
    exact q
  refine (T20.out.turn hc).mono ?_
  rintro e w21 ⟨rfl, hT⟩
  have T21 := Lib.hid hT
  clear hT hc T20
  clear cU20 cU21 lU2 cU10 cU11 lU1 cU00 cU01 lU0 cZ0 cZ1 lZ cY0 cY1 lY cX0 cX1 lX
  have bU2 : w21.heap[U2]? = some (.cells #[.int .i64 2, .int .u64 7] 26 (0, 0)) := T21.out.at (x := (U2, 2, 7)) (by simp)
  have cU20 := cell_blk bU2 0 _ rfl
  have cU21 := cell_blk bU2 1 _ rfl
  have lU2 := blk_lt bU2
  clear bU2
  have bU1 : w21.heap[U1]? = some (.cells #[.int .i64 1, .int .u64 2] 26 (0, 0)) := T21.out.at (x := (U1, 1, 2)) (by simp)
  have cU10 := cell_blk bU1 0 _ rfl
  have cU11 := cell_blk bU1 1 _ rfl
  have lU1 := blk_lt bU1
  clear bU1
  have bU0 : w21.heap[U0]? = some (.cells #[.int .i64 0, .int .u64 0] 26 (0, 0)) := T21.out.at (x := (U0, 0, 0)) (by simp)
  have cU00 := cell_blk bU0 0 _ rfl
  have cU01 := cell_blk bU0 1 _ rfl
  have lU0 := blk_lt bU0
  clear bU0
  have bZ : w21.heap[Z]? = some (.cells #[.int .i64 1, .int .u64 2] 26 (0, 0)) := T21.out.at (x := (Z, 1, 2)) (by simp)
  have cZ0 := cell_blk bZ 0 _ rfl
  have cZ1 := cell_blk bZ 1 _ rfl
  have lZ := blk_lt bZ
  clear bZ
  have bY : w21.heap[Y]? = some (.cells #[.int .i64 2, .int .u64 7] 26 (0, 0)) := T21.out.at (x := (Y, 2, 7)) (by simp)
  have cY0 := cell_blk bY 0 _ rfl
  have cY1 := cell_blk bY 1 _ rfl
  have lY := blk_lt bY
  clear bY
  have bX : w21.heap[X]? = some (.cells #[.int .i64 3, .int .u64 1] 26 (0, 0)) := T21.out.at (x := (X, 3, 1)) (by simp)
  have cX0 := cell_blk bX 0 _ rfl
  have cX1 := cell_blk bX 1 _ rfl
  have lX := blk_lt bX
  clear bX
  go_wp2_with (go_at_call 21; fail)
  have hc : ∀ K, TS K p 3 [] w21 → Calls Try.prog 21 #[.pointer (some ⟨p, 0, none⟩), .int .u64 99] w21 fun e w' => e = .returned (.tuple #[.agg #[.int .i64 0, .int .u64 0], .int .u64 0, .bool false]) ∧ Below w21.heap.size w21 w' := fun K h => by
    have q := h.pop_empty 99
    skip
    exact q
  refine (T21.out.read hc).mono ?_
  rintro e w22 ⟨rfl, hT⟩
  have T22 := Lib.hid hT
  clear hT hc T21
  clear cU20 cU21 lU2 cU10 cU11 lU1 cU00 cU01 lU0 cZ0 cZ1 lZ cY0 cY1 lY cX0 cX1 lX
  have bU2 : w22.heap[U2]? = some (.cells #[.int .i64 2, .int .u64 7] 26 (0, 0)) := T22.out.at (x := (U2, 2, 7)) (by simp)
  have cU20 := cell_blk bU2 0 _ rfl
  have cU21 := cell_blk bU2 1 _ rfl
  have lU2 := blk_lt bU2
  clear bU2
  have bU1 : w22.heap[U1]? = some (.cells #[.int .i64 1, .int .u64 2] 26 (0, 0)) := T22.out.at (x := (U1, 1, 2)) (by simp)
  have cU10 := cell_blk bU1 0 _ rfl
  have cU11 := cell_blk bU1 1 _ rfl
  have lU1 := blk_lt bU1
  clear bU1
  have bU0 : w22.heap[U0]? = some (.cells #[.int .i64 0, .int .u64 0] 26 (0, 0)) := T22.out.at (x := (U0, 0, 0)) (by simp)
  have cU00 := cell_blk bU0 0 _ rfl
  have cU01 := cell_blk bU0 1 _ rfl
  have lU0 := blk_lt bU0
  clear bU0
  have bZ : w22.heap[Z]? = some (.cells #[.int .i64 1, .int .u64 2] 26 (0, 0)) := T22.out.at (x := (Z, 1, 2)) (by simp)
  have cZ0 := cell_blk bZ 0 _ rfl
  have cZ1 := cell_blk bZ 1 _ rfl
  have lZ := blk_lt bZ
  clear bZ
  have bY : w22.heap[Y]? = some (.cells #[.int .i64 2, .int .u64 7] 26 (0, 0)) := T22.out.at (x := (Y, 2, 7)) (by simp)
  have cY0 := cell_blk bY 0 _ rfl
  have cY1 := cell_blk bY 1 _ rfl
  have lY := blk_lt bY
  clear bY
  have bX : w22.heap[X]? = some (.cells #[.int .i64 3, .int .u64 1] 26 (0, 0)) := T22.out.at (x := (X, 3, 1)) (by simp)
  have cX0 := cell_blk bX 0 _ rfl
  have cX1 := cell_blk bX 1 _ rfl
  have lX := blk_lt bX
  clear bX
  go_wp2_with (go_at_call 9; fail)
  obtain ⟨w23, hu⟩ : ∃ Y, Y = w22.alloc (.cells #[.int .i64 0, .int .u64 0] 26) := ⟨_, rfl⟩
  obtain ⟨U3, hX⟩ : ∃ Y, Y = w22.heap.size := ⟨_, rfl⟩
  have hz : w23.heap.size = U3 + 1 := by rw [hu, hX]; simp
  have hT := T22.out.box 0 0
  rw [← hu, ← hX] at hT
  rw [← hu, ← hX]
  try rw [← hz]
  have T23 := Lib.hid hT
  clear hT hu hX hz T22
  clear cU20 cU21 lU2 cU10 cU11 lU1 cU00 cU01 lU0 cZ0 cZ1 lZ cY0 cY1 lY cX0 cX1 lX
  have bU3 : w23.heap[U3]? = some (.cells #[.int .i64 0, .int .u64 0] 26 (0, 0)) := T23.out.at (x := (U3, 0, 0)) (by simp)
  have cU30 := cell_blk bU3 0 _ rfl
  have cU31 := cell_blk bU3 1 _ rfl
  have lU3 := blk_lt bU3
  clear bU3
  have bU2 : w23.heap[U2]? = some (.cells #[.int .i64 2, .int .u64 7] 26 (0, 0)) := T23.out.at (x := (U2, 2, 7)) (by simp)
  have cU20 := cell_blk bU2 0 _ rfl
  have cU21 := cell_blk bU2 1 _ rfl
  have lU2 := blk_lt bU2
  clear bU2
  have bU1 : w23.heap[U1]? = some (.cells #[.int .i64 1, .int .u64 2] 26 (0, 0)) := T23.out.at (x := (U1, 1, 2)) (by simp)
  have cU10 := cell_blk bU1 0 _ rfl
  have cU11 := cell_blk bU1 1 _ rfl
  have lU1 := blk_lt bU1
  clear bU1
  have bU0 : w23.heap[U0]? = some (.cells #[.int .i64 0, .int .u64 0] 26 (0, 0)) := T23.out.at (x := (U0, 0, 0)) (by simp)
  have cU00 := cell_blk bU0 0 _ rfl
  have cU01 := cell_blk bU0 1 _ rfl
  have lU0 := blk_lt bU0
  clear bU0
  have bZ : w23.heap[Z]? = some (.cells #[.int .i64 1, .int .u64 2] 26 (0, 0)) := T23.out.at (x := (Z, 1, 2)) (by simp)
  have cZ0 := cell_blk bZ 0 _ rfl
  have cZ1 := cell_blk bZ 1 _ rfl
  have lZ := blk_lt bZ
  clear bZ
  have bY : w23.heap[Y]? = some (.cells #[.int .i64 2, .int .u64 7] 26 (0, 0)) := T23.out.at (x := (Y, 2, 7)) (by simp)
  have cY0 := cell_blk bY 0 _ rfl
  have cY1 := cell_blk bY 1 _ rfl
  have lY := blk_lt bY
  clear bY
  have bX : w23.heap[X]? = some (.cells #[.int .i64 3, .int .u64 1] 26 (0, 0)) := T23.out.at (x := (X, 3, 1)) (by simp)
  have cX0 := cell_blk bX 0 _ rfl
  have cX1 := cell_blk bX 1 _ rfl
  have lX := blk_lt bX
  clear bX
  refine (new9_bad 0 _ (.inl (by omega))).mono ?_
  rintro e w' ⟨rfl, rfl⟩
  go_wp2_with (go_at_call 24; fail)
  refine (HOf.out 5 0 _).mono ?_
  rintro e w24 ⟨rfl, hb⟩
  have T24 := Lib.hid (T23.out.below hb)
  clear hb T23
  clear cU30 cU31 lU3 cU20 cU21 lU2 cU10 cU11 lU1 cU00 cU01 lU0 cZ0 cZ1 lZ cY0 cY1 lY cX0 cX1 lX
  have bU3 : w24.heap[U3]? = some (.cells #[.int .i64 0, .int .u64 0] 26 (0, 0)) := T24.out.at (x := (U3, 0, 0)) (by simp)
  have cU30 := cell_blk bU3 0 _ rfl
  have cU31 := cell_blk bU3 1 _ rfl
  have lU3 := blk_lt bU3
  clear bU3
  have bU2 : w24.heap[U2]? = some (.cells #[.int .i64 2, .int .u64 7] 26 (0, 0)) := T24.out.at (x := (U2, 2, 7)) (by simp)
  have cU20 := cell_blk bU2 0 _ rfl
  have cU21 := cell_blk bU2 1 _ rfl
  have lU2 := blk_lt bU2
  clear bU2
  have bU1 : w24.heap[U1]? = some (.cells #[.int .i64 1, .int .u64 2] 26 (0, 0)) := T24.out.at (x := (U1, 1, 2)) (by simp)
  have cU10 := cell_blk bU1 0 _ rfl
  have cU11 := cell_blk bU1 1 _ rfl
  have lU1 := blk_lt bU1
  clear bU1
  have bU0 : w24.heap[U0]? = some (.cells #[.int .i64 0, .int .u64 0] 26 (0, 0)) := T24.out.at (x := (U0, 0, 0)) (by simp)
  have cU00 := cell_blk bU0 0 _ rfl
  have cU01 := cell_blk bU0 1 _ rfl
  have lU0 := blk_lt bU0
  clear bU0
  have bZ : w24.heap[Z]? = some (.cells #[.int .i64 1, .int .u64 2] 26 (0, 0)) := T24.out.at (x := (Z, 1, 2)) (by simp)
  have cZ0 := cell_blk bZ 0 _ rfl
  have cZ1 := cell_blk bZ 1 _ rfl
  have lZ := blk_lt bZ
  clear bZ
  have bY : w24.heap[Y]? = some (.cells #[.int .i64 2, .int .u64 7] 26 (0, 0)) := T24.out.at (x := (Y, 2, 7)) (by simp)
  have cY0 := cell_blk bY 0 _ rfl
  have cY1 := cell_blk bY 1 _ rfl
  have lY := blk_lt bY
  clear bY
  have bX : w24.heap[X]? = some (.cells #[.int .i64 3, .int .u64 1] 26 (0, 0)) := T24.out.at (x := (X, 3, 1)) (by simp)
  have cX0 := cell_blk bX 0 _ rfl
  have cX1 := cell_blk bX 1 _ rfl
  have lX := blk_lt bX
  clear bX
  go_wp2_with (go_at_call 18; fail)
  have hc : ∀ K, TS K p 3 [] w24 → Calls Try.prog 18 #[.pointer (some ⟨p, 0, none⟩), .agg #[.int .i64 5, .int .u64 0], .int .u64 1] w24 fun e w' => e = .returned (.tuple #[.int .u64 0, .bool false, .int .i64 2]) ∧ Below w24.heap.size w24 w' := fun K h => by
    have q := h.set_kind (k := 5) (i := 0) (d := 1) (by decide)
    unfold tmV at q
    exact q
  refine (T24.out.read hc).mono ?_
  rintro e w25 ⟨rfl, hT⟩
  have T25 := Lib.hid hT
  clear hT hc T24
  clear cU30 cU31 lU3 cU20 cU21 lU2 cU10 cU11 lU1 cU00 cU01 lU0 cZ0 cZ1 lZ cY0 cY1 lY cX0 cX1 lX
  have bU3 : w25.heap[U3]? = some (.cells #[.int .i64 0, .int .u64 0] 26 (0, 0)) := T25.out.at (x := (U3, 0, 0)) (by simp)
  have cU30 := cell_blk bU3 0 _ rfl
  have cU31 := cell_blk bU3 1 _ rfl
  have lU3 := blk_lt bU3
  clear bU3
  have bU2 : w25.heap[U2]? = some (.cells #[.int .i64 2, .int .u64 7] 26 (0, 0)) := T25.out.at (x := (U2, 2, 7)) (by simp)
  have cU20 := cell_blk bU2 0 _ rfl
  have cU21 := cell_blk bU2 1 _ rfl
  have lU2 := blk_lt bU2
  clear bU2
  have bU1 : w25.heap[U1]? = some (.cells #[.int .i64 1, .int .u64 2] 26 (0, 0)) := T25.out.at (x := (U1, 1, 2)) (by simp)
  have cU10 := cell_blk bU1 0 _ rfl
  have cU11 := cell_blk bU1 1 _ rfl
  have lU1 := blk_lt bU1
  clear bU1
  have bU0 : w25.heap[U0]? = some (.cells #[.int .i64 0, .int .u64 0] 26 (0, 0)) := T25.out.at (x := (U0, 0, 0)) (by simp)
  have cU00 := cell_blk bU0 0 _ rfl
  have cU01 := cell_blk bU0 1 _ rfl
  have lU0 := blk_lt bU0
  clear bU0
  have bZ : w25.heap[Z]? = some (.cells #[.int .i64 1, .int .u64 2] 26 (0, 0)) := T25.out.at (x := (Z, 1, 2)) (by simp)
  have cZ0 := cell_blk bZ 0 _ rfl
  have cZ1 := cell_blk bZ 1 _ rfl
  have lZ := blk_lt bZ
  clear bZ
  have bY : w25.heap[Y]? = some (.cells #[.int .i64 2, .int .u64 7] 26 (0, 0)) := T25.out.at (x := (Y, 2, 7)) (by simp)
  have cY0 := cell_blk bY 0 _ rfl
  have cY1 := cell_blk bY 1 _ rfl
  have lY := blk_lt bY
  clear bY
  have bX : w25.heap[X]? = some (.cells #[.int .i64 3, .int .u64 1] 26 (0, 0)) := T25.out.at (x := (X, 3, 1)) (by simp)
  have cX0 := cell_blk bX 0 _ rfl
  have cX1 := cell_blk bX 1 _ rfl
  have lX := blk_lt bX
  clear bX
  go_wp2_with (first | (go_at_call 13; refine (HNum.out _ _).mono ?_; rintro e w' ⟨rfl, rfl⟩) | (go_at_call 23; fail))
  have hl : Calls Try.prog 23 #[.pointer (some ⟨p, 0, none⟩)] w25 fun e w' => e = .returned (.int .i64 0) ∧ w25 = w' := by
    obtain ⟨K, h1, _⟩ := T25.out.ex
    exact h1.length
  refine hl.mono ?_
  rintro e w' ⟨rfl, rfl⟩
  clear hl
  go_wp2_with (first | (go_at_call 13; refine (HNum.out _ _).mono ?_; rintro e w' ⟨rfl, rfl⟩))
  go_ret
  exact ⟨rfl, T25.out.bel⟩
end Go.Proofs.Ytnmbhcekcdicnaa
