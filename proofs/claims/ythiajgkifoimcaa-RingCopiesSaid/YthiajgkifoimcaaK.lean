/-
  The chapter's rows hold: works is true.
-/
import Derived.Test.YthiajgkifoimcaaJ
namespace Go.Proofs.Ythiajgkifoimcaa
open Go.RowKit
set_option linter.unusedVariables false
set_option linter.unusedSimpArgs false

theorem Step.below {p : Nat} {sv sv' : Value} {w0 w w' : World} (h : Step p sv sv' w w') (hb : Below w0.heap.size w0 w) (hf : ∀ k, FP p sv k → w0.heap.size ≤ k) : Below w0.heap.size w0 w' :=
  hb.trans ⟨h.mod.os, h.mod.tape, h.mod.output, h.mod.size, fun k hk => h.mod.block k (Nat.lt_of_lt_of_le hk hb.size) (fun hs => by have := hf k hs; omega)⟩
theorem Ring.step {base p : Nat} {F m : Int} {sv sv' : Value} {L : List Int} {w0 w w' : World} (h : Ring w base p F m sv L) (hs : Step p sv sv' w w') (hb : Below w0.heap.size w0 w) (hB : w0.heap.size ≤ base) : Below w0.heap.size w0 w' :=
  hs.below hb (fun k hk => Nat.le_trans hB (h.fplt hk).1)

set_option maxHeartbeats 1600000 in
set_option maxRecDepth 100000 in
theorem works_true (w : World) : Calls Try.prog 7 #[] w fun e w' => e = .returned (.bool true) ∧ Below w.heap.size w w' := by
  go_enter Try.func7, Try.ntmps7
  go_wp2_with fail
  refine (New_ring w.heap.size 2 10 w (Nat.le_refl _) (by omega) (by omega) (by omega) (by omega)).mono ?_
  rintro e w0 ⟨rfl, hr0, hb0⟩
  have hz0 := hb0.size
  have R0 := Lib.hid hr0
  have B0 := Lib.hid hb0
  clear hr0 hb0
  go_wp2_with fail
  refine (Put_ring_room w.heap.size w.heap.size 10 2 5 _ [] w0 R0.out hz0 (by simp) (by simp)).mono ?_
  rintro e w1 ⟨rfl, s1, hr, hs⟩
  have B1 := Lib.hid (R0.out.step hs B0.out (Nat.le_refl _))
  have hz1 : w.heap.size ≤ w1.heap.size := B1.out.size
  have R1 := Lib.hid hr
  clear hr hs R0 B0
  go_wp2_with fail
  refine (Put_ring_room w.heap.size w.heap.size 10 2 6 _ [5] w1 R1.out hz1 (by simp) (by simp)).mono ?_
  rintro e w2 ⟨rfl, s2, hr, hs⟩
  have B2 := Lib.hid (R1.out.step hs B1.out (Nat.le_refl _))
  have hz2 : w.heap.size ≤ w2.heap.size := B2.out.size
  have R2 := Lib.hid hr
  clear hr hs R1 B1
  go_wp2_with fail
  refine (Put_ring_drop w.heap.size w.heap.size 10 2 7 5 _ [6] w2 R2.out hz2 (by simp) (by simp)).mono ?_
  rintro e w3 ⟨rfl, s3, hr, hs⟩
  have B3 := Lib.hid (R2.out.step hs B2.out (Nat.le_refl _))
  have hz3 : w.heap.size ≤ w3.heap.size := B3.out.size
  have R3 := Lib.hid hr
  clear hr hs R2 B2
  go_wp2_with fail
  refine (First_ring w.heap.size w.heap.size 11 2 _ [6, 7] w3 R3.out).mono ?_
  rintro e w' ⟨rfl, rfl⟩
  go_wp2_with fail
  refine (Next_ring w.heap.size w.heap.size 11 2 _ [6, 7] w3 R3.out).mono ?_
  rintro e w' ⟨rfl, rfl⟩
  go_wp2_with fail
  refine (Get_ring_out w.heap.size w.heap.size 11 2 _ [6, 7] w3 R3.out 10 (by omega)).mono ?_
  rintro e w4 ⟨rfl, hb⟩
  have B4 := Lib.hid (B3.out.trans (hb.mono hz3))
  have hz4 : w.heap.size ≤ w4.heap.size := B4.out.size
  have R4 := Lib.hid (R3.out.below hb)
  clear hb R3 B3
  go_wp2_with fail
  refine (Get_ring_in w.heap.size w.heap.size 11 2 _ [6, 7] w4 R4.out hz4 12 1 (by simp) (by omega)).mono ?_
  rintro e w5 ⟨rfl, s5, hr, hs⟩
  have B5 := Lib.hid (R4.out.step hs B4.out (Nat.le_refl _))
  have hz5 : w.heap.size ≤ w5.heap.size := B5.out.size
  have R5 := Lib.hid hr
  clear hr hs R4 B4
  go_wp2_with fail
  refine (Drop_ring_some w.heap.size w.heap.size 11 2 6 _ [7] w5 R5.out hz5).mono ?_
  rintro e w6 ⟨rfl, s6, hr, hs⟩
  have B6 := Lib.hid (R5.out.step hs B5.out (Nat.le_refl _))
  have hz6 : w.heap.size ≤ w6.heap.size := B6.out.size
  have R6 := Lib.hid hr
  clear hr hs R5 B5
  go_wp2_with fail
  refine (Drop_ring_some w.heap.size w.heap.size 12 2 7 _ [] w6 R6.out hz6).mono ?_
  rintro e w7 ⟨rfl, s7, hr, hs⟩
  have B7 := Lib.hid (R6.out.step hs B6.out (Nat.le_refl _))
  have hz7 : w.heap.size ≤ w7.heap.size := B7.out.size
  have R7 := Lib.hid hr
  clear hr hs R6 B6
  go_wp2_with fail
  refine (Drop_ring_none w.heap.size w.heap.size 13 2 _ w7 R7.out).mono ?_
  rintro e w8 ⟨rfl, hb⟩
  have B8 := Lib.hid (B7.out.trans (hb.mono hz7))
  have hz8 : w.heap.size ≤ w8.heap.size := B8.out.size
  have R8 := Lib.hid (R7.out.below hb)
  clear hb R7 B7
  go_wp2_with fail
  refine (new_bad 0 1 w8 (by omega)).mono ?_
  rintro e w' ⟨rfl, rfl⟩
  have HNum := Lib.hid (fun a => num_any a w8)
  have HF := Lib.hid (First_ring w.heap.size w.heap.size 13 2 _ [] w8 R8.out)
  go_wp2_with (first | (go_at_call 9; refine (HNum.out _).mono ?_; rintro e w' ⟨rfl, rfl⟩) | (go_at_call 14; refine HF.out.mono ?_; rintro e w' ⟨rfl, rfl⟩))
  go_ret
  exact ⟨rfl, B8.out⟩
end Go.Proofs.Ythiajgkifoimcaa
