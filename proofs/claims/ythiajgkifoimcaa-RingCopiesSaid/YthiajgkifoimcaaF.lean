import Derived.Test.YthiajgkifoimcaaE
namespace Go.Proofs.Ythiajgkifoimcaa
open Go.RowKit
set_option linter.unusedVariables false
set_option linter.unusedSimpArgs false

theorem Step.of_below {p : Nat} {sv : Value} {w w' : World} (h : Below w.heap.size w w') : Step p sv sv w w' := ⟨Mod.of_below h _, fun _ hk => .inl hk⟩
theorem RingAt.below {w w' : World} {base p : Nat} {F N m : Int} {sv : Value} {vs : List Int} (h : RingAt w base p F N m sv vs) (hb : Below w.heap.size w w') : RingAt w' base p F N m sv vs :=
  h.mod (Mod.of_below hb (fun _ => False)) (fun _ _ h => h)
theorem RingAt.setF {w : World} {base p : Nat} {F N m : Int} {sv : Value} {vs : List Int} (h : RingAt w base p F N m sv vs) (x : Int) :
    RingAt (w.setCell ⟨p, 0, none⟩ (.int .u64 x)) base p x N m sv vs ∧ Step p sv sv w (w.setCell ⟨p, 0, none⟩ (.int .u64 x)) := by
  refine ⟨⟨?_, ?_, h.ne, h.lo⟩, Mod.setCell (Mod.refl _ _) ⟨p, 0, none⟩ (.inl (.inl rfl)) _, fun k hk => .inl hk⟩
  · rw [setCell_blk h.blk]; rfl
  · exact (Mod.setCell (S := fun k => k = p) (Mod.refl _ _) ⟨p, 0, none⟩ (.inl rfl) _).row h.row h.ne
theorem RingAt.setN {w : World} {base p : Nat} {F N m : Int} {sv : Value} {vs : List Int} (h : RingAt w base p F N m sv vs) (x : Int) :
    RingAt (w.setCell ⟨p, 1, none⟩ (.int .u64 x)) base p F x m sv vs ∧ Step p sv sv w (w.setCell ⟨p, 1, none⟩ (.int .u64 x)) := by
  refine ⟨⟨?_, ?_, h.ne, h.lo⟩, Mod.setCell (Mod.refl _ _) ⟨p, 1, none⟩ (.inl (.inl rfl)) _, fun k hk => .inl hk⟩
  · rw [setCell_blk h.blk]; rfl
  · exact (Mod.setCell (S := fun k => k = p) (Mod.refl _ _) ⟨p, 1, none⟩ (.inl rfl) _).row h.row h.ne
/-- A store into one of the values. -/
theorem RingAt.stored {w : World} {base p q n cap : Nat} {F N m : Int} {vs : List Int} (h : RingAt w base p F N m (.slice (some ⟨q, 0, none⟩) n cap) vs) (i : Nat) (x : Int) (hi : i < vs.length) :
    RingAt (w.setCell ⟨q, i, none⟩ (.int .i64 x)) base p F N m (.slice (some ⟨q, 0, none⟩) n cap) (vs.set i x) ∧ Step p (.slice (some ⟨q, 0, none⟩) n cap) (.slice (some ⟨q, 0, none⟩) n cap) w (w.setCell ⟨q, i, none⟩ (.int .i64 x)) ∧
      (∃ u, w.cell? ⟨q, i, none⟩ = some u) ∧ w.frozen? ⟨q, i, none⟩ = false := by
  have hne := h.ne q rfl
  obtain ⟨q', cap', cur, hv, hbq, hgq, hnc, hcm, hcs, htk⟩ := row_some h.row (by omega)
  injection hv with e1 e2 e3
  injection e1 with e1
  injection e1 with e1
  subst e1; subst e2; subst e3
  refine ⟨⟨?_, ?_, h.ne, h.lo⟩, ⟨Mod.setCell (Mod.refl _ _) ⟨q, i, none⟩ (.inl (.inr rfl)) _, fun k hk => .inl hk⟩, ?_, frozen_blk hgq i⟩
  · rw [setCell_blk_ne (by simpa using hne.symm)]; exact h.blk
  · refine ⟨by simp, .inr ⟨q, cap, _, by simp, hbq, setCell_blk hgq i _, by simpa using hnc, hcm, by simpa using hcs, ?_⟩⟩
    simp only [Array.toList_setIfInBounds, List.length_set, List.map_set]
    rw [← htk, List.take_set]
  · have hlt : i < cur.size := by omega
    exact ⟨cur[i], by simp [World.cell?, hgq, hlt]⟩

set_option maxHeartbeats 400000 in
theorem First_any (base p : Nat) (F N m : Int) (sv : Value) (vs : List Int) (w : World) (h : RingAt w base p F N m sv vs) (h1 : 1 ≤ m) :
    Calls Try.prog 14 #[.pointer (some ⟨p, 0, none⟩)] w fun e w' => e = .returned (.int .u64 F) ∧ w = w' := by
  have hm : (m == 0) = false := by simp; omega
  have HN := Lib.hid (none_ring p m w hm h.c3)
  have HF := Lib.hid (first_any p F w h.c0)
  clear h hm
  go_enter Try.func14, Try.ntmps14
  go_wp2_with (first | (go_at_call 24; refine HN.out.mono ?_; rintro e w' ⟨rfl, rfl⟩) | (go_at_call 29; refine HF.out.mono ?_; rintro e w' ⟨rfl, rfl⟩))
  go_ret
  exact ⟨rfl, rfl⟩

set_option maxHeartbeats 400000 in
theorem Next_any (base p : Nat) (F N m : Int) (sv : Value) (vs : List Int) (w : World) (h : RingAt w base p F N m sv vs) (h1 : 1 ≤ m) :
    Calls Try.prog 11 #[.pointer (some ⟨p, 0, none⟩)] w fun e w' => e = .returned (.int .u64 N) ∧ w = w' := by
  have hm : (m == 0) = false := by simp; omega
  have HN := Lib.hid (none_ring p m w hm h.c3)
  have HF := Lib.hid (next_any p N w h.c1)
  clear h hm
  go_enter Try.func11, Try.ntmps11
  go_wp2_with (first | (go_at_call 24; refine HN.out.mono ?_; rintro e w' ⟨rfl, rfl⟩) | (go_at_call 25; refine HF.out.mono ?_; rintro e w' ⟨rfl, rfl⟩))
  go_ret
  exact ⟨rfl, rfl⟩

set_option maxHeartbeats 400000 in
theorem Len_any (base p : Nat) (F N m : Int) (sv : Value) (vs : List Int) (w : World) (h : RingAt w base p F N m sv vs) (h1 : 1 ≤ m) (hF : 0 ≤ F) (hFN : F ≤ N) (hN : N ≤ 18446744073709551615) (hL : N - F ≤ 4096) :
    Calls Try.prog 13 #[.pointer (some ⟨p, 0, none⟩)] w fun e w' => e = .returned (.int .i64 (N - F)) ∧ w = w' := by
  have HN := Lib.hid (Next_any base p F N m sv vs w h h1)
  have HF := Lib.hid (First_any base p F N m sv vs w h h1)
  clear h
  go_enter Try.func13, Try.ntmps13
  go_wp2_with (first | (go_at_call 11; refine HN.out.mono ?_; rintro e w' ⟨rfl, rfl⟩) | (go_at_call 14; refine HF.out.mono ?_; rintro e w' ⟨rfl, rfl⟩))
  go_ret
  exact ⟨rfl, rfl⟩

set_option maxHeartbeats 400000 in
theorem Get_out (base p : Nat) (F N at' m : Int) (sv : Value) (vs : List Int) (w : World) (h : RingAt w base p F N m sv vs) (h1 : 1 ≤ m) (ho : outB at' F N = true) :
    Calls Try.prog 15 #[.pointer (some ⟨p, 0, none⟩), .int .u64 at'] w fun e w' => e = .returned (.tuple #[.int .i64 0, .bool false]) ∧ Below w.heap.size w w' := by
  have HT := Lib.hid (told_out base p F N at' m sv vs w h h1 ho)
  clear h ho
  go_enter Try.func15, Try.ntmps15
  go_wp2_with (go_at_call 27; refine HT.out.mono ?_; rintro e w1 ⟨rfl, hb1⟩)
  go_ret2
  exact ⟨rfl, hb1⟩

set_option maxHeartbeats 400000 in
theorem Get_in (base p : Nat) (F N at' m : Int) (sv : Value) (vs : List Int) (w : World) (h : RingAt w base p F N m sv vs) (hb : base ≤ w.heap.size) (ho : outB at' F N = false)
    (h1 : 1 ≤ m) (h2 : m ≤ 4096) (h3 : (vs.length : Int) ≤ 4096) (ha : 0 ≤ at') (ha2 : at' ≤ 18446744073709551615) (i : Nat) (him : at' % m = i) :
    Calls Try.prog 15 #[.pointer (some ⟨p, 0, none⟩), .int .u64 at'] w fun e w' => e = .returned (.tuple #[.int .i64 ((growTo vs (i + 1)).getD i 0), .bool true]) ∧ ∃ sv',
      RingAt w' base p F N m sv' (growTo vs (i + 1)) ∧ Step p sv sv' w w' := by
  have HT := Lib.hid (told_in base p F N at' m sv vs w h hb ho h1 h2 h3 ha ha2 i him)
  clear h ho him
  go_enter Try.func15, Try.ntmps15
  go_wp2_with (go_at_call 27; refine HT.out.mono ?_; rintro e w1 ⟨rfl, hb1⟩)
  go_ret2
  exact ⟨rfl, hb1⟩

end Go.Proofs.Ythiajgkifoimcaa
