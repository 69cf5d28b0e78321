import Derived.Test.YthiajgkifoimcaaF
namespace Go.Proofs.Ythiajgkifoimcaa
open Go.RowKit
set_option linter.unusedVariables false
set_option linter.unusedSimpArgs false

theorem New_ok (base : Nat) (m x : Int) (w : World) (hb : base ≤ w.heap.size) (h1 : 1 ≤ m) (h2 : m ≤ 4096) :
    Calls Try.prog 8 #[.int .i64 m, .int .u64 x] w fun e w' => e = .returned (.tuple #[.pointer (some ⟨w.heap.size, 0, none⟩), .int .i64 0]) ∧
      RingAt w' base w.heap.size x x m (.slice none 0 0) [] ∧ Below w.heap.size w w' := by
  refine (new_ok m x w h1 h2).mono ?_
  rintro e w' ⟨rfl, rfl⟩
  exact ⟨rfl, ⟨alloc_blk_new _ _, World.ownsRow_nil _ _ _ _, fun k hk => by simp [Value.ownBlock] at hk, hb⟩, (Below.refl _ _).alloc (Nat.le_refl _) _⟩

set_option maxHeartbeats 400000 in
theorem new_bad (m x : Int) (w : World) (h : m < 1 ∨ 4096 < m) :
    Calls Try.prog 8 #[.int .i64 m, .int .u64 x] w fun e w' => e = .returned (.tuple #[.pointer none, .int .i64 2]) ∧ w = w' := by
  by_cases h1 : m < 1
  · go_enter Try.func8, Try.ntmps8
    go_wp2
    go_ret2
    exact ⟨rfl, rfl⟩
  · have h2 : 4096 < m := by omega
    go_enter Try.func8, Try.ntmps8
    go_wp2
    go_ret2
    exact ⟨rfl, rfl⟩

set_option maxHeartbeats 400000 in
theorem Drop_none (base p : Nat) (F N m : Int) (sv : Value) (vs : List Int) (w : World) (h : RingAt w base p F N m sv vs) (h1 : 1 ≤ m) (hFN : N ≤ F) :
    Calls Try.prog 12 #[.pointer (some ⟨p, 0, none⟩)] w fun e w' => e = .returned (.tuple #[.int .i64 0, .bool false]) ∧ Below w.heap.size w w' := by
  have HF := Lib.hid (First_any base p F N m sv vs w h h1)
  have HT := Lib.hid (told_out base p F N F m sv vs w h h1 (by simp [outB, hFN]))
  clear h
  go_enter Try.func12, Try.ntmps12
  go_wp2_with (first | (go_at_call 14; refine HF.out.mono ?_; rintro e w' ⟨rfl, rfl⟩) | (go_at_call 27; refine HT.out.mono ?_; rintro e w1 ⟨rfl, hb1⟩))
  go_ret2
  exact ⟨rfl, hb1⟩

set_option maxHeartbeats 400000 in
set_option maxRecDepth 100000 in
theorem Drop_some (base p : Nat) (F N m : Int) (sv : Value) (vs : List Int) (w : World) (h : RingAt w base p F N m sv vs) (hb : base ≤ w.heap.size) (h1 : 1 ≤ m) (h2 : m ≤ 4096) (h3 : (vs.length : Int) ≤ 4096) (ha : 0 ≤ F) (hFN : F < N) (ha2 : N ≤ 18446744073709551615)
    (i : Nat) (him : F % m = i) :
    Calls Try.prog 12 #[.pointer (some ⟨p, 0, none⟩)] w fun e w' => e = .returned (.tuple #[.int .i64 ((growTo vs (i + 1)).getD i 0), .bool true]) ∧ ∃ sv',
      RingAt w' base p (F + 1) N m sv' (growTo vs (i + 1)) ∧ Step p sv sv' w w' := by
  have HF := Lib.hid (First_any base p F N m sv vs w h h1)
  have HT := Lib.hid (told_in base p F N F m sv vs w h hb (by simp [outB]; omega) h1 h2 h3 ha (by omega) i him)
  clear h him
  go_enter Try.func12, Try.ntmps12
  go_wp2_with (first | (go_at_call 14; refine HF.out.mono ?_; rintro e w' ⟨rfl, rfl⟩) | (go_at_call 27; refine HT.out.mono ?_; rintro e w1 ⟨rfl, sv1, hr, hs⟩; have k0 := hr.c0; have kf := hr.fz 0; have HR := Lib.hid hr; have HS := Lib.hid hs; clear hr hs))
  go_region
  all_goals (go_wp2; go_ret2)
  all_goals
    obtain ⟨g1, g2⟩ := HR.out.setF (F + 1)
    have g3 : Step p sv1 sv1 _ _ := Step.of_below (p := p) (sv := sv1) ((Below.refl (w1.setCell ⟨p, 0, none⟩ (.int .u64 (F + 1))).heap.size _).drew)
    exact ⟨rfl, sv1, ⟨g1.blk, g1.row, g1.ne, g1.lo⟩, (HS.out.trans g2).trans g3⟩
end Go.Proofs.Ythiajgkifoimcaa
