import Derived.Test.YtagdenhcbafblaaB
namespace Go.Proofs.Ytagdenhcbafblaa
open Go.RowKit
set_option linter.unusedVariables false
set_option linter.unusedSimpArgs false

set_option maxHeartbeats 1600000 in
/-- So many go: what went is counted, up to the last number. -/
theorem goes_wi (p : Nat) (l g n : Int) (s : Bool) (w : World) (h : Wi w p l g s) (hn : 0 ≤ n) (hnl : n ≤ l) : Calls Try.prog 26 #[.pointer (some ⟨p, 0, none⟩), .int .u64 n] w fun e w' => e = .returned (.tuple #[]) ∧ Wi w' p (l - n) (min (g + n) 18446744073709551615) s ∧ Mod (fun q => q = p) w w' := by
  have c0 := h.c.1
  have f0 := h.f 0
  have hp := h.lt
  have b1 := h.l1
  have b2 := h.g0
  have b3 := h.g1
  have h1 := h.setL (l - n) (by omega) (by omega)
  obtain ⟨w1, hw1⟩ : ∃ w1, w1 = (w.setCell ⟨p, 0, none⟩ (.int .u64 (l - n))).drew := ⟨_, rfl⟩
  have H1 : Hid (Wi w1 p (l - n) g s) := by rw [hw1]; exact Lib.hid (h1.1.drewN 1)
  have M1 : Hid (Mod (fun q => q = p) w w1) := by rw [hw1]; exact Lib.hid (h1.2.drewN 1)
  have HG := Lib.hid (gone_wi p (l - n) g s w1 H1.out)
  have c1 := H1.out.c.2.1
  have f1 := H1.out.f 1
  have HW1 := Lib.hid hw1
  clear h h1 hw1
  by_cases hs : g + n ≤ 18446744073709551615
  · have HA := Lib.hid (add_ok g n w1 b2 hn hs)
    obtain ⟨y, hy⟩ : ∃ y, y = g + n := ⟨_, rfl⟩
    have h2 := H1.out.setG y (by omega) (by omega)
    rw [show min (g + n) 18446744073709551615 = y by omega]
    rw [← hy] at HA
    have H2 := Lib.hid (And.intro h2.1 (M1.out.trans h2.2 (fun _ _ e => e)))
    clear hs hy h2
    go_enter Try.func26, Try.ntmps26
    go_wp2
    go_region
    all_goals
      rw [← HW1.out]
      go_wp2_with (first | (go_at_call 27; refine HG.out.mono ?_; rintro e w' ⟨rfl, rfl⟩) | (go_at_call 36; refine HA.out.mono ?_; rintro e w' ⟨rfl, rfl⟩))
      go_end0
      exact ⟨rfl, H2.out⟩
  · have HA := Lib.hid (add_no g n w1 hn b2 (by omega) (by omega) (by omega))
    have h2 := H1.out.setG 18446744073709551615 (by omega) (by omega)
    rw [show min (g + n) 18446744073709551615 = 18446744073709551615 by omega]
    have H2 := Lib.hid (And.intro h2.1 (M1.out.trans h2.2 (fun _ _ e => e)))
    clear hs h2
    go_enter Try.func26, Try.ntmps26
    go_wp2
    go_region
    all_goals
      rw [← HW1.out]
      go_wp2_with (first | (go_at_call 27; refine HG.out.mono ?_; rintro e w' ⟨rfl, rfl⟩) | (go_at_call 36; refine HA.out.mono ?_; rintro e w' ⟨rfl, rfl⟩))
      go_end0
      exact ⟨rfl, H2.out⟩

set_option maxHeartbeats 1600000 in
theorem Take_bad (p : Nat) (l g n : Int) (s : Bool) (w : World) (h : Wi w p l g s) (hn : n < 0) : Calls Try.prog 11 #[.pointer (some ⟨p, 0, none⟩), .int .i64 n] w fun e w' => e = .returned (.tuple #[.int .i64 0, .int .i64 2]) ∧ w = w' := by
  have HN := Lib.hid (none_wi p l g s w h)
  clear h
  go_enter Try.func11, Try.ntmps11
  go_wp2
  refine wp_scope_fwd 0 rfl ?_
  go_wp2_with (go_at_call 24; refine HN.out.mono ?_; rintro e w' ⟨rfl, rfl⟩)
  refine wp_goto ?_
  refine ⟨rfl, ?_⟩
  go_wp2
  try rw [Exit.noGoto_ret]
  go_ret2
  exact ⟨rfl, rfl⟩

set_option maxHeartbeats 1600000 in
theorem Take_wi (p : Nat) (l g n : Int) (s : Bool) (w : World) (h : Wi w p l g s) (hn : 0 ≤ n) (hn2 : n ≤ 9223372036854775807) : Calls Try.prog 11 #[.pointer (some ⟨p, 0, none⟩), .int .i64 n] w fun e w' =>
    e = .returned (.tuple #[.int .i64 (min n l), .int .i64 0]) ∧ Wi w' p (l - min n l) (min (g + min n l) 18446744073709551615) s ∧ Mod (fun q => q = p) w w' := by
  have HN := Lib.hid (none_wi p l g s w h)
  have HL := Lib.hid (left_wi p l g s w h)
  have b0 := h.l0
  have b1 := h.l1
  obtain ⟨k, hk⟩ : ∃ k, k = min n l := ⟨_, rfl⟩
  have hk0 : 0 ≤ k := by omega
  have hk1 : k ≤ l := by omega
  have HG := Lib.hid (goes_wi p l g k s w h hk0 hk1)
  rw [← hk]
  have key : (n < l ∧ k = n) ∨ (l < n ∧ k = l) ∨ (n = l ∧ k = l) := by omega
  clear h hk hk0 hk1
  rcases key with ⟨a, rfl⟩ | ⟨a, rfl⟩ | ⟨rfl, rfl⟩
  all_goals
    go_enter Try.func11, Try.ntmps11
    go_wp2
    refine wp_scope_straight ?_
    go_wp2_with (first | (go_at_call 24; refine HN.out.mono ?_; rintro e w' ⟨rfl, rfl⟩) | (go_at_call 25; refine HL.out.mono ?_; rintro e w' ⟨rfl, rfl⟩) | (go_at_call 26; refine HG.out.mono ?_; rintro e w' ⟨rfl, hw⟩; have HW := Lib.hid hw; clear hw))
    try rw [Exit.noGoto_ret]
    go_ret2
    exact ⟨rfl, HW.out⟩
end Go.Proofs.Ytagdenhcbafblaa
