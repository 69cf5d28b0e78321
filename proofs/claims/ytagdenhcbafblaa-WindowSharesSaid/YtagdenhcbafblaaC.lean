import Derived.Test.YtagdenhcbafblaaB
namespace Go.Proofs.Ytagdenhcbafblaa
open Go.RowKit
set_option linter.unusedVariables false
set_option linter.unusedSimpArgs false

/-- What may go behind a grant. -/
def granted (l n : Int) (s : Bool) : Int := if s then l else min 1099511627776 (l + min n 1099511627776)
set_option maxHeartbeats 800000 in
theorem Grant_shut (p : Nat) (l g n : Int) (w : World) (h : Wi w p l g true) : Calls Try.prog 9 #[.pointer (some ⟨p, 0, none⟩), .int .u64 n] w fun e w' => e = .returned (.tuple #[.int .u64 l, .int .i64 0]) ∧ w = w' := by
  have HN := Lib.hid (none_wi p l g true w h)
  have HL := Lib.hid (left_wi p l g true w h)
  have c2 := h.c.2.2.1
  clear h
  go_enter Try.func9, Try.ntmps9
  go_wp2_with (first | (go_at_call 24; refine HN.out.mono ?_; rintro e w' ⟨rfl, rfl⟩) | (go_at_call 25; refine HL.out.mono ?_; rintro e w' ⟨rfl, rfl⟩))
  go_ret2
  exact ⟨rfl, rfl⟩
set_option maxHeartbeats 1600000 in
theorem Grant_open (p : Nat) (l g n : Int) (w : World) (h : Wi w p l g false) (hn : 0 ≤ n) : Calls Try.prog 9 #[.pointer (some ⟨p, 0, none⟩), .int .u64 n] w fun e w' => e = .returned (.tuple #[.int .u64 (granted l n false), .int .i64 0]) ∧ Wi w' p (granted l n false) g false ∧ Mod (fun q => q = p) w w' := by
  have HN := Lib.hid (none_wi p l g false w h)
  have HL := Lib.hid (fun (W : World) (hW : Wi W p l g false) => left_wi p l g false W hW)
  have c0 := h.c.1
  have c2 := h.c.2.2.1
  have f0 := h.f 0
  have H := Lib.hid h
  have b0 := h.l0
  have b1 := h.l1
  clear h
  obtain ⟨x, hx⟩ : ∃ x, x = granted l n false := ⟨_, rfl⟩
  have key : (1099511627776 < n ∧ x = 1099511627776) ∨ (n ≤ 1099511627776 ∧ l + n < 1099511627776 ∧ x = l + n) ∨ (n ≤ 1099511627776 ∧ 1099511627776 ≤ l + n ∧ x = 1099511627776) := by rw [hx]; unfold granted; simp; omega
  have HW := Lib.hid (H.out.setL x (by omega) (by omega))
  have HL2 := Lib.hid (fun (W : World) (hW : Wi W p x g false) => left_wi p x g false W hW)
  rw [← hx]
  clear hx
  have s1 : IntKind.u64.wrap (l + 1099511627776) = l + 1099511627776 := IntWalk.u64_in _ (by omega)
  rcases (show (1099511627776 < n ∧ x = 1099511627776) ∨ (n ≤ 1099511627776 ∧ l + n < 1099511627776 ∧ x = l + n ∧ IntKind.u64.wrap (l + n) = l + n) ∨ (n ≤ 1099511627776 ∧ 1099511627776 ≤ l + n ∧ x = 1099511627776 ∧ IntKind.u64.wrap (l + n) = l + n) by
    rcases key with k | k | k
    · exact .inl k
    · exact .inr (.inl ⟨k.1, k.2.1, k.2.2, IntWalk.u64_in _ (by omega)⟩)
    · exact .inr (.inr ⟨k.1, k.2.1, k.2.2, IntWalk.u64_in _ (by omega)⟩)) with ⟨a, rfl⟩ | ⟨a, a', rfl, s2⟩ | ⟨a, a', rfl, s2⟩
  all_goals
    go_enter Try.func9, Try.ntmps9
    go_wp2_with (go_at_call 24; refine HN.out.mono ?_; rintro e w' ⟨rfl, rfl⟩)
    go_region_with (go_at_call 25; refine (HL.out _ (H.out.drewN 1)).mono ?_; rintro e w' ⟨rfl, rfl⟩)
  all_goals
    go_wp2_with (go_at_call 25; refine (HL2.out _ (HW.out.1.drewN 1)).mono ?_; rintro e w' ⟨rfl, rfl⟩)
    go_ret2
    exact ⟨rfl, HW.out.1.drewN 1, HW.out.2.drewN 1⟩

end Go.Proofs.Ytagdenhcbafblaa
