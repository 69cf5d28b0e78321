/-
  Small functions of a queue.
-/
import Derived.Test.YtneeagabmdpjgaaB
namespace Go.Proofs.Ytneeagabmdpjgaa
open Go.RowKit
set_option linter.unusedVariables false
set_option linter.unusedSimpArgs false

theorem num_any (x : Int) (w : World) : Calls Try.prog 10 #[.int .i64 x] w fun e w' => e = .returned (.int .i64 x) ∧ w = w' := by
  go_enter Try.func10, Try.ntmps10
  go_wp2
  go_ret
  exact ⟨rfl, rfl⟩

theorem none_q (p : Nat) (w : World) (h : w.cell? ⟨p, 3, none⟩ = some (.bool true)) : Calls Try.prog 52 #[.pointer (some ⟨p, 0, none⟩)] w fun e w' => e = .returned (.bool false) ∧ w = w' := by
  go_enter Try.func52, Try.ntmps52
  go_wp2
  go_ret
  exact ⟨rfl, rfl⟩
theorem none_nil (w : World) : Calls Try.prog 52 #[.pointer none] w fun e w' => e = .returned (.bool true) ∧ w = w' := by
  go_enter Try.func52, Try.ntmps52
  go_wp2
  go_ret
  exact ⟨rfl, rfl⟩

set_option maxHeartbeats 800000 in
theorem left_any (base p g : Nat) (m : Int) (sv : Value) (vs : List Int) (w : World) (h : QAt w base p sv g m vs) (hg : g ≤ vs.length) (hl : vs.length ≤ 4194304) :
    ∃ ao, (ao = none → vs.length = 0) ∧ Arg (fun k => sv.ownBlock = some k) w ao (vs.length - g) (vs.drop g) ∧
    Calls Try.prog 57 #[.pointer (some ⟨p, 0, none⟩)] w fun e w' => e = .returned (.slice ao (vs.length - g) (vs.length - g)) ∧ ∃ q, w' = w.drewN q := by
  have c0 := h.c0
  have c1 := h.c1
  obtain ⟨a0, cap, rfl⟩ := row_slice h.row
  cases a0 with
  | none =>
    have h0 : vs.length = 0 ∧ cap = 0 := by
      rcases h.row.2 with ⟨e, _⟩ | ⟨g', c', cur, e, _⟩
      · injection e with e1 e2 e3
        exact ⟨e2, e3⟩
      · cases e
    obtain ⟨e1, rfl⟩ := h0
    obtain rfl : g = 0 := by omega
    refine ⟨none, fun _ => e1, ⟨by simp, fun hp => by omega⟩, ?_⟩
    rw [e1] at c0 ⊢
    clear h
    go_enter Try.func57, Try.ntmps57
    go_wp2
    go_quiet (fail)
    go_wp2
    go_ret
    exact ⟨rfl, _, rfl⟩
  | some ad =>
    obtain ⟨b, cap', cur, hv, hbb, hgg, hnc, hcm, hcs, htk⟩ : ∃ g' cap' cur, (Value.slice (some ad) vs.length cap) = .slice (some ⟨g', 0, none⟩) vs.length cap' ∧ base ≤ g' ∧ w.heap[g']? = some (.cells cur 5 (0, 0)) ∧ vs.length ≤ cap' ∧ cap' ≤ maxLen ∧ cur.size = cap' * 1 ∧ cur.toList.take (vs.length * 1) = vs.map (.int .u8) := by
      rcases h.row.2 with ⟨e, _⟩ | h'
      · cases e
      · exact h'
    injection hv with e1 e2 e3
    injection e1 with e1
    subst e1; subst e3
    have hw := row_window h.row g (vs.length - g) (by omega)
    clear hgg htk hcs h
    by_cases hlt : g < vs.length
    · obtain ⟨b', e, ha⟩ := hw (by omega)
      cases e
      refine ⟨some ⟨b, g, none⟩, by simp, by rw [List.take_of_length_le (by simp)] at ha; exact ha, ?_⟩
      clear hw ha
      go_enter Try.func57, Try.ntmps57
      go_wp2
      go_quiet (fail)
      go_wp2
      go_ret
      exact ⟨rfl, _, rfl⟩
    · obtain rfl : g = vs.length := by omega
      refine ⟨some ⟨b, 0, none⟩, by simp, ⟨by simp, fun hp => by omega⟩, ?_⟩
      clear hw
      go_enter Try.func57, Try.ntmps57
      go_wp2
      go_quiet (fail)
      go_wp2
      go_ret
      exact ⟨by rw [Nat.sub_self]; rfl, _, rfl⟩
end Go.Proofs.Ytneeagabmdpjgaa
