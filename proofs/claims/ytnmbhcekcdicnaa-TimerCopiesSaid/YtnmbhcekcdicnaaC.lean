/-
  How two rows stand: cmp.Compare, cmp.Or, order; the kinds.
-/
import Derived.Test.YtnmbhcekcdicnaaB
namespace Go.Proofs.Ytnmbhcekcdicnaa
open Go.RowKit
set_option linter.unusedVariables false
set_option linter.unusedSimpArgs false

theorem Below.drewN' (w : World) (n : Nat) : Below w.heap.size w (w.drewN n) := ⟨rfl, rfl, rfl, Nat.le_refl _, fun _ _ => rfl⟩
theorem nan50 (a : Int) (w : World) : Calls Try.prog 50 #[.int .u64 a] w fun e w' => e = .returned (.bool false) ∧ w = w' := by
  have h : (a != a) = false := by simp
  go_enter Try.func50, Try.ntmps50
  go_wp2
  go_ret
  simp
theorem nan51 (a : Int) (w : World) : Calls Try.prog 51 #[.int .i64 a] w fun e w' => e = .returned (.bool false) ∧ w = w' := by
  have h : (a != a) = false := by simp
  go_enter Try.func51, Try.ntmps51
  go_wp2
  go_ret
  simp
theorem compare44 (a b : Int) (w : World) : Calls Try.prog 44 #[.int .u64 a, .int .u64 b] w fun e w' => e = .returned (.int .i64 (cmpI a b)) ∧ w = w' := by
  have HN := Lib.hid nan50
  obtain ⟨c, hc⟩ : ∃ c, c = cmpI a b := ⟨_, rfl⟩
  rw [← hc]
  unfold cmpI at hc
  by_cases h1 : a < b
  · rw [if_pos h1] at hc
    have d1 : decide (a < b) = true := by simpa using h1
    subst hc
    clear h1
    go_enter Try.func44, Try.ntmps44
    go_wp2_with (go_at_call 50; refine (HN.out _ _).mono ?_; rintro e w' ⟨rfl, rfl⟩)
    go_ret
    exact ⟨rfl, rfl⟩
  rw [if_neg h1] at hc
  have d1 : decide (a < b) = false := by simpa using h1
  by_cases h2 : b < a
  · rw [if_pos h2] at hc
    have d2 : decide (b < a) = true := by simpa using h2
    subst hc
    clear h1 h2
    go_enter Try.func44, Try.ntmps44
    go_wp2_with (go_at_call 50; refine (HN.out _ _).mono ?_; rintro e w' ⟨rfl, rfl⟩)
    go_ret
    exact ⟨rfl, rfl⟩
  rw [if_neg h2] at hc
  have d2 : decide (b < a) = false := by simpa using h2
  subst hc
  clear h1 h2
  go_enter Try.func44, Try.ntmps44
  go_wp2_with (go_at_call 50; refine (HN.out _ _).mono ?_; rintro e w' ⟨rfl, rfl⟩)
  go_ret
  exact ⟨rfl, rfl⟩
theorem compare46 (a b : Int) (w : World) : Calls Try.prog 46 #[.int .i64 a, .int .i64 b] w fun e w' => e = .returned (.int .i64 (cmpI a b)) ∧ w = w' := by
  have HN := Lib.hid nan51
  obtain ⟨c, hc⟩ : ∃ c, c = cmpI a b := ⟨_, rfl⟩
  rw [← hc]
  unfold cmpI at hc
  by_cases h1 : a < b
  · rw [if_pos h1] at hc
    have d1 : decide (a < b) = true := by simpa using h1
    subst hc
    clear h1
    go_enter Try.func46, Try.ntmps46
    go_wp2_with (go_at_call 51; refine (HN.out _ _).mono ?_; rintro e w' ⟨rfl, rfl⟩)
    go_ret
    exact ⟨rfl, rfl⟩
  rw [if_neg h1] at hc
  have d1 : decide (a < b) = false := by simpa using h1
  by_cases h2 : b < a
  · rw [if_pos h2] at hc
    have d2 : decide (b < a) = true := by simpa using h2
    subst hc
    clear h1 h2
    go_enter Try.func46, Try.ntmps46
    go_wp2_with (go_at_call 51; refine (HN.out _ _).mono ?_; rintro e w' ⟨rfl, rfl⟩)
    go_ret
    exact ⟨rfl, rfl⟩
  rw [if_neg h2] at hc
  have d2 : decide (b < a) = false := by simpa using h2
  subst hc
  clear h1 h2
  go_enter Try.func46, Try.ntmps46
  go_wp2_with (go_at_call 51; refine (HN.out _ _).mono ?_; rintro e w' ⟨rfl, rfl⟩)
  go_ret
  exact ⟨rfl, rfl⟩
/-- Or of two. -/
theorem or45 (x y : Int) (g : Nat) (w : World) (hg : g < w.heap.size) (h0 : w.cell? ⟨g, 0, none⟩ = some (.int .i64 x)) (h1 : w.cell? ⟨g, 1, none⟩ = some (.int .i64 y)) :
    Calls Try.prog 45 #[.slice (some ⟨g, 0, none⟩) 2 2] w fun e w' => e = .returned (.int .i64 (if x ≠ 0 then x else y)) ∧ w = w' := by
  obtain ⟨c, hc⟩ : ∃ c, c = if x ≠ 0 then x else y := ⟨_, rfl⟩
  rw [← hc]
  have H0 := Lib.hid h0
  have H1 := Lib.hid h1
  by_cases hx : x = 0
  · subst hx
    rw [if_neg (by simp)] at hc
    subst hc
    by_cases hy : c = 0
    · subst hy
      clear h0 h1
      go_enter Try.func45, Try.ntmps45
      have c0 := H0.out
      have c1 := H1.out
      go_wp2_with fail
      refine wp_loop_rounds 3 ?_
      rw [rounds_succ]
      go_wp2_with fail
      rw [rounds_succ]
      go_wp2_with fail
      rw [rounds_succ]
      go_wp2_with fail
      go_ret
      exact ⟨rfl, rfl⟩
    · have d : (c != 0) = true := by simpa using hy
      go_enter Try.func45, Try.ntmps45
      go_wp2_with fail
      refine wp_loop_rounds 3 ?_
      rw [rounds_succ]
      go_wp2_with fail
      rw [rounds_succ]
      go_wp2_with fail
      go_ret
      exact ⟨rfl, rfl⟩
  · rw [if_pos hx] at hc
    subst hc
    have d : (c != 0) = true := by simpa using hx
    go_enter Try.func45, Try.ntmps45
    go_wp2_with fail
    refine wp_loop_rounds 3 ?_
    rw [rounds_succ]
    go_wp2_with fail
    go_ret
    exact ⟨rfl, rfl⟩
theorem kinds42 (w : World) : Calls Try.prog 42 #[] w fun e w' => e = .returned (.agg #[.int .i64 1, .int .i64 4]) ∧ Below w.heap.size w w' := by
  go_enter Try.func42, Try.ntmps42
  go_wp2
  refine bodyPost_ret (v := .agg #[.int .i64 1, .int .i64 4]) (by simp [results, Try.f42, go_sem]) rfl ⟨rfl, ?_⟩
  exact (Below.refl _ w).alloc (Nat.le_refl _) _
/-- Is it a Kind? -/
def isKind (k : Int) : Bool := decide (1 ≤ k) && decide (k ≤ 4)
theorem kind35 (k : Int) (w : World) : Calls Try.prog 35 #[.int .i64 k] w fun e w' => e = .returned (.bool (isKind k)) ∧ Below w.heap.size w w' := by
  have HK := Lib.hid kinds42
  obtain ⟨b, hb⟩ : ∃ b, b = isKind k := ⟨_, rfl⟩
  rw [← hb]
  unfold isKind at hb
  by_cases h1 : 1 ≤ k
  · have d1 : decide (1 ≤ k) = true := by simpa using h1
    rw [d1, Bool.true_and] at hb
    obtain ⟨b2, hb2⟩ : ∃ b2, b2 = decide (k ≤ 4) := ⟨_, rfl⟩
    rw [← hb2] at hb
    subst hb
    have d2 : decide (k ≤ 4) = b := hb2.symm
    clear h1 hb2
    go_enter Try.func35, Try.ntmps35
    go_wp2_with (go_at_call 42; fail)
    refine (HK.out _).mono ?_
    rintro e w1 ⟨rfl, hb1⟩
    have HB := Lib.hid (hb1.alloc hb1.size (.cells #[.int .i64 1, .int .i64 4] 93))
    clear hb1
    cases b with
    | true =>
      go_wp2
      go_ret
      exact ⟨rfl, HB.out⟩
    | false =>
      go_wp2
      go_ret
      exact ⟨rfl, HB.out⟩
  · have d1 : decide (1 ≤ k) = false := by simpa using h1
    rw [d1, Bool.false_and] at hb
    subst hb
    clear h1
    go_enter Try.func35, Try.ntmps35
    go_wp2_with (go_at_call 42; fail)
    refine (HK.out _).mono ?_
    rintro e w1 ⟨rfl, hb1⟩
    have HB := Lib.hid (hb1.alloc hb1.size (.cells #[.int .i64 1, .int .i64 4] 93))
    clear hb1
    go_wp2
    go_ret
    exact ⟨rfl, HB.out⟩
end Go.Proofs.Ytnmbhcekcdicnaa
