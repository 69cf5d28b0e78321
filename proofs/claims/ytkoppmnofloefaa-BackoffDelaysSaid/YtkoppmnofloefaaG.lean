/-
  The reference's functions on a backoff.
-/
import Derived.Test.YtkoppmnofloefaaE
namespace Go.Proofs.Ytkoppmnofloefaa
open Go.RowKit
set_option linter.unusedVariables false
set_option linter.unusedSimpArgs false

theorem refRight (L M J : Int) (w : World) :
    Calls Try.prog 17 #[.agg #[.int .u64 L, .int .u64 M, .int .u64 J]] w fun e w' => e = .returned (.bool (okW L M J)) ∧ Below w.heap.size w w' := by
  have HB : Below w.heap.size w (w.alloc (.cells #[.int .u64 L, .int .u64 M, .int .u64 J] 24)) := (Below.refl _ w).alloc (Nat.le_refl _) _
  have HB := Lib.hid HB
  have key : (okW L M J = false ∧ decide (1 ≤ L) = false) ∨ (okW L M J = false ∧ decide (1 ≤ L) = true ∧ decide (L ≤ M) = false) ∨ (okW L M J = false ∧ decide (1 ≤ L) = true ∧ decide (L ≤ M) = true ∧ decide (M ≤ 1099511627776) = false) ∨
      (okW L M J = false ∧ decide (1 ≤ L) = true ∧ decide (L ≤ M) = true ∧ decide (M ≤ 1099511627776) = true ∧ decide (J ≤ 1099511627776) = false) ∨ (okW L M J = true ∧ decide (1 ≤ L) = true ∧ decide (L ≤ M) = true ∧ decide (M ≤ 1099511627776) = true ∧ decide (J ≤ 1099511627776) = true) := by
    simp only [okW, decide_eq_true_eq, decide_eq_false_iff_not]
    omega
  rcases key with ⟨e, a⟩ | ⟨e, a, b⟩ | ⟨e, a, b, c⟩ | ⟨e, a, b, c, d⟩ | ⟨e, a, b, c, d⟩
  all_goals
    rw [e]
    clear e
    go_enter Try.func17, Try.ntmps17
    go_wp2
    go_ret
    exact ⟨rfl, HB.out⟩

set_option maxHeartbeats 800000 in
theorem refDelay (L M J base draw : Int) (k : Nat) (w : World) (h1 : 1 ≤ base) (hM : base ≤ M) (hM2 : M ≤ 1099511627776) (hJ : 0 ≤ J) (hJ2 : J ≤ 1099511627776) (hd : 0 ≤ draw) (hk : k ≤ 64) :
    Calls Try.prog 30 #[.agg #[.int .u64 L, .int .u64 M, .int .u64 J, .int .u64 base, .int .i64 k], .int .u64 draw] w fun e w' => e = .returned (.int .u64 (delayOf M J base k draw)) ∧ Below w.heap.size w w' := by
  have HB : Below w.heap.size w (w.alloc (.cells #[.int .u64 L, .int .u64 M, .int .u64 J, .int .u64 base, .int .i64 k] 37)) := (Below.refl _ w).alloc (Nat.le_refl _) _
  have HB := Lib.hid HB
  have r1 := Int.emod_nonneg draw (show J + 1 ≠ 0 by omega)
  have r2 := Int.emod_lt_of_pos draw (show 0 < J + 1 by omega)
  go_enter Try.func30, Try.ntmps30
  go_wp2
  go_loopg [5, 6] k (fun gk v5 v6 wr => wr = w.alloc (.cells #[.int .u64 L, .int .u64 M, .int .u64 J, .int .u64 base, .int .i64 k] 37) ∧ ∃ (i : Nat) (n : Int), v6 = .int .i64 i ∧ v5 = .int .u64 n ∧ n = base * 2 ^ i ∧ i ≤ k ∧ gk = k - i ∧ n ≤ 2199023255552)
  case atStart => exact ⟨rfl, 0, base, rfl, rfl, by simp, by omega, rfl, by omega⟩
  case round =>
    obtain ⟨rfl, i, n, rfl, rfl, hn, hi, hgk, hn2⟩ := hrel
    have HN := Lib.hid hn
    have HG := Lib.hid hgk
    have hn0 : 0 ≤ n := by rw [hn]; exact Int.mul_nonneg (by omega) (by have := two_pow_pos i; omega)
    clear hn hgk
    by_cases g1 : i < k
    · have d1 : decide ((i : Int) < (k : Int)) = true := by simp; omega
      have d1n : decide (i < k) = true := by simpa using g1
      by_cases g2 : n < M
      · have d2 : decide (n < M) = true := by simpa using g2
        go_wp2
        go_roundg (k - (i + 1))
        case measure => have := HG.out; omega
        case rel => exact ⟨rfl, i + 1, 2 * n, by go_num, by go_num, by rw [HN.out, Int.pow_succ, Int.mul_comm (2 ^ i) 2, ← Int.mul_assoc, ← Int.mul_assoc, Int.mul_comm 2 base], by omega, rfl, by omega⟩
      · have d2 : decide (n < M) = false := by simpa using g2
        go_wp2
        go_region
        all_goals go_wp2
        all_goals go_ret
        all_goals
          refine ⟨ret_one ?_, HB.out.drew⟩
          have e := Int.mul_le_mul_of_nonneg_left (two_pow_le (show i ≤ k by omega)) (show 0 ≤ base by omega)
          have := HN.out
          unfold delayOf
          omega
    · have d1 : decide ((i : Int) < (k : Int)) = false := by simp; omega
      have d1n : decide (i < k) = false := by simpa using g1
      go_wp2
      go_region
      all_goals go_wp2
      all_goals go_ret
      all_goals
        refine ⟨ret_one ?_, HB.out.drew⟩
        have := HN.out
        obtain rfl : i = k := by omega
        unfold delayOf
        omega
end Go.Proofs.Ytkoppmnofloefaa
