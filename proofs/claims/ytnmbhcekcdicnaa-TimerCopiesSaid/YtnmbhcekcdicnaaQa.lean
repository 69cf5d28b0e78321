/-
  Rows as cells.
-/
import Derived.Test.YtnmbhcekcdicnaaQ
namespace Go.Proofs.Ytnmbhcekcdicnaa
open Go.RowKit
set_option linter.unusedVariables false
set_option linter.unusedSimpArgs false

def encR (l : List Rw) : List Value := l.flatMap fun r => [.int .i64 r.k, .int .u64 r.i, .int .u64 r.d]
theorem encR_cons (r : Rw) (l : List Rw) : encR (r :: l) = [.int .i64 r.k, .int .u64 r.i, .int .u64 r.d] ++ encR l := rfl
theorem encR_len (l : List Rw) : (encR l).length = l.length * 3 := by
  induction l with
  | nil => rfl
  | cons r l ih => rw [encR_cons, List.length_append, ih, List.length_cons]; simp; omega
theorem encR_app (a b : List Rw) : encR (a ++ b) = encR a ++ encR b := by simp [encR]
theorem encR_one (l : List Rw) : ∀ u ∈ encR l, u.oneCell' = true := by
  intro u hu
  simp only [encR, List.mem_flatMap] at hu
  obtain ⟨r, _, h⟩ := hu
  simp at h
  rcases h with rfl | rfl | rfl <;> rfl
theorem encR_at (l : List Rw) : ∀ j, j < l.length → (encR l)[j * 3]? = some (.int .i64 (rAt l j).k) ∧ (encR l)[j * 3 + 1]? = some (.int .u64 (rAt l j).i) ∧ (encR l)[j * 3 + 2]? = some (.int .u64 (rAt l j).d) := by
  induction l with
  | nil => intro j hj; simp at hj
  | cons r l ih =>
    intro j hj
    cases j with
    | zero => exact ⟨rfl, rfl, rfl⟩
    | succ j =>
      have := ih j (by simpa using hj)
      have e : rAt (r :: l) (j + 1) = rAt l j := rfl
      rw [e, encR_cons]
      have e0 : (j + 1) * 3 = j * 3 + 3 := by omega
      rw [e0]
      exact this
theorem encR_take (l : List Rw) (i : Nat) : encR (l.take i) = (encR l).take (i * 3) := by
  induction l generalizing i with
  | nil => simp [encR]
  | cons r l ih =>
    cases i with
    | zero => simp [encR]
    | succ i =>
      have e0 : (i + 1) * 3 = i * 3 + 3 := by omega
      rw [List.take_succ_cons, encR_cons, encR_cons, ih, e0]
      rfl
theorem encR_drop (l : List Rw) (i : Nat) : encR (l.drop i) = (encR l).drop (i * 3) := by
  induction l generalizing i with
  | nil => simp [encR]
  | cons r l ih =>
    cases i with
    | zero => simp
    | succ i =>
      have e0 : (i + 1) * 3 = i * 3 + 3 := by omega
      rw [List.drop_succ_cons, encR_cons, ih, e0]
      rfl
/-- What holds at each row holds at each cell. -/
theorem encR_cells {f : Nat → Option Value} {l : List Rw} (h : ∀ j, j < l.length → f (j * 3) = some (.int .i64 (rAt l j).k) ∧ f (j * 3 + 1) = some (.int .u64 (rAt l j).i) ∧ f (j * 3 + 2) = some (.int .u64 (rAt l j).d)) : ∀ q u, (encR l)[q]? = some u → f q = some u := by
  intro q u hq
  have hl : q < l.length * 3 := by rw [← encR_len]; exact (List.getElem?_eq_some_iff.1 hq).1
  have hj : q / 3 < l.length := by omega
  obtain ⟨a0, a1, a2⟩ := encR_at l (q / 3) hj
  obtain ⟨b0, b1, b2⟩ := h (q / 3) hj
  rcases (show q = q / 3 * 3 ∨ q = q / 3 * 3 + 1 ∨ q = q / 3 * 3 + 2 by omega) with e | e | e
  · rw [← e] at a0 b0; rw [b0, ← a0, hq]
  · rw [← e] at a1 b1; rw [b1, ← a1, hq]
  · rw [← e] at a2 b2; rw [b2, ← a2, hq]
/-- And the other way. -/
theorem encR_rows {f : Nat → Option Value} {l : List Rw} (h : ∀ q u, (encR l)[q]? = some u → f q = some u) : ∀ j, j < l.length → f (j * 3) = some (.int .i64 (rAt l j).k) ∧ f (j * 3 + 1) = some (.int .u64 (rAt l j).i) ∧ f (j * 3 + 2) = some (.int .u64 (rAt l j).d) := by
  intro j hj
  obtain ⟨a0, a1, a2⟩ := encR_at l j hj
  exact ⟨h _ _ a0, h _ _ a1, h _ _ a2⟩
end Go.Proofs.Ytnmbhcekcdicnaa
