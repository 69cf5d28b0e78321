/-
  The calls that came in; strings of bytes; few.
-/
import Derived.Test.YtneeagabmdpjgaaH
import Derived.Laws.BytesArg
import Derived.Laws.Concat
namespace Go.Proofs.Ytneeagabmdpjgaa
open Go.RowKit
set_option linter.unusedVariables false
set_option linter.unusedSimpArgs false

theorem conv_any {T : Nat → Prop} {w : World} {a : Option Addr} {xs : List Int} (c : Nat) (h : Arg T w a xs.length xs) (hn : a = none → xs.length = 0 ∧ c = 0) :
    (convert 29 9 (.slice a xs.length c)).run Try.prog w = .ok (.string (strOfNums xs)) w := by
  by_cases hp : 0 < xs.length
  · obtain ⟨b, off, rfl, hb, _, hc⟩ := h.2 hp
    exact run_convert_bytes_arg w 29 5 Try.underlying29 Try.underlying5 b off xs.length c xs rfl hc 9 Try.underlying9
  · have h0 : xs = [] := List.eq_nil_of_length_eq_zero (by omega)
    subst h0
    show (convert 29 9 (.slice a 0 c)).run Try.prog w = .ok (.string ByteArray.empty) w
    rw [run_convert_bytes_string w 29 9 5 _ 0 c Try.underlying29 Try.underlying5 Try.underlying9]
    cases a <;> simp [Conv.bytesToString, loadCells]
    all_goals rfl
theorem strOfNums_append (a b : List Int) : strOfNums (a ++ b) = strOfNums a ++ strOfNums b := by
  apply ByteArray.ext
  simp [strOfNums]
end Go.Proofs.Ytneeagabmdpjgaa
