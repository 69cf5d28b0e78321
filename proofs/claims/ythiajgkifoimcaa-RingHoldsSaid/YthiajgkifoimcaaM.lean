/-
  RingHolds where it asks nothing.
-/
import Derived.Test.YthiajgkifoimcaaK
namespace Go.Proofs.Ythiajgkifoimcaa
open Go.RowKit
set_option linter.unusedVariables false
set_option linter.unusedSimpArgs false

def Yes (w : World) (e : Ending) (w' : World) : Prop := e = .returned (.bool true) ∧ Below w.heap.size w w'

set_option maxHeartbeats 1600000 in
set_option maxRecDepth 100000 in
theorem ringHolds_out (most first : Int) (ao : Option Addr) (n cap : Nat) (w : World) (h : 80 < n ∨ most < 1 ∨ 4096 < most) (hn : n ≤ maxLen) :
    Calls Try.prog 3 #[.int .i64 most, .int .u64 first, .slice ao n cap] w (Yes w) := by
  unfold maxLen at hn
  have HW := Lib.hid (works_true w)
  by_cases h1 : 80 < n
  · have hd : decide (80 < n) = true := by simpa using h1
    clear h
    go_enter Try.func3, Try.ntmps3
    go_wp2_with (go_at_call 7; refine HW.out.mono ?_; rintro e w' ⟨rfl, hb⟩)
    go_ret
    exact ⟨rfl, hb⟩
  · have hd : decide (80 < n) = false := by simpa using h1
    by_cases h2 : most < 1
    · have hd2 : decide (most < 1) = true := by simpa using h2
      clear h
      go_enter Try.func3, Try.ntmps3
      go_wp2_with (go_at_call 7; refine HW.out.mono ?_; rintro e w' ⟨rfl, hb⟩)
      go_ret
      exact ⟨rfl, hb⟩
    · have hd2 : decide (most < 1) = false := by simpa using h2
      have h3 : 4096 < most := by omega
      clear h
      go_enter Try.func3, Try.ntmps3
      go_wp2_with (go_at_call 7; refine HW.out.mono ?_; rintro e w' ⟨rfl, hb⟩)
      go_ret
      exact ⟨rfl, hb⟩

end Go.Proofs.Ythiajgkifoimcaa
