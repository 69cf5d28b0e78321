/-
  A call by both, whatever it be.
-/
import Derived.Test.YtkoppmnofloefaaQ
import Derived.Test.YtkoppmnofloefaaJ
import Derived.Test.YtkoppmnofloefaaR
namespace Go.Proofs.Ytkoppmnofloefaa
open Go.RowKit
set_option linter.unusedVariables false
set_option linter.unusedSimpArgs false

theorem act_any (p : Nat) (L M J base d what : Int) (k : Nat) (w : World) (h : Bo w p L M J base k) (hd : 0 ≤ d) :
    Calls Try.prog 15 #[.pointer (some ⟨p, 0, none⟩), .agg #[.int .u64 L, .int .u64 M, .int .u64 J, .int .u64 base, .int .i64 k], .agg #[.int .i64 what, .int .u64 d]] w fun e w' => ∃ base' k', Acted w p L M J base' k' e w' := by
  rcases (show (0 ≤ what ∧ what ≤ 2) ∨ what = 3 ∨ what = 4 ∨ what = 5 ∨ (6 ≤ what ∨ what < 0) by omega) with c | rfl | rfl | rfl | c
  · exact (act_next p L M J base d what k w h hd c).mono fun e w' q => ⟨_, _, q⟩
  · exact (act_peek p L M J base d k w h hd).mono fun e w' q => ⟨_, _, q⟩
  · exact (act_set p L M J base d k w h).mono fun e w' q => ⟨_, _, q⟩
  · exact (act_reset p L M J base d k w h).mono fun e w' q => ⟨_, _, q⟩
  · exact (act_copy p L M J base d what k w h c).mono fun e w' q => ⟨_, _, q⟩
end Go.Proofs.Ytkoppmnofloefaa
