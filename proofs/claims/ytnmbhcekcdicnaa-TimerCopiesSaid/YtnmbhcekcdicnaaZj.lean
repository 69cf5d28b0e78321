/-
  act, whatever it is handed.
-/
import Derived.Test.YtnmbhcekcdicnaaZb
import Derived.Test.YtnmbhcekcdicnaaZc
import Derived.Test.YtnmbhcekcdicnaaZd
import Derived.Test.YtnmbhcekcdicnaaZe
import Derived.Test.YtnmbhcekcdicnaaZf
import Derived.Test.YtnmbhcekcdicnaaZg
import Derived.Test.YtnmbhcekcdicnaaZh
import Derived.Test.YtnmbhcekcdicnaaZi
namespace Go.Proofs.Ytnmbhcekcdicnaa
open Go.RowKit
set_option linter.unusedVariables false
set_option linter.unusedSimpArgs false

theorem act_any {K : Nat → Prop} {p : Nat} {most : Int} {l : List Rw} {bo : Option Addr} {m bc : Nat} {w : World} (h : AS K p most l bo m bc w) (what k i n : Int) (k0 : -9223372036854775808 ≤ k) (k1 : k ≤ 9223372036854775807) (i0 : 0 ≤ i) (i1 : i ≤ 18446744073709551615) (n0 : 0 ≤ n) (n1 : n ≤ 18446744073709551615) :
    Calls Try.prog 11 #[.pointer (some ⟨p, 0, none⟩), .agg #[.slice bo m bc, .int .i64 most], .agg #[.int .i64 what, .int .i64 k, .int .u64 i, .int .u64 n]] w fun e w' => ∃ p' bo' m' bc', e = .returned (.tuple #[.pointer (some ⟨p', 0, none⟩), .agg #[.slice bo' m' bc', .int .i64 most], .bool true]) ∧ Acted K p' most (actL most l what k i n) bo' m' bc' w w' := by
  unfold actL
  by_cases h3 : 0 ≤ what ∧ what ≤ 3
  · rw [if_pos h3]
    rcases (show what = 0 ∨ what = 1 ∨ what = 2 ∨ what = 3 by omega) with e | e | e | e
    · exact act_set0 h what k i n k0 k1 i0 i1 n0 n1 e
    · exact act_set1 h what k i n k0 k1 i0 i1 n0 n1 e
    · exact act_set2 h what k i n k0 k1 i0 i1 n0 n1 e
    · exact act_set3 h what k i n k0 k1 i0 i1 n0 n1 e
  · rw [if_neg h3]
    by_cases h4 : what = 4
    · rw [if_pos h4]
      exact act_stop h what k i n k0 k1 i0 i1 n0 n1 h4
    · rw [if_neg h4]
      by_cases h5 : what = 5 ∨ what = 6
      · rw [if_pos h5]
        rcases h5 with e | e
        · exact act_pop5 h what k i n k0 k1 i0 i1 n0 n1 e
        · exact act_pop6 h what k i n k0 k1 i0 i1 n0 n1 e
      · rw [if_neg h5]
        exact act_copy h what k i n k0 k1 i0 i1 n0 n1 (by omega)
end Go.Proofs.Ytnmbhcekcdicnaa
