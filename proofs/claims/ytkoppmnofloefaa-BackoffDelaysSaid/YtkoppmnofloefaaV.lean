/-
  Same, of two that are there.
-/
import Derived.Test.YtkoppmnofloefaaH
import Derived.Laws.StructEq
namespace Go.Proofs.Ytkoppmnofloefaa
open Go.RowKit
set_option linter.unusedVariables false
set_option linter.unusedSimpArgs false

/-- Are two the same, number by number? -/
def eq5 (L M J base k L' M' J' base' k' : Int) : Bool := decide (L = L' ∧ M = M' ∧ J = J' ∧ base = base' ∧ k = k')
theorem eq5_symm (L M J base k L' M' J' base' k' : Int) : eq5 L M J base k L' M' J' base' k' = eq5 L' M' J' base' k' L M J base k := by
  unfold eq5
  congr 1
  apply propext
  constructor
  · rintro ⟨a, b, c, d, e⟩
    exact ⟨a.symm, b.symm, c.symm, d.symm, e.symm⟩
  · rintro ⟨a, b, c, d, e⟩
    exact ⟨a.symm, b.symm, c.symm, d.symm, e.symm⟩

theorem eql57 (L M J base k L' M' J' base' k' : Int) (w : World) :
    (binOp .eql 57 (.agg #[.int .u64 L, .int .u64 M, .int .u64 J, .int .u64 base, .int .i64 k, .bool true]) (.agg #[.int .u64 L', .int .u64 M', .int .u64 J', .int .u64 base', .int .i64 k', .bool true])).run Try.prog w = .ok (.bool (eq5 L M J base k L' M' J' base' k')) w := by
  unfold eq5
  go_simp
  by_cases h1 : L = L' <;> by_cases h2 : M = M' <;> by_cases h3 : J = J' <;> by_cases h4 : base = base' <;> by_cases h5 : k = k' <;> simp [h1, h2, h3, h4, h5]
theorem eql37 (L M J base k L' M' J' base' k' : Int) (w : World) :
    (binOp .eql 37 (.agg #[.int .u64 L, .int .u64 M, .int .u64 J, .int .u64 base, .int .i64 k]) (.agg #[.int .u64 L', .int .u64 M', .int .u64 J', .int .u64 base', .int .i64 k'])).run Try.prog w = .ok (.bool (eq5 L M J base k L' M' J' base' k')) w := by
  unfold eq5
  go_simp
  by_cases h1 : L = L' <;> by_cases h2 : M = M' <;> by_cases h3 : J = J' <;> by_cases h4 : base = base' <;> by_cases h5 : k = k' <;> simp [h1, h2, h3, h4, h5]
attribute [local go_sem high] eql57

set_option maxHeartbeats 1600000 in
set_option maxRecDepth 100000 in
theorem Same_bo (p q : Nat) (L M J base L' M' J' base' : Int) (k k' : Nat) (w : World) (h : Bo w p L M J base k) (g : Bo w q L' M' J' base' k') :
    Calls Try.prog 19 #[.pointer (some ⟨p, 0, none⟩), .pointer (some ⟨q, 0, none⟩)] w fun e w' => e = .returned (.bool (eq5 L M J base k L' M' J' base' k')) ∧ ∃ n, w' = w.drewN n := by
  have HN : Hid (∀ x, x = p ∨ x = q → Calls Try.prog 26 #[.pointer (some ⟨x, 0, none⟩)] w fun e w' => e = .returned (.bool false) ∧ w = w') := Lib.hid (by
    rintro x (rfl | rfl)
    · exact none_of x L M J base k w h
    · exact none_of x L' M' J' base' k' w g)
  obtain ⟨c0, c1, c2, c3, c4, c5⟩ := h.c
  obtain ⟨d0, d1, d2, d3, d4, d5⟩ := g.c
  clear h g
  go_enter Try.func19, Try.ntmps19
  go_wp2_with (go_at_call 26; refine (HN.out _ (by first | exact .inl rfl | exact .inr rfl)).mono ?_; rintro e w' ⟨rfl, rfl⟩)
  go_quiet (fail)
  go_wp2
  go_ret
  exact ⟨rfl, nq, rfl⟩
end Go.Proofs.Ytkoppmnofloefaa
