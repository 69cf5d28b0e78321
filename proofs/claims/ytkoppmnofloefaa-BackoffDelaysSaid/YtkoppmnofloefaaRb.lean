/-
  What is told of none.
-/
import Derived.Test.YtkoppmnofloefaaRa
namespace Go.Proofs.Ytkoppmnofloefaa
open Go.RowKit
set_option linter.unusedVariables false
set_option linter.unusedSimpArgs false

/-- No backoff: nil, or one that was not made. -/
def Nil (w : World) (a : Option Addr) : Prop := a = none ∨ ∃ b, a = some ⟨b, 0, none⟩ ∧ b < w.heap.size ∧ w.cell? ⟨b, 5, none⟩ = some (.bool false)
theorem Nil.below {w w' : World} {a : Option Addr} (h : Nil w a) (hb : Below w.heap.size w w') : Nil w' a := by
  rcases h with h | ⟨b, e, hl, hc⟩
  · exact .inl h
  · exact .inr ⟨b, e, Nat.lt_of_lt_of_le hl hb.size, (hb.cell (p := ⟨b, 5, none⟩) hl).trans hc⟩
theorem none_any (a : Option Addr) (w : World) (h : Nil w a) : Calls Try.prog 26 #[.pointer a] w fun e w' => e = .returned (.bool true) ∧ w = w' := by
  rcases h with rfl | ⟨b, rfl, hl, hc⟩
  · exact none_nil w
  · exact none_bo b w false hc
theorem Peek_nil (a : Option Addr) (d : Int) (w : World) (h : Nil w a) : Calls Try.prog 12 #[.pointer a, .int .u64 d] w fun e w' => e = .returned (.tuple #[.int .u64 0, .int .i64 1]) ∧ w = w' := by
  have HN := Lib.hid (none_any a w h)
  clear h
  go_enter Try.func12, Try.ntmps12
  go_wp2
  refine wp_scope_fwd 0 rfl ?_
  go_wp2_with (go_at_call 26; refine HN.out.mono ?_; rintro e w' ⟨rfl, rfl⟩)
  refine wp_goto ?_
  refine ⟨rfl, ?_⟩
  go_wp2
  try rw [Exit.noGoto_ret]
  go_ret2
  exact ⟨rfl, rfl⟩
theorem Next_nil (a : Option Addr) (d : Int) (w : World) (h : Nil w a) : Calls Try.prog 13 #[.pointer a, .int .u64 d] w fun e w' => e = .returned (.tuple #[.int .u64 0, .int .i64 1]) ∧ w = w' := by
  have HN := Lib.hid (Peek_nil a d w h)
  clear h
  go_enter Try.func13, Try.ntmps13
  go_wp2_with (go_at_call 12; refine HN.out.mono ?_; rintro e w' ⟨rfl, rfl⟩)
  go_ret2
  exact ⟨rfl, rfl⟩
theorem Set_nil (a : Option Addr) (d : Int) (w : World) (h : Nil w a) : Calls Try.prog 10 #[.pointer a, .int .u64 d] w fun e w' => e = .returned (.tuple #[.int .u64 0, .int .i64 1]) ∧ w = w' := by
  have HN := Lib.hid (none_any a w h)
  clear h
  go_enter Try.func10, Try.ntmps10
  go_wp2_with (go_at_call 26; refine HN.out.mono ?_; rintro e w' ⟨rfl, rfl⟩)
  go_ret2
  exact ⟨rfl, rfl⟩
theorem Reset_nil (a : Option Addr) (w : World) (h : Nil w a) : Calls Try.prog 22 #[.pointer a] w fun e w' => e = .returned (.int .i64 1) ∧ w = w' := by
  have HN := Lib.hid (none_any a w h)
  clear h
  go_enter Try.func22, Try.ntmps22
  go_wp2_with (go_at_call 26; refine HN.out.mono ?_; rintro e w' ⟨rfl, rfl⟩)
  go_ret
  exact ⟨rfl, rfl⟩
theorem Tries_nil (a : Option Addr) (w : World) (h : Nil w a) : Calls Try.prog 23 #[.pointer a] w fun e w' => e = .returned (.int .i64 0) ∧ w = w' := by
  have HN := Lib.hid (none_any a w h)
  clear h
  go_enter Try.func23, Try.ntmps23
  go_wp2_with (go_at_call 26; refine HN.out.mono ?_; rintro e w' ⟨rfl, rfl⟩)
  go_ret
  exact ⟨rfl, rfl⟩
theorem Base_nil (a : Option Addr) (w : World) (h : Nil w a) : Calls Try.prog 24 #[.pointer a] w fun e w' => e = .returned (.int .u64 0) ∧ w = w' := by
  have HN := Lib.hid (none_any a w h)
  clear h
  go_enter Try.func24, Try.ntmps24
  go_wp2_with (go_at_call 26; refine HN.out.mono ?_; rintro e w' ⟨rfl, rfl⟩)
  go_ret
  exact ⟨rfl, rfl⟩
theorem Copy_nil (a : Option Addr) (w : World) (h : Nil w a) : Calls Try.prog 18 #[.pointer a] w fun e w' => e = .returned (.pointer none) ∧ w = w' := by
  have HN := Lib.hid (none_any a w h)
  clear h
  go_enter Try.func18, Try.ntmps18
  go_wp2_with (go_at_call 26; refine HN.out.mono ?_; rintro e w' ⟨rfl, rfl⟩)
  go_ret
  exact ⟨rfl, rfl⟩
theorem Same_nil (a c : Option Addr) (w : World) (h : Nil w a) (h2 : Nil w c) : Calls Try.prog 19 #[.pointer a, .pointer c] w fun e w' => e = .returned (.bool true) ∧ w = w' := by
  have HN : Hid (∀ x, x = a ∨ x = c → Calls Try.prog 26 #[.pointer x] w fun e w' => e = .returned (.bool true) ∧ w = w') := Lib.hid (by
    rintro x (rfl | rfl)
    · exact none_any _ w h
    · exact none_any _ w h2)
  clear h h2
  go_enter Try.func19, Try.ntmps19
  go_wp2_with (go_at_call 26; refine (HN.out _ (by first | exact .inl rfl | exact .inr rfl)).mono ?_; rintro e w' ⟨rfl, rfl⟩)
  go_ret
  exact ⟨rfl, rfl⟩
theorem Same_one (p : Nat) (L M J base : Int) (k : Nat) (c : Option Addr) (w : World) (h : Bo w p L M J base k) (h2 : Nil w c) : Calls Try.prog 19 #[.pointer (some ⟨p, 0, none⟩), .pointer c] w fun e w' => e = .returned (.bool false) ∧ w = w' := by
  have HN : Hid (∀ x b, (x = some ⟨p, 0, none⟩ ∧ b = false) ∨ (x = c ∧ b = true) → Calls Try.prog 26 #[.pointer x] w fun e w' => e = .returned (.bool b) ∧ w = w') := Lib.hid (by
    rintro x b (⟨rfl, rfl⟩ | ⟨rfl, rfl⟩)
    · exact none_of p L M J base k w h
    · exact none_any _ w h2)
  clear h h2
  go_enter Try.func19, Try.ntmps19
  go_wp2_with (go_at_call 26; refine (HN.out _ _ (by first | exact .inl ⟨rfl, rfl⟩ | exact .inr ⟨rfl, rfl⟩)).mono ?_; rintro e w' ⟨rfl, rfl⟩)
  go_ret
  exact ⟨rfl, rfl⟩
/-- Delays of none: nothing to go over. -/
theorem Delays_nil (a ao : Option Addr) (len cap : Nat) (w : World) (h : Nil w a) : Calls Try.prog 20 #[.pointer a, .slice ao len cap] w fun e w' =>
    e = .returned (.func (.func 34) #[] #[.pointer (some ⟨w.heap.size, 0, none⟩)]) ∧ w'.cell? ⟨w.heap.size, 0, none⟩ = some (.slice none 0 0) ∧ w.heap.size < w'.heap.size ∧ Below w.heap.size w w' := by
  have HN := Lib.hid (none_any a _ (h.below ((Below.refl _ w).alloc (Nat.le_refl _) (.cells #[.slice none 0 0] 25))))
  clear h
  go_enter Try.func20, Try.ntmps20
  go_wp2_with (go_at_call 26; refine HN.out.mono ?_; rintro e w' ⟨rfl, rfl⟩)
  go_ret
  exact ⟨rfl, cell_blk (alloc_blk_new _ _) 0 _ rfl, by simp, (Below.refl _ w).alloc (Nat.le_refl _) _⟩
end Go.Proofs.Ytkoppmnofloefaa
