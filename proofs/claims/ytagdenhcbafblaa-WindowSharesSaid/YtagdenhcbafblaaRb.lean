/-
  What is told of none; Same.
-/
import Derived.Test.YtagdenhcbafblaaRa
import Derived.ChangeKeysEq
namespace Go.Proofs.Ytagdenhcbafblaa
open Go.RowKit
set_option linter.unusedVariables false
set_option linter.unusedSimpArgs false

/-- No window: nil, or one that was not made. -/
def Nil (w : World) (a : Option Addr) : Prop := a = none ∨ ∃ b, a = some ⟨b, 0, none⟩ ∧ b < w.heap.size ∧ w.cell? ⟨b, 3, none⟩ = some (.bool false)
theorem Nil.below {w w' : World} {a : Option Addr} (h : Nil w a) (hb : Below w.heap.size w w') : Nil w' a := by
  rcases h with h | ⟨b, e, hl, hc⟩
  · exact .inl h
  · exact .inr ⟨b, e, Nat.lt_of_lt_of_le hl hb.size, (hb.cell (p := ⟨b, 3, none⟩) hl).trans hc⟩
theorem Nil.drewN {w : World} {a : Option Addr} (h : Nil w a) (n : Nat) : Nil (w.drewN n) a := h
theorem none_any (a : Option Addr) (w : World) (h : Nil w a) : Calls Try.prog 24 #[.pointer a] w fun e w' => e = .returned (.bool true) ∧ w = w' := by
  rcases h with rfl | ⟨b, rfl, hl, hc⟩
  · exact none_nil w
  · exact none_at b false w hc
theorem Grant_nil (a : Option Addr) (d : Int) (w : World) (h : Nil w a) : Calls Try.prog 9 #[.pointer a, .int .u64 d] w fun e w' => e = .returned (.tuple #[.int .u64 0, .int .i64 1]) ∧ w = w' := by
  have HN := Lib.hid (none_any a w h)
  clear h
  go_enter Try.func9, Try.ntmps9
  go_wp2_with (go_at_call 24; refine HN.out.mono ?_; rintro e w' ⟨rfl, rfl⟩)
  go_ret2
  exact ⟨rfl, rfl⟩
theorem Take_nil (a : Option Addr) (d : Int) (w : World) (h : Nil w a) : Calls Try.prog 11 #[.pointer a, .int .i64 d] w fun e w' => e = .returned (.tuple #[.int .i64 0, .int .i64 1]) ∧ w = w' := by
  have HN := Lib.hid (none_any a w h)
  clear h
  go_enter Try.func11, Try.ntmps11
  go_wp2
  refine wp_scope_fwd 0 rfl ?_
  go_wp2_with (go_at_call 24; refine HN.out.mono ?_; rintro e w' ⟨rfl, rfl⟩)
  refine wp_goto ?_
  refine ⟨rfl, ?_⟩
  go_wp2
  try rw [Exit.noGoto_ret]
  go_ret2
  exact ⟨rfl, rfl⟩
theorem Share_nil (a ao : Option Addr) (len cap : Nat) (w : World) (h : Nil w a) : Calls Try.prog 14 #[.pointer a, .slice ao len cap] w fun e w' => e = .returned (.tuple #[.slice none 0 0, .int .i64 1]) ∧ Below w.heap.size w w' := by
  have HN := Lib.hid (fun (W : World) (hW : Nil W a) => none_any a W hW)
  have H0 := h
  have H1 : ∀ o : Obj, Nil (w.alloc o) a := fun o => h.below ((Below.refl _ w).alloc (Nat.le_refl _) o)
  clear h
  go_enter Try.func14, Try.ntmps14
  go_wp2_with (go_at_call 24; refine (HN.out _ (by first | exact H0 | exact H1 _)).mono ?_; rintro e w' ⟨rfl, rfl⟩)
  go_ret2
  exact ⟨rfl, by first | exact Below.refl _ _ | exact (Below.refl _ _).alloc (Nat.le_refl _) _⟩
theorem Shares_nil (a ao : Option Addr) (len cap : Nat) (w : World) (h : Nil w a) : Calls Try.prog 18 #[.pointer a, .slice ao len cap] w fun e w' =>
    ∃ B, w.heap.size ≤ B ∧ e = .returned (.func (.func 35) #[] #[.pointer (some ⟨B, 0, none⟩)]) ∧ w'.cell? ⟨B, 0, none⟩ = some (.slice none 0 0) ∧ B < w'.heap.size ∧ Below w.heap.size w w' := by
  have HN := Lib.hid (Share_nil a ao len cap w h)
  clear h
  go_enter Try.func18, Try.ntmps18
  go_wp2_with fail
  refine HN.out.mono ?_
  rintro e w1 ⟨rfl, hb⟩
  go_wp2_with fail
  go_ret
  exact ⟨w1.heap.size, hb.size, rfl, cell_blk (alloc_blk_new _ _) 0 _ rfl, by simp, hb.trans (((Below.refl _ w1).alloc (Nat.le_refl _) _).mono hb.size)⟩
theorem Left_nil (a : Option Addr) (w : World) (h : Nil w a) : Calls Try.prog 13 #[.pointer a] w fun e w' => e = .returned (.int .u64 0) ∧ w = w' := by
  have HN := Lib.hid (none_any a w h)
  clear h
  go_enter Try.func13, Try.ntmps13
  go_wp2_with (go_at_call 24; refine HN.out.mono ?_; rintro e w' ⟨rfl, rfl⟩)
  go_ret
  exact ⟨rfl, rfl⟩
theorem Gone_nil (a : Option Addr) (w : World) (h : Nil w a) : Calls Try.prog 12 #[.pointer a] w fun e w' => e = .returned (.int .u64 0) ∧ w = w' := by
  have HN := Lib.hid (none_any a w h)
  clear h
  go_enter Try.func12, Try.ntmps12
  go_wp2_with (go_at_call 24; refine HN.out.mono ?_; rintro e w' ⟨rfl, rfl⟩)
  go_ret
  exact ⟨rfl, rfl⟩
theorem Shut_nil (a : Option Addr) (w : World) (h : Nil w a) : Calls Try.prog 21 #[.pointer a] w fun e w' => e = .returned (.int .u64 0) ∧ w = w' := by
  have HN := Lib.hid (none_any a w h)
  have HL := Lib.hid (Left_nil a w h)
  clear h
  go_enter Try.func21, Try.ntmps21
  go_wp2_with (first | (go_at_call 24; refine HN.out.mono ?_; rintro e w' ⟨rfl, rfl⟩) | (go_at_call 13; refine HL.out.mono ?_; rintro e w' ⟨rfl, rfl⟩))
  go_ret
  exact ⟨rfl, rfl⟩
theorem Open_nil (a : Option Addr) (w : World) (h : Nil w a) : Calls Try.prog 22 #[.pointer a] w fun e w' => e = .returned (.bool false) ∧ w = w' := by
  have HN := Lib.hid (none_any a w h)
  clear h
  go_enter Try.func22, Try.ntmps22
  go_wp2_with (go_at_call 24; refine HN.out.mono ?_; rintro e w' ⟨rfl, rfl⟩)
  go_ret
  exact ⟨rfl, rfl⟩
theorem Copy_nil (a : Option Addr) (w : World) (h : Nil w a) : Calls Try.prog 20 #[.pointer a] w fun e w' => e = .returned (.pointer none) ∧ w = w' := by
  have HN := Lib.hid (none_any a w h)
  clear h
  go_enter Try.func20, Try.ntmps20
  go_wp2_with (go_at_call 24; refine HN.out.mono ?_; rintro e w' ⟨rfl, rfl⟩)
  go_ret
  exact ⟨rfl, rfl⟩
theorem Same_nil (a c : Option Addr) (w : World) (h : Nil w a) (h2 : Nil w c) : Calls Try.prog 23 #[.pointer a, .pointer c] w fun e w' => e = .returned (.bool true) ∧ w = w' := by
  have HN : Hid (∀ x, x = a ∨ x = c → Calls Try.prog 24 #[.pointer x] w fun e w' => e = .returned (.bool true) ∧ w = w') := Lib.hid (by
    rintro x (rfl | rfl)
    · exact none_any _ w h
    · exact none_any _ w h2)
  clear h h2
  go_enter Try.func23, Try.ntmps23
  go_wp2_with (go_at_call 24; refine (HN.out _ (by first | exact .inl rfl | exact .inr rfl)).mono ?_; rintro e w' ⟨rfl, rfl⟩)
  go_ret
  exact ⟨rfl, rfl⟩
theorem Same_one (p : Nat) (l g : Int) (s : Bool) (c : Option Addr) (w : World) (h : Wi w p l g s) (h2 : Nil w c) : Calls Try.prog 23 #[.pointer (some ⟨p, 0, none⟩), .pointer c] w fun e w' => e = .returned (.bool false) ∧ w = w' := by
  have HN : Hid (∀ x b, (x = some ⟨p, 0, none⟩ ∧ b = false) ∨ (x = c ∧ b = true) → Calls Try.prog 24 #[.pointer x] w fun e w' => e = .returned (.bool b) ∧ w = w') := Lib.hid (by
    rintro x b (⟨rfl, rfl⟩ | ⟨rfl, rfl⟩)
    · exact none_wi p l g s w h
    · exact none_any _ w h2)
  clear h h2
  go_enter Try.func23, Try.ntmps23
  go_wp2_with (go_at_call 24; refine (HN.out _ _ (by first | exact .inl ⟨rfl, rfl⟩ | exact .inr ⟨rfl, rfl⟩)).mono ?_; rintro e w' ⟨rfl, rfl⟩)
  go_ret
  exact ⟨rfl, rfl⟩

/-- Are two the same? -/
def eq3 (l g : Int) (s : Bool) (l' g' : Int) (s' : Bool) : Bool := decide (l = l' ∧ g = g' ∧ s = s')
theorem eq3_symm (l g : Int) (s : Bool) (l' g' : Int) (s' : Bool) : eq3 l g s l' g' s' = eq3 l' g' s' l g s := by
  unfold eq3
  congr 1
  apply propext
  constructor
  · rintro ⟨a, b, c⟩
    exact ⟨a.symm, b.symm, c.symm⟩
  · rintro ⟨a, b, c⟩
    exact ⟨a.symm, b.symm, c.symm⟩
theorem arr54 (d : Nat) (a b c e : Int) (w : World) : (Op.equalIn (d + 2) 54 (.agg #[.int .u64 a, .int .u64 b]) (.agg #[.int .u64 c, .int .u64 e])).run Try.prog w = .ok (a == c && b == e) w := by
  obtain ⟨i, hi⟩ : ∃ i, Try.prog.info? 26 = some i := Option.isSome_iff_exists.1 (by kernel_rfl)
  have hc : Try.prog.cellsOf 26 = 1 := by kernel_rfl
  rw [show d + 2 = (d + 1) + 1 from rfl, run_equalIn_array w (d + 1) _ _ Try.underlying54 hi, hc, show List.range 2 = [0, 1] from rfl]
  simp only [Op.eqItems]
  go_simp
  by_cases h1 : a = c <;> by_cases h2 : b = e <;> simp [h1, h2]
attribute [local go_sem high] arr54
theorem eql58 (l g l' g' : Int) (s s' : Bool) (w : World) :
    (binOp .eql 58 (.agg #[.int .u64 l, .int .u64 g, .bool s, .bool true]) (.agg #[.int .u64 l', .int .u64 g', .bool s', .bool true])).run Try.prog w = .ok (.bool (eq3 l g s l' g' s')) w := by
  unfold eq3
  go_simp
  by_cases h1 : l = l' <;> by_cases h2 : g = g' <;> by_cases h3 : s = s' <;> simp [h1, h2, h3]
theorem eql39 (l g l' g' : Int) (s s' : Bool) (w : World) :
    (binOp .eql 39 (.agg #[.int .u64 l, .int .u64 g, .bool s]) (.agg #[.int .u64 l', .int .u64 g', .bool s'])).run Try.prog w = .ok (.bool (eq3 l g s l' g' s')) w := by
  unfold eq3
  go_simp
  by_cases h1 : l = l' <;> by_cases h2 : g = g' <;> by_cases h3 : s = s' <;> simp [h1, h2, h3]
attribute [local go_sem high] eql58
set_option maxHeartbeats 1600000 in
set_option maxRecDepth 100000 in
theorem Same_wi (p q : Nat) (l g l' g' : Int) (s s' : Bool) (w : World) (h : Wi w p l g s) (h2 : Wi w q l' g' s') :
    Calls Try.prog 23 #[.pointer (some ⟨p, 0, none⟩), .pointer (some ⟨q, 0, none⟩)] w fun e w' => e = .returned (.bool (eq3 l g s l' g' s')) ∧ ∃ n, w' = w.drewN n := by
  have HN : Hid (∀ x, x = p ∨ x = q → Calls Try.prog 24 #[.pointer (some ⟨x, 0, none⟩)] w fun e w' => e = .returned (.bool false) ∧ w = w') := Lib.hid (by
    rintro x (rfl | rfl)
    · exact none_wi x l g s w h
    · exact none_wi x l' g' s' w h2)
  obtain ⟨c0, c1, c2, c3⟩ := h.c
  obtain ⟨d0, d1, d2, d3⟩ := h2.c
  clear h h2
  go_enter Try.func23, Try.ntmps23
  go_wp2_with (go_at_call 24; refine (HN.out _ (by first | exact .inl rfl | exact .inr rfl)).mono ?_; rintro e w' ⟨rfl, rfl⟩)
  go_quiet (fail)
  go_wp2
  go_ret
  exact ⟨rfl, nq, rfl⟩
end Go.Proofs.Ytagdenhcbafblaa
