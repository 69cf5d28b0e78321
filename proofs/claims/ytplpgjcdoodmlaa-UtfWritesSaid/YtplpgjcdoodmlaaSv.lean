/-
  What is told of no decoder; a decoder and the document's, side by side.
-/
import Derived.Test.YtplpgjcdoodmlaaSu
namespace Go.Proofs.Ytplpgjcdoodmlaa
open Go.RowKit
set_option linter.unusedVariables false
set_option linter.unusedSimpArgs false

/-- No decoder: nil, or one that was not made. -/
def NoD (w : World) (a : Option Addr) : Prop := a = none ∨ ∃ b, a = some ⟨b, 0, none⟩ ∧ b < w.heap.size ∧ w.cell? ⟨b, 1, none⟩ = some (.bool false)
theorem none_no (a : Option Addr) (w : World) (h : NoD w a) : Calls Try.prog 31 #[.pointer a] w fun e w' => e = .returned (.bool true) ∧ w = w' := by
  rcases h with rfl | ⟨b, rfl, hb, hc⟩
  · go_enter Try.func31, Try.ntmps31
    go_wp2
    go_ret
    exact ⟨rfl, rfl⟩
  · go_enter Try.func31, Try.ntmps31
    go_wp2
    go_ret
    exact ⟨rfl, rfl⟩
theorem Write_no (a bo : Option Addr) (m c : Nat) (w : World) (h : NoD w a) : Calls Try.prog 19 #[.pointer a, .slice bo m c] w fun e w' => e = .returned (.tuple #[.string ⟨#[]⟩, .int .i64 1]) ∧ w = w' := by
  have HN := Lib.hid (none_no a w h)
  clear h
  go_enter Try.func19, Try.ntmps19
  go_wp2_with (go_at_call 31; refine HN.out.mono ?_; rintro e w' ⟨rfl, rfl⟩)
  go_ret2
  exact ⟨rfl, rfl⟩
theorem End_no (a : Option Addr) (w : World) (h : NoD w a) : Calls Try.prog 22 #[.pointer a] w fun e w' => e = .returned (.tuple #[.string ⟨#[]⟩, .int .i64 1]) ∧ w = w' := by
  have HN := Lib.hid (none_no a w h)
  clear h
  go_enter Try.func22, Try.ntmps22
  go_wp2_with (go_at_call 31; refine HN.out.mono ?_; rintro e w' ⟨rfl, rfl⟩)
  go_ret2
  exact ⟨rfl, rfl⟩
theorem Waits_no (a : Option Addr) (w : World) (h : NoD w a) : Calls Try.prog 21 #[.pointer a] w fun e w' => e = .returned (.slice none 0 0) ∧ w = w' := by
  have HN := Lib.hid (none_no a w h)
  clear h
  go_enter Try.func21, Try.ntmps21
  go_wp2_with (go_at_call 31; refine HN.out.mono ?_; rintro e w' ⟨rfl, rfl⟩)
  go_ret
  exact ⟨rfl, rfl⟩
theorem Copy_no (a : Option Addr) (w : World) (h : NoD w a) : Calls Try.prog 24 #[.pointer a] w fun e w' => e = .returned (.pointer none) ∧ w = w' := by
  have HN := Lib.hid (none_no a w h)
  clear h
  go_enter Try.func24, Try.ntmps24
  go_wp2_with (go_at_call 31; refine HN.out.mono ?_; rintro e w' ⟨rfl, rfl⟩)
  go_ret
  exact ⟨rfl, rfl⟩

/-- A decoder, and the document's in a box. -/
structure Wt (w : World) (P : Nat) (K : Nat → Prop) (D : Nat) (zs : List Int) (a : Option Addr) (c' : Nat) (W : World) : Prop where
  ds : DS w K D zs W
  kp : K P
  klo : ∀ k, K k → w.heap.size ≤ k
  box : W.heap[P]? = some (.cells #[.slice a zs.length c'] 50 (0, 0))
  arg : Arg (fun k => K k ∧ k ≠ P) W a zs.length zs
  nn : a = none → zs.length = 0 ∧ c' = 0
section
variable {w W W' : World} {P D c' : Nat} {K : Nat → Prop} {zs : List Int} {a : Option Addr}
theorem Wt.grow (h : Wt w P K D zs a c' W) (hb : Below W.heap.size W W') : Wt w P (More K W W') D zs a c' W' :=
  ⟨h.ds.grow hb, .inl h.kp, fun k hk => by
    rcases hk with hk | hk
    · exact h.klo k hk
    · have := h.ds.below.size; omega, (hb.block _ (blk_lt h.box)).trans h.box, (h.arg.below hb).mono fun k _ hk => ⟨.inl hk.1, hk.2⟩, h.nn⟩
/-- Behind a step of the decoder's own. -/
theorem Wt.own (h : Wt w P K D zs a c' W) {ys : List Int} (hd : DS w K D ys W') (hm : Mod (fun k => k = D) W W') : W'.heap[P]? = some (.cells #[.slice a zs.length c'] 50 (0, 0)) ∧ Arg (fun k => K k ∧ k ≠ P) W' a zs.length zs := by
  have hn : ∀ k, K k → ¬ k = D := fun k hk e => h.ds.nk (e ▸ hk)
  exact ⟨(hm.block _ (blk_lt h.box) (hn P h.kp)).trans h.box, h.arg.mod hm fun k hk => hn k hk.1⟩
/-- What else is stored into the box. -/
theorem DS.put {ys : List Int} {v0 : Value} {a2 : Option Addr} {c2 : Nat} (hd : DS w K D ys W) (kp : K P) (klo : ∀ k, K k → w.heap.size ≤ k) (hb : W.heap[P]? = some (.cells #[v0] 50 (0, 0))) (ha : Arg (fun k => K k ∧ k ≠ P) W a2 ys.length ys) (hn : a2 = none → ys.length = 0 ∧ c2 = 0) :
    Wt w P (More K W (W.setCell ⟨P, 0, none⟩ (.slice a2 ys.length c2))) D ys a2 c2 (W.setCell ⟨P, 0, none⟩ (.slice a2 ys.length c2)) := by
  have hm : Mod (fun k => k = P) W (W.setCell ⟨P, 0, none⟩ (.slice a2 ys.length c2)) := (Mod.refl (fun k => k = P) W).setCell ⟨P, 0, none⟩ (.inl rfl) _
  refine ⟨hd.turn (hm.mono fun k _ e => e ▸ kp) klo, .inl kp, fun k hk => ?_, setCell_blk hb 0 _, (ha.mod hm fun k hk => hk.2).mono fun k _ hk => ⟨.inl hk.1, hk.2⟩, hn⟩
  rcases hk with hk | hk
  · exact klo k hk
  · have := hd.below.size; omega
end
end Go.Proofs.Ytplpgjcdoodmlaa
