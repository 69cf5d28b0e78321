/-
  put: the parts; steps of it.
-/
import Derived.Test.YtneeagabmdpjgaaE
import Derived.Test.YtneeagabmdpjgaaOrd
namespace Go.Proofs.Ytneeagabmdpjgaa
open Go.RowKit
set_option linter.unusedVariables false
set_option linter.unusedSimpArgs false

/-- Parts that came. -/
def Parts (T : Nat → Prop) (w : World) (pa : Option Addr) (ls : List (List Int)) : Prop :=
  0 < ls.length → ∃ b off, pa = some ⟨b, off, none⟩ ∧ b < w.heap.size ∧ T b ∧ ∀ j, j < ls.length → ∃ a c, w.cell? ⟨b, off + j, none⟩ = some (.slice a (ls.getD j []).length c) ∧ Arg T w a (ls.getD j []).length (ls.getD j []) ∧ (a = none → (ls.getD j []).length = 0 ∧ c = 0)
theorem Parts.mod {T S : Nat → Prop} {w w' : World} {pa : Option Addr} {ls : List (List Int)} (h : Parts T w pa ls) (hm : Mod S w w') (ht : ∀ k, T k → ¬ S k) : Parts T w' pa ls := fun hp => by
  obtain ⟨b, off, e, hb, hT, hc⟩ := h hp
  refine ⟨b, off, e, Nat.lt_of_lt_of_le hb hm.size, hT, fun j hj => ?_⟩
  obtain ⟨a, c, h1, h2, h3⟩ := hc j hj
  exact ⟨a, c, (hm.cell (p := ⟨b, off + j, none⟩) hb (ht b hT)).trans h1, h2.mod hm ht, h3⟩
theorem Parts.below {T : Nat → Prop} {w w' : World} {pa : Option Addr} {ls : List (List Int)} (h : Parts T w pa ls) (hb : Below w.heap.size w w') : Parts T w' pa ls :=
  h.mod (Mod.of_below hb (fun _ => False)) (fun _ _ h => h)

theorem row_cut {w : World} {base b n cap : Nat} {xs : List Value} (h : w.ownsRow base 5 1 (.slice (some ⟨b, 0, none⟩) n cap) n xs) : w.ownsRow base 5 1 (.slice (some ⟨b, 0, none⟩) 0 cap) 0 [] := by
  refine ⟨rfl, ?_⟩
  rcases h.2 with ⟨e, _⟩ | ⟨b', c', cur, e, h1, h2, h3, h4, h5, h6⟩
  · cases e
  · injection e with e1 e2 e3
    injection e1 with e1
    injection e1 with e1
    subst e1 e3
    exact .inr ⟨b, cap, cur, rfl, h1, h2, Nat.zero_le _, h4, h5, by simp⟩

/-- Behind an append, and behind the store. -/
theorem QAt.appended {w w1 : World} {base p g : Nat} {m : Int} {sv sv' : Value} {vs ws : List Int} {row : Option Nat} (h : QAt w base p sv g m vs) (hr : row = sv.ownBlock)
    (hown : w1.ownsRow base 5 1 sv' ws.length (ws.map (.int .u8))) (hg : w.grownBy w1 row) (hf : ∀ k, sv'.ownBlock = some k → row = some k ∨ w.heap.size ≤ k) :
    w1.heap[p]? = some (.cells #[sv, .int .i64 g, .int .i64 m, .bool true] 93 (0, 0)) ∧ QAt (w1.setCell ⟨p, 0, none⟩ sv') base p sv' g m ws ∧ Step p sv sv' w (w1.setCell ⟨p, 0, none⟩ sv') := by
  subst hr
  have hb1 : w1.heap[p]? = some (.cells #[sv, .int .i64 g, .int .i64 m, .bool true] 93 (0, 0)) := (hg.block p h.lt (fun e => h.ne p e.symm rfl)).trans h.blk
  have hp := h.lt
  have hne : ∀ k, sv'.ownBlock = some k → k ≠ p := fun k hk e => by
    subst e
    rcases hf k hk with h' | h'
    · exact h.ne k h' rfl
    · omega
  refine ⟨hb1, ⟨?_, ?_, hne, h.lo⟩, ?_, ?_⟩
  · rw [setCell_blk hb1]; rfl
  · exact (Mod.setCell (S := fun k => k = p) (Mod.refl _ _) ⟨p, 0, none⟩ (.inl rfl) _).row hown hne
  · exact Mod.setCell (Mod.grown (Mod.refl _ _) hg (fun k hk => .inl (.inr hk))) ⟨p, 0, none⟩ (.inl (.inl rfl)) _
  · intro k hk
    rcases hk with rfl | hk
    · exact .inl (.inl rfl)
    · rcases hf k hk with h' | h'
      · exact .inl (.inr h')
      · exact .inr h'

theorem take_flat : ∀ (ls : List (List Int)) (i : Nat), i < ls.length → (ls.take i).flatten.length + (ls.getD i []).length ≤ ls.flatten.length
  | [], _, h => by simp at h
  | l :: ls, 0, _ => by simp only [List.take_zero, List.flatten_nil, List.length_nil, List.getD_cons_zero, List.flatten_cons, List.length_append]; omega
  | l :: ls, i + 1, h => by
    have := take_flat ls i (by simpa using h)
    simp only [List.take_succ_cons, List.flatten_cons, List.length_append, List.getD_cons_succ]
    omega

/-- The loop's relation. -/
def Put (w : World) (base p g : Nat) (m : Int) (sv : Value) (vs : List Int) (ls : List (List Int)) (i : Nat) (wr : World) : Prop :=
  ∃ sv' g' vs', QAt wr base p sv' g' m vs' ∧ g' ≤ vs'.length ∧ vs'.drop g' = vs.drop g ++ (ls.take i).flatten ∧ vs'.length ≤ 2 * (vs.length - g) + (ls.take i).flatten.length ∧ Step p sv sv' w wr
theorem Put.more {w wr w1 : World} {base p g g' : Nat} {m : Int} {sv sv1 sv2 : Value} {vs vs1 : List Int} {ls : List (List Int)} {i : Nat} {z : List Int} (hq : QAt wr base p sv1 g' m vs1) (hg' : g' ≤ vs1.length) (hd : vs1.drop g' = vs.drop g ++ (ls.take i).flatten)
    (hl : vs1.length ≤ 2 * (vs.length - g) + (ls.take i).flatten.length) (hs : Step p sv sv1 w wr) (hi : i < ls.length) (hz : z = ls.getD i [])
    (hown : w1.ownsRow base 5 1 sv2 (vs1 ++ z).length ((vs1 ++ z).map (.int .u8))) (hg : wr.grownBy w1 sv1.ownBlock) (hf : ∀ k, sv2.ownBlock = some k → sv1.ownBlock = some k ∨ wr.heap.size ≤ k) :
    Put w base p g m sv vs ls (i + 1) (w1.setCell ⟨p, 0, none⟩ sv2) := by
  obtain ⟨_, h2, h3⟩ := hq.appended rfl hown hg hf
  have ht : ls.take (i + 1) = ls.take i ++ [z] := by rw [List.take_succ_eq_append_getElem hi, hz]; simp [List.getD, hi]
  refine ⟨sv2, g', vs1 ++ z, h2, by simp; omega, ?_, ?_, hs.trans h3⟩
  · rw [List.drop_append_of_le_length hg', hd, ht]; simp
  · have e : (ls.take (i + 1)).flatten = (ls.take i).flatten ++ z := by rw [ht]; simp
    rw [e, List.length_append, List.length_append]; omega
end Go.Proofs.Ytneeagabmdpjgaa
