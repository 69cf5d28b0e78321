/-
  A call by both: frames of one's own.
-/
import Derived.Test.YtneeagabmdpjgaaPg
import Derived.Test.YtneeagabmdpjgaaOi
namespace Go.Proofs.Ytneeagabmdpjgaa
open Go.RowKit
set_option linter.unusedVariables false
set_option linter.unusedSimpArgs false

/-- Frames of one's own, that lie from n0 on, none in l's block. -/
def Fr (n0 : Nat) (l : Value) (vals : List Value) (ns : List (List Int)) (W : World) : Prop :=
  vals.length = ns.length ∧ ∀ j, j < ns.length → ∃ a c, vals[j]? = some (.slice a (ns.getD j []).length c) ∧ W.ownsRow n0 5 1 (.slice a (ns.getD j []).length c) (ns.getD j []).length ((ns.getD j []).map (.int .u8)) ∧ (∀ k, (Value.slice a (ns.getD j []).length c).ownBlock = some k → l.ownBlock ≠ some k)
theorem Fr.nil (n0 : Nat) (l : Value) (W : World) : Fr n0 l [] [] W := ⟨rfl, fun j h => by simp at h⟩
theorem Fr.more {n0 i : Nat} {l l' : Value} {vals : List Value} {ns : List (List Int)} {x : List Int} {W wb wd : World} {a1 : Option Addr} {c1 : Nat}
    (h : Fr n0 l vals ns W) (hrow : ∃ m xs, W.ownsRow n0 29 1 l m xs) (hn : n0 ≤ W.heap.size) (hb : Below W.heap.size W wb) (hr : wb.ownsRow W.heap.size 5 1 (.slice a1 x.length c1) x.length (x.map (.int .u8)))
    (hg : (wb.alloc (.cells #[.slice a1 x.length c1] 29)).grownBy wd l.ownBlock) (hf : ∀ k, l'.ownBlock = some k → l.ownBlock = some k ∨ (wb.alloc (.cells #[.slice a1 x.length c1] 29)).heap.size ≤ k) :
    Fr n0 l' (vals ++ [.slice a1 x.length c1]) (ns ++ [x]) wd := by
  obtain ⟨h1, h2⟩ := h
  obtain ⟨m, xs, hrow⟩ := hrow
  have hbc : Below wb.heap.size wb (wb.alloc (.cells #[.slice a1 x.length c1] 29)) := (Below.refl _ wb).alloc (Nat.le_refl _) _
  have hsz : (wb.alloc (.cells #[.slice a1 x.length c1] 29)).heap.size = wb.heap.size + 1 := by simp
  have hm : Mod (fun k => l.ownBlock = some k) (wb.alloc (.cells #[.slice a1 x.length c1] 29)) wd := ⟨hg.os, hg.tape, hg.output, hg.size, fun k hk hn => hg.block k hk (fun e => hn e.symm)⟩
  have hbs := hb.size
  refine ⟨by simp [h1], fun j hj => ?_⟩
  rw [List.length_append, List.length_singleton] at hj
  rcases Nat.lt_or_ge j ns.length with hlt | hge
  · obtain ⟨a, c, e1, e2, e3⟩ := h2 j hlt
    have hgd : (ns ++ [x]).getD j [] = ns.getD j [] := by simp only [List.getD]; rw [List.getElem?_append_left hlt]
    rw [hgd]
    refine ⟨a, c, by rw [List.getElem?_append_left (by omega)]; exact e1, ?_, fun k hk e => ?_⟩
    · have r1 := (Mod.of_below (hb.trans (hbc.mono hbs)) (fun _ => False)).row e2 (fun _ _ h => h)
      exact hm.row r1 (fun k hk e => e3 k hk e)
    · have hlk := (e2.lt k hk).2
      rcases hf k e with h' | h'
      · exact e3 k hk h'
      · omega
  · obtain rfl : j = ns.length := by omega
    have hgd : (ns ++ [x]).getD ns.length [] = x := by simp [List.getD]
    rw [hgd]
    refine ⟨a1, c1, by rw [List.getElem?_append_right (by omega), h1]; simp, ?_, fun k hk e => ?_⟩
    · have r1 := (Mod.of_below hbc (fun _ => False)).row hr (fun _ _ h => h)
      exact Joins.ownsRow_le (hm.row r1 (fun k hk e => by have := (hr.lt k hk).1; have := (hrow.lt k e).2; omega)) hn
    · have hlk := hr.lt k hk
      rcases hf k e with h' | h'
      · have := (hrow.lt k h').2; omega
      · omega
theorem Fr.mod {n0 : Nat} {l : Value} {vals : List Value} {ns : List (List Int)} {W W' : World} {S : Nat → Prop} (h : Fr n0 l vals ns W) (hm : Mod S W W') (hs : ∀ k, n0 ≤ k → k < W.heap.size → ¬ S k) : Fr n0 l vals ns W' :=
  ⟨h.1, fun j hj => by
    obtain ⟨a, c, e1, e2, e3⟩ := h.2 j hj
    exact ⟨a, c, e1, hm.row e2 (fun k hk => hs k (e2.lt k hk).1 (e2.lt k hk).2), e3⟩⟩
/-- As parts of a push. -/
theorem Fr.parts {n0 i : Nat} {a : Option Addr} {c : Nat} {vals : List Value} {ns : List (List Int)} {W : World} {T : Nat → Prop} (h : Fr n0 (.slice a i c) vals ns W) (hl : ns.length = i) (hrow : W.ownsRow n0 29 1 (.slice a i c) i vals) (hT : ∀ k, n0 ≤ k → k < W.heap.size → T k) : Parts T W a ns := fun hp => by
  obtain ⟨g, cap, cur, e, hgb, hgg, _, _, _, htk⟩ := row_some hrow (by omega)
  cases e
  refine ⟨g, 0, rfl, blk_lt hgg, hT g hgb (blk_lt hgg), fun j hj => ?_⟩
  obtain ⟨aj, cj, e1, e2, e3⟩ := h.2 j hj
  obtain ⟨q1, q2, q3⟩ := row_arg e2
  refine ⟨aj, cj, ?_, (by rw [q1] at q2; exact q2.mono (fun k h1 h2 => hT k h2 h1)), by rw [q1] at q3; exact q3⟩
  rw [Nat.zero_add, hrow.cellAt j (by omega), e1]
/-- Frames whose bytes may be turned. -/
def Wr (S : Nat → Prop) (vals : List Value) (ns : List (List Int)) (W : World) : Prop :=
  ∀ j, j < ns.length → ∃ a c, vals[j]? = some (.slice a (ns.getD j []).length c) ∧ (0 < (ns.getD j []).length → ∃ b, a = some ⟨b, 0, none⟩ ∧ S b ∧ b < W.heap.size ∧ ∀ i, i < (ns.getD j []).length → (∃ x : Int, W.cell? ⟨b, i, none⟩ = some (.int .u8 x)) ∧ W.frozen? ⟨b, i, none⟩ = false)
theorem Fr.wr {n0 : Nat} {l : Value} {vals : List Value} {ns : List (List Int)} {W : World} (h : Fr n0 l vals ns W) : Wr (fun k => n0 ≤ k ∧ k < W.heap.size ∧ l.ownBlock ≠ some k) vals ns W := fun j hj => by
  obtain ⟨a, c, e1, e2, e3⟩ := h.2 j hj
  refine ⟨a, c, e1, fun hp => ?_⟩
  obtain ⟨b, cap, cur, e, hgb, hgg, _, _, _, htk⟩ := row_some e2 hp
  injection e with v1 v2 v3
  subst v1
  refine ⟨b, rfl, ⟨hgb, blk_lt hgg, e3 b rfl⟩, blk_lt hgg, fun i hi => ⟨⟨(ns.getD j []).getD i 0, ?_⟩, frozen_blk hgg i⟩⟩
  obtain ⟨y, hy⟩ : ∃ y, y = ns.getD j [] := ⟨_, rfl⟩
  rw [← hy] at hi e2 ⊢
  rw [e2.cellAt i (by omega), List.getElem?_map, List.getElem?_eq_getElem hi]
  simp only [Option.map_some, List.getD, List.getElem?_eq_getElem hi, Option.getD_some]
theorem Wr.set {S : Nat → Prop} {vals : List Value} {ns : List (List Int)} {W : World} (h : Wr S vals ns W) (b i : Nat) (x : Int) (hc : (W.cell? ⟨b, i, none⟩).isSome = true) : Wr S vals ns (W.setCell ⟨b, i, none⟩ (.int .u8 x)) := fun j hj => by
  obtain ⟨a, c, e1, e2⟩ := h j hj
  refine ⟨a, c, e1, fun hp => ?_⟩
  obtain ⟨b', e, hS, hb, hx⟩ := e2 hp
  refine ⟨b', e, hS, by simpa [World.setCell] using hb, fun k hk => ?_⟩
  obtain ⟨⟨y, hy⟩, hf⟩ := hx k hk
  refine ⟨?_, by rw [World.frozen?_setCell]; exact hf⟩
  by_cases he : (⟨b, i, none⟩ : Addr) = ⟨b', k, none⟩
  · rw [← he]
    exact ⟨x, World.cell?_setCell_same' _ _ _ hc⟩
  · exact ⟨y, (World.cell?_setCell_other _ _ _ _ he).trans hy⟩
end Go.Proofs.Ytneeagabmdpjgaa
