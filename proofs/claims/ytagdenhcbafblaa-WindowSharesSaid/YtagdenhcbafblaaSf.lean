/-
  What lies about while shares are gone over.
-/
import Derived.Test.YtagdenhcbafblaaDp
namespace Go.Proofs.Ytagdenhcbafblaa
open Go.RowKit
set_option linter.unusedVariables false
set_option linter.unusedSimpArgs false

structure Shr (w : World) (many what m d : Int) (lim Bq bA k n : Nat) (ao xa xs : Option Addr) (cap ca cs : Nat) (ls : List Int) (T : List (Nat × Int)) (W : World) : Prop where
  cm : Cm w many what m d W
  sc : W.cell? ⟨Bq, 0, none⟩ = some (.slice ao k cap)
  sd : 0 < k → ∃ g, ao = some ⟨g, 0, none⟩ ∧ g < lim ∧ ∀ j, j < k → W.cell? ⟨g, 0 + j, none⟩ = some (.int .i64 (ls[j]?.getD 0))
  va : W.cell? ⟨bA, 0, none⟩ = some (.slice xa n ca)
  vs : W.cell? ⟨bA + 1, 0, none⟩ = some (.slice xs n cs)
  ra : 0 < n → ∃ g, xa = some ⟨g, 0, none⟩ ∧ g < lim ∧ ∀ j, j < n → W.cell? ⟨g, j, none⟩ = some (.int .i64 ((T[j]?.getD (0, 0)).1 : Int))
  rs : 0 < n → ∃ g, xs = some ⟨g, 0, none⟩ ∧ g < lim ∧ ∀ j, j < n → W.cell? ⟨g, j, none⟩ = some (.int .i64 (T[j]?.getD (0, 0)).2)
  l1 : bA + 1 < lim
  l2 : Bq < lim
  l3 : w.heap.size + 2 < lim
  l4 : lim ≤ W.heap.size
section
variable {w : World} {many what m d : Int} {lim Bq bA k n : Nat} {ao xa xs : Option Addr} {cap ca cs : Nat} {ls : List Int} {T : List (Nat × Int)} {W W' : World} {B : Nat}
theorem Shr.bel (h : Shr w many what m d lim Bq bA k n ao xa xs cap ca cs ls T W) (hb : Below B W W') (hB : lim ≤ B) : Shr w many what m d lim Bq bA k n ao xa xs cap ca cs ls T W' := by
  have l1 := h.l1; have l2 := h.l2; have l3 := h.l3; have l4 := h.l4
  have cl := h.cm.lt
  refine ⟨⟨(hb.block _ (by omega)).trans h.cm.mm, (hb.block _ (by omega)).trans h.cm.x, (hb.block _ (by omega)).trans h.cm.r, h.cm.below.trans (hb.mono (by omega))⟩,
    (hb.cell (p := ⟨Bq, 0, none⟩) (by show Bq < _; omega)).trans h.sc, fun hp => ?_, (hb.cell (p := ⟨bA, 0, none⟩) (by show bA < _; omega)).trans h.va, (hb.cell (p := ⟨bA + 1, 0, none⟩) (by show bA + 1 < _; omega)).trans h.vs, fun hp => ?_, fun hp => ?_, l1, l2, l3, Nat.le_trans l4 hb.size⟩
  · obtain ⟨g, e, hl, hc⟩ := h.sd hp
    exact ⟨g, e, hl, fun j hj => (hb.cell (p := ⟨g, 0 + j, none⟩) (by show g < _; omega)).trans (hc j hj)⟩
  · obtain ⟨g, e, hl, hc⟩ := h.ra hp
    exact ⟨g, e, hl, fun j hj => (hb.cell (p := ⟨g, j, none⟩) (by show g < _; omega)).trans (hc j hj)⟩
  · obtain ⟨g, e, hl, hc⟩ := h.rs hp
    exact ⟨g, e, hl, fun j hj => (hb.cell (p := ⟨g, j, none⟩) (by show g < _; omega)).trans (hc j hj)⟩
theorem Shr.start {wc : World} {va vs : Value} {lo : Nat} (hcm : Cm w many what m d wc) (hsc : wc.cell? ⟨Bq, 0, none⟩ = some (.slice ao k cap)) (hlt : Bq < wc.heap.size) (hs : IsS wc lo ao k ls) (hT : T = some_ ls k)
    (h : Tw wc wc.heap.size W va vs va vs T.length (T.map fun x => .int .i64 (x.1 : Int)) T.length (T.map fun x => .int .i64 x.2)) :
    ∃ xa xs ca cs, va = .slice xa T.length ca ∧ vs = .slice xs T.length cs ∧ Shr w many what m d W.heap.size Bq wc.heap.size k T.length ao xa xs cap ca cs ls T W := by
  obtain ⟨xa, ca, rfl⟩ := row_slice h.rowA
  obtain ⟨xs, cs, rfl⟩ := row_slice h.rowS
  have hb := h.below
  have hl := h.lt
  have cl := hcm.lt
  refine ⟨xa, xs, ca, cs, rfl, rfl, hcm.bel hb, (hb.cell (p := ⟨Bq, 0, none⟩) hlt).trans hsc, fun hp => ?_, cell_blk h.boxA 0 _ rfl, cell_blk h.boxS 0 _ rfl, fun hp => ?_, fun hp => ?_, hl, by omega, by omega, Nat.le_refl _⟩
  · obtain ⟨g, e, _, hg, hc⟩ := hs.2 hp
    exact ⟨g, e, by omega, fun j hj => (hb.cell (p := ⟨g, 0 + j, none⟩) hg).trans (hc j hj)⟩
  · obtain ⟨g, cap', cur, e, _, hg, _⟩ := row_some h.rowA hp
    cases e
    refine ⟨g, rfl, blk_lt hg, fun j hj => ?_⟩
    rw [h.rowA.cellAt j (by omega), List.getElem?_map]
    simp [hj]
  · obtain ⟨g, cap', cur, e, _, hg, _⟩ := row_some h.rowS hp
    cases e
    refine ⟨g, rfl, blk_lt hg, fun j hj => ?_⟩
    rw [h.rowS.cellAt j (by omega), List.getElem?_map]
    simp [hj]
end
end Go.Proofs.Ytagdenhcbafblaa
