/-
  Two rows that grow, each in a box.
-/
import Derived.Test.YtagdenhcbafblaaSo
import Derived.Test.YtagdenhcbafblaaSd
namespace Go.Proofs.Ytagdenhcbafblaa
open Go.RowKit
set_option linter.unusedVariables false
set_option linter.unusedSimpArgs false

structure Tw (wE : World) (bA : Nat) (W : World) (ca cs va vs : Value) (n : Nat) (la : List Value) (m : Nat) (ls : List Value) : Prop where
  boxA : W.heap[bA]? = some (.cells #[ca] 22 (0, 0))
  boxS : W.heap[bA + 1]? = some (.cells #[cs] 22 (0, 0))
  rowA : W.ownsRow (bA + 2) 3 1 va n la
  rowS : W.ownsRow (bA + 2) 3 1 vs m ls
  sep : ∀ x, va.ownBlock = some x → vs.ownBlock ≠ some x
  below : Below bA wE W
section
variable {wE W W' : World} {bA : Nat} {ca cs va vs va' vs' : Value} {n m n' m' : Nat} {la ls la' ls' : List Value}
theorem Tw.lt (h : Tw wE bA W ca cs va vs n la m ls) : bA + 1 < W.heap.size := blk_lt h.boxS
theorem Tw.cells (h : Tw wE bA W ca cs va vs n la m ls) : W.cell? ⟨bA, 0, none⟩ = some ca ∧ W.cell? ⟨bA + 1, 0, none⟩ = some cs ∧ W.frozen? ⟨bA, 0, none⟩ = false ∧ W.frozen? ⟨bA + 1, 0, none⟩ = false :=
  ⟨cell_blk h.boxA 0 _ rfl, cell_blk h.boxS 0 _ rfl, frozen_blk h.boxA 0, frozen_blk h.boxS 0⟩
theorem Tw.S (h : Tw wE bA W ca cs va vs n la m ls) {x j : Nat} {u : Value} (hx : x < bA) (hc : wE.cell? ⟨x, j, none⟩ = some u) : W.cell? ⟨bA, 0, none⟩ = some ca ∧ W.cell? ⟨bA + 1, 0, none⟩ = some cs ∧ W.cell? ⟨x, j, none⟩ = some u :=
  ⟨h.cells.1, h.cells.2.1, (h.below.cell (p := ⟨x, j, none⟩) hx).trans hc⟩
theorem Tw.drew (h : Tw wE bA W ca cs va vs n la m ls) : Tw wE bA W.drew ca cs va vs n la m ls := ⟨h.boxA, h.boxS, h.rowA, h.rowS, h.sep, ⟨h.below.os, h.below.tape, h.below.output, h.below.size, h.below.block⟩⟩
theorem Tw.alloc (h : Tw wE bA W ca cs va vs n la m ls) (o : Obj) : Tw wE bA (W.alloc o) ca cs va vs n la m ls :=
  ⟨alloc_blk h.boxA o, alloc_blk h.boxS o, h.rowA.alloc o, h.rowS.alloc o, h.sep, h.below.alloc (by have := h.lt; omega) o⟩
theorem Tw.appA (h : Tw wE bA W ca cs va vs n la m ls) (hg : W.grownBy W' va.ownBlock) (hown : W'.ownsRow (bA + 2) 3 1 va' n' la') (hf : ∀ k, va'.ownBlock = some k → va.ownBlock = some k ∨ W.heap.size ≤ k) : Tw wE bA W' ca cs va' vs n' la' m ls := by
  have hl := h.lt
  have hA := h.rowA.lt
  have hS := h.rowS.lt
  have hm : Mod (fun k => va.ownBlock = some k) W W' := ⟨hg.os, hg.tape, hg.output, hg.size, fun k hk hn => hg.block k hk (fun e => hn e.symm)⟩
  refine ⟨(hm.block _ (by omega) (fun e => by have := (hA _ e).1; omega)).trans h.boxA, (hm.block _ (by omega) (fun e => by have := (hA _ e).1; omega)).trans h.boxS, hown, hm.row h.rowS (fun k hk e => h.sep k e hk), ?_, ?_⟩
  · intro x hx e
    rcases hf x hx with h' | h'
    · exact h.sep x h' e
    · have := (hS x e).2; omega
  · exact ⟨hm.os.trans h.below.os, hm.tape.trans h.below.tape, hm.output.trans h.below.output, Nat.le_trans h.below.size hm.size, fun k hk => (hm.block k (by omega) (fun e => by have := (hA _ e).1; omega)).trans (h.below.block k hk)⟩
theorem Tw.appS (h : Tw wE bA W ca cs va vs n la m ls) (hg : W.grownBy W' vs.ownBlock) (hown : W'.ownsRow (bA + 2) 3 1 vs' m' ls') (hf : ∀ k, vs'.ownBlock = some k → vs.ownBlock = some k ∨ W.heap.size ≤ k) : Tw wE bA W' ca cs va vs' n la m' ls' := by
  have hl := h.lt
  have hA := h.rowA.lt
  have hS := h.rowS.lt
  have hm : Mod (fun k => vs.ownBlock = some k) W W' := ⟨hg.os, hg.tape, hg.output, hg.size, fun k hk hn => hg.block k hk (fun e => hn e.symm)⟩
  refine ⟨(hm.block _ (by omega) (fun e => by have := (hS _ e).1; omega)).trans h.boxA, (hm.block _ (by omega) (fun e => by have := (hS _ e).1; omega)).trans h.boxS, hm.row h.rowA (fun k hk e => h.sep k hk e), hown, ?_, ?_⟩
  · intro x hx e
    rcases hf x e with h' | h'
    · exact h.sep x hx h'
    · have := (hA x hx).2; omega
  · exact ⟨hm.os.trans h.below.os, hm.tape.trans h.below.tape, hm.output.trans h.below.output, Nat.le_trans h.below.size hm.size, fun k hk => (hm.block k (by omega) (fun e => by have := (hS _ e).1; omega)).trans (h.below.block k hk)⟩
theorem Tw.set (h : Tw wE bA W ca cs va vs n la m ls) (x y : Value) (hE : bA ≤ wE.heap.size) : Tw wE bA ((W.setCell ⟨bA, 0, none⟩ x).setCell ⟨bA + 1, 0, none⟩ y) x y va vs n la m ls := by
  have hA := h.rowA.lt
  have hS := h.rowS.lt
  have h1 : (W.setCell ⟨bA, 0, none⟩ x).heap[bA]? = some (.cells #[x] 22 (0, 0)) := by rw [setCell_blk h.boxA]; rfl
  have h2 : (W.setCell ⟨bA, 0, none⟩ x).heap[bA + 1]? = some (.cells #[cs] 22 (0, 0)) := (setCell_blk_ne (by simp) x).trans h.boxS
  have hm : Mod (fun k => k = bA ∨ k = bA + 1) W ((W.setCell ⟨bA, 0, none⟩ x).setCell ⟨bA + 1, 0, none⟩ y) := ((Mod.refl _ W).setCell ⟨bA, 0, none⟩ (.inl (.inl rfl)) x).setCell ⟨bA + 1, 0, none⟩ (.inl (.inr rfl)) y
  refine ⟨(setCell_blk_ne (by simp) y).trans h1, by rw [setCell_blk h2]; rfl, hm.row h.rowA (fun k hk e => by have := (hA k hk).1; omega), hm.row h.rowS (fun k hk e => by have := (hS k hk).1; omega), h.sep, ?_⟩
  exact (h.below.setCell (p := ⟨bA, 0, none⟩) (Nat.le_refl _) x).setCell (p := ⟨bA + 1, 0, none⟩) (by simp) y
end
theorem Tw.start (w : World) : Tw w w.heap.size ((w.alloc (.cells #[.slice none 0 0] 22)).alloc (.cells #[.slice none 0 0] 22)) (.slice none 0 0) (.slice none 0 0) (.slice none 0 0) (.slice none 0 0) 0 [] 0 [] := by
  have b1 : (w.alloc (.cells #[.slice none 0 0] 22)).heap.size = w.heap.size + 1 := by simp
  refine ⟨alloc_blk (alloc_blk_new _ _) _, ?_, World.ownsRow_nil _ _ _ _, World.ownsRow_nil _ _ _ _, fun x hx => by simp [Value.ownBlock] at hx, ((Below.refl _ _).alloc (Nat.le_refl _) _).alloc (by simp) _⟩
  rw [← b1]; exact alloc_blk_new _ _
/-- One cell that was laid out. -/
theorem news_one {W : World} {B : Nat} {x : Value} {t : TypeId} (h : W.heap[B]? = some (.cells #[x] t (0, 0))) : ∀ ad, some (⟨B, 0, none⟩ : Addr) = some ad → ∀ j u, [x][j]? = some u → W.cell? (ad.add j) = some u := by
  rintro ad e j u hj
  cases e
  match j, hj with
  | 0, hj => cases hj; exact cell_blk h 0 _ rfl
theorem blkNew (W : World) (o : Obj) (B : Nat) (h : B = W.heap.size) : (W.alloc o).heap[B]? = some o := by subst h; exact alloc_blk_new W o
theorem blkGrown {W W' : World} {B : Nat} {o : Obj} {row : Option Nat} (h : W.heap[B]? = some o) (hg : W.grownBy W' row) (hr : row ≠ some B) : W'.heap[B]? = some o := (hg.block B (blk_lt h) hr.symm).trans h
theorem some_pairs {ls : List Int} {i : Nat} {z : Int} (hz : ls[i]?.getD 0 = z) (hp : 0 < z) : some_ ls (i + 1) = some_ ls i ++ [(i, z)] := by
  rw [some_succ_pos ls i (by omega), hz]
end Go.Proofs.Ytagdenhcbafblaa
