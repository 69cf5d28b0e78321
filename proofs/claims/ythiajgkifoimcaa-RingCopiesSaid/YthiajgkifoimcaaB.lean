import Derived.Test.YthiajgkifoimcaaCom
namespace Go.Proofs.Ythiajgkifoimcaa
open Go.RowKit
set_option linter.unusedVariables false
set_option linter.unusedSimpArgs false

theorem Try.info3 : (Try.prog.info? 3).map (fun i => (i.zero, i.size, i.bytes)) = some (some (.int .i64 0), 1, 8) := by kernel_rfl

/-- The ring in memory. -/
structure RingAt (w : World) (base p : Nat) (F N m : Int) (sv : Value) (vs : List Int) : Prop where
  blk : w.heap[p]? = some (.cells #[.int .u64 F, .int .u64 N, sv, .int .i64 m] 58 (0, 0))
  row : w.ownsRow base 3 1 sv vs.length (vs.map (.int .i64))
  ne : ∀ k, sv.ownBlock = some k → k ≠ p
  lo : base ≤ p
/-- Its blocks. -/
def FP (p : Nat) (sv : Value) (k : Nat) : Prop := k = p ∨ sv.ownBlock = some k
theorem RingAt.c0 {w : World} {base p : Nat} {F N m : Int} {sv : Value} {vs : List Int} (h : RingAt w base p F N m sv vs) : w.cell? ⟨p, 0, none⟩ = some (.int .u64 F) := cell_blk h.blk 0 _ rfl
theorem RingAt.c1 {w : World} {base p : Nat} {F N m : Int} {sv : Value} {vs : List Int} (h : RingAt w base p F N m sv vs) : w.cell? ⟨p, 1, none⟩ = some (.int .u64 N) := cell_blk h.blk 1 _ rfl
theorem RingAt.c2 {w : World} {base p : Nat} {F N m : Int} {sv : Value} {vs : List Int} (h : RingAt w base p F N m sv vs) : w.cell? ⟨p, 2, none⟩ = some sv := cell_blk h.blk 2 _ rfl
theorem RingAt.c3 {w : World} {base p : Nat} {F N m : Int} {sv : Value} {vs : List Int} (h : RingAt w base p F N m sv vs) : w.cell? ⟨p, 3, none⟩ = some (.int .i64 m) := cell_blk h.blk 3 _ rfl
theorem RingAt.fz {w : World} {base p : Nat} {F N m : Int} {sv : Value} {vs : List Int} (h : RingAt w base p F N m sv vs) (j : Nat) : w.frozen? ⟨p, j, none⟩ = false := frozen_blk h.blk j
theorem RingAt.lt {w : World} {base p : Nat} {F N m : Int} {sv : Value} {vs : List Int} (h : RingAt w base p F N m sv vs) : p < w.heap.size := blk_lt h.blk
theorem RingAt.mod {w w' : World} {S : Nat → Prop} {base p : Nat} {F N m : Int} {sv : Value} {vs : List Int} (h : RingAt w base p F N m sv vs) (hm : Mod S w w') (hn : ∀ k, FP p sv k → ¬ S k) : RingAt w' base p F N m sv vs :=
  ⟨(hm.block p h.lt (hn p (.inl rfl))).trans h.blk, hm.row h.row (fun k hk => hn k (.inr hk)), h.ne, h.lo⟩
theorem RingAt.fplt {w : World} {base p : Nat} {F N m : Int} {sv : Value} {vs : List Int} (h : RingAt w base p F N m sv vs) {k : Nat} (hk : FP p sv k) : base ≤ k ∧ k < w.heap.size := by
  rcases hk with rfl | hk
  · exact ⟨h.lo, h.lt⟩
  · exact h.row.lt k hk
/-- A ring's step: only its blocks turned; its blocks then are among those, or new. -/
structure Step (p : Nat) (sv sv' : Value) (w w' : World) : Prop where
  mod : Mod (FP p sv) w w'
  fp : ∀ k, FP p sv' k → FP p sv k ∨ w.heap.size ≤ k
theorem Step.refl (p : Nat) (sv : Value) (w : World) : Step p sv sv w w := ⟨Mod.refl _ _, fun _ h => .inl h⟩
theorem Step.trans {p : Nat} {s0 s1 s2 : Value} {a b c : World} (h : Step p s0 s1 a b) (g : Step p s1 s2 b c) : Step p s0 s2 a c :=
  ⟨h.mod.trans g.mod (fun k hk hs => by
    rcases h.fp k hs with h' | h'
    · exact h'
    · omega), fun k hk => by
    rcases g.fp k hk with h' | h'
    · exact h.fp k h'
    · exact .inr (Nat.le_trans h.mod.size h')⟩

def growTo (vs : List Int) (n : Nat) : List Int := vs ++ List.replicate (n - vs.length) 0
theorem growTo_len (vs : List Int) (n : Nat) : (growTo vs n).length = max vs.length n := by simp [growTo]; omega
theorem growTo_le (vs : List Int) (n : Nat) (h : n ≤ vs.length) : growTo vs n = vs := by simp [growTo, show n - vs.length = 0 by omega]
theorem growTo_snoc (vs : List Int) (n : Nat) : growTo vs n ++ [0] = growTo vs (max vs.length n + 1) := by
  unfold growTo
  rw [List.append_assoc, show max vs.length n + 1 - vs.length = (n - vs.length) + 1 by omega, List.replicate_succ']

/-- One value more behind the ring's values: the world behind the append and the store. -/
theorem RingAt.pushed {w w0 w1 : World} {base p : Nat} {F N m : Int} {sv sv' : Value} {vs : List Int} {x : Int} (h : RingAt w base p F N m sv vs) (h0 : Mod (fun _ => False) w w0)
    (hown : w1.ownsRow base 3 1 sv' (vs.length + 1) (vs.map (.int .i64) ++ [.int .i64 x])) (hg : w0.grownBy w1 sv.ownBlock)
    (hfresh : ∀ k, sv'.ownBlock = some k → sv.ownBlock = some k ∨ w0.heap.size ≤ k) :
    RingAt (w1.setCell ⟨p, 2, none⟩ sv') base p F N m sv' (vs ++ [x]) ∧ Step p sv sv' w (w1.setCell ⟨p, 2, none⟩ sv') := by
  have hb1 : w1.heap[p]? = some (.cells #[.int .u64 F, .int .u64 N, sv, .int .i64 m] 58 (0, 0)) := by
    rw [hg.block p (by have := h.lt; have := h0.size; omega) (fun e => h.ne p e.symm rfl), h0.block p h.lt (by simp)]; exact h.blk
  have hp0 := h.lt
  have hs0 := h0.size
  have hne : ∀ k, sv'.ownBlock = some k → k ≠ p := fun k hk e => by
    subst e
    rcases hfresh k hk with h' | h'
    · exact h.ne k h' rfl
    · omega
  refine ⟨⟨?_, ?_, hne, h.lo⟩, ?_, ?_⟩
  · rw [setCell_blk hb1]; rfl
  · have hm : Mod (fun k => k = p) w1 (w1.setCell ⟨p, 2, none⟩ sv') := Mod.setCell (S := fun k => k = p) (Mod.refl _ _) ⟨p, 2, none⟩ (.inl rfl) _
    have := hm.row hown hne
    simpa using this
  · exact Mod.setCell (Mod.grown (h0.mono (T := FP p sv) (fun _ _ hf => hf.elim)) hg (fun k hk => .inl (.inr hk))) ⟨p, 2, none⟩ (.inl (.inl rfl)) _
  · intro k hk
    rcases hk with rfl | hk
    · exact .inl (.inl rfl)
    · rcases hfresh k hk with h' | h'
      · exact .inl (.inr h')
      · exact .inr (by omega)
end Go.Proofs.Ythiajgkifoimcaa
