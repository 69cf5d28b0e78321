/-
  A queue of bytes in memory.
-/
import Derived.Test.YtneeagabmdpjgaaCom
namespace Go.Proofs.Ytneeagabmdpjgaa
open Go.RowKit
set_option linter.unusedVariables false
set_option linter.unusedSimpArgs false

theorem Try.info5 : (Try.prog.info? 5).map (fun i => (i.zero, i.size, i.bytes)) = some (some (.int .u8 0), 1, 1) := by kernel_rfl

/-- The queue in memory. -/
structure QAt (w : World) (base p : Nat) (sv : Value) (g : Nat) (m : Int) (vs : List Int) : Prop where
  blk : w.heap[p]? = some (.cells #[sv, .int .i64 g, .int .i64 m, .bool true] 93 (0, 0))
  row : w.ownsRow base 5 1 sv vs.length (vs.map (.int .u8))
  ne : ∀ k, sv.ownBlock = some k → k ≠ p
  lo : base ≤ p
/-- Its blocks. -/
def FP (p : Nat) (sv : Value) (k : Nat) : Prop := k = p ∨ sv.ownBlock = some k
section
variable {w : World} {base p g : Nat} {m : Int} {sv : Value} {vs : List Int}
theorem QAt.c0 (h : QAt w base p sv g m vs) : w.cell? ⟨p, 0, none⟩ = some sv := cell_blk h.blk 0 _ rfl
theorem QAt.c1 (h : QAt w base p sv g m vs) : w.cell? ⟨p, 1, none⟩ = some (.int .i64 g) := cell_blk h.blk 1 _ rfl
theorem QAt.c2 (h : QAt w base p sv g m vs) : w.cell? ⟨p, 2, none⟩ = some (.int .i64 m) := cell_blk h.blk 2 _ rfl
theorem QAt.c3 (h : QAt w base p sv g m vs) : w.cell? ⟨p, 3, none⟩ = some (.bool true) := cell_blk h.blk 3 _ rfl
theorem QAt.fz (h : QAt w base p sv g m vs) (j : Nat) : w.frozen? ⟨p, j, none⟩ = false := frozen_blk h.blk j
theorem QAt.lt (h : QAt w base p sv g m vs) : p < w.heap.size := blk_lt h.blk
theorem QAt.mod {w' : World} {S : Nat → Prop} (h : QAt w base p sv g m vs) (hm : Mod S w w') (hn : ∀ k, FP p sv k → ¬ S k) : QAt w' base p sv g m vs :=
  ⟨(hm.block p h.lt (hn p (.inl rfl))).trans h.blk, hm.row h.row (fun k hk => hn k (.inr hk)), h.ne, h.lo⟩
theorem QAt.below {w' : World} (h : QAt w base p sv g m vs) (hb : Below w.heap.size w w') : QAt w' base p sv g m vs :=
  h.mod (Mod.of_below hb (fun _ => False)) (fun _ _ h => h)
theorem QAt.drewN (h : QAt w base p sv g m vs) (n : Nat) : QAt (w.drewN n) base p sv g m vs := ⟨h.blk, h.row, h.ne, h.lo⟩
theorem QAt.fplt (h : QAt w base p sv g m vs) {k : Nat} (hk : FP p sv k) : base ≤ k ∧ k < w.heap.size := by
  rcases hk with rfl | hk
  · exact ⟨h.lo, h.lt⟩
  · exact h.row.lt k hk
end
/-- A queue's step: only its blocks turned; its blocks then are among those, or new. -/
structure Step (p : Nat) (sv sv' : Value) (w w' : World) : Prop where
  mod : Mod (FP p sv) w w'
  fp : ∀ k, FP p sv' k → FP p sv k ∨ w.heap.size ≤ k
theorem Step.refl (p : Nat) (sv : Value) (w : World) : Step p sv sv w w := ⟨Mod.refl _ _, fun _ h => .inl h⟩
theorem Step.trans {p : Nat} {s0 s1 s2 : Value} {a b c : World} (h : Step p s0 s1 a b) (g : Step p s1 s2 b c) : Step p s0 s2 a c :=
  ⟨h.mod.trans g.mod (fun k hk hs => by
    rcases h.fp k hs with h' | h'
    · exact h'
    · omega), fun k hk => by
    rcases g.fp k hk with h' | h'
    · exact h.fp k h'
    · exact .inr (Nat.le_trans h.mod.size h')⟩
theorem Step.of_below {p : Nat} {sv : Value} {w w' : World} (h : Below w.heap.size w w') : Step p sv sv w w' := ⟨Mod.of_below h _, fun _ hk => .inl hk⟩
theorem Below.drewN' (w : World) (n : Nat) : Below w.heap.size w (w.drewN n) := ⟨rfl, rfl, rfl, Nat.le_refl _, fun _ _ => rfl⟩

/-- Bytes that may be read, in a block of which T is told. -/
def Arg (T : Nat → Prop) (w : World) (ao : Option Addr) (n : Nat) (zs : List Int) : Prop :=
  zs.length = n ∧ (0 < n → ∃ b off, ao = some ⟨b, off, none⟩ ∧ b < w.heap.size ∧ T b ∧ ∀ j, j < n → w.cell? ⟨b, off + j, none⟩ = some (.int .u8 (zs.getD j 0)))
theorem Arg.mod {T S : Nat → Prop} {w w' : World} {ao : Option Addr} {n : Nat} {zs : List Int} (h : Arg T w ao n zs) (hm : Mod S w w') (ht : ∀ k, T k → ¬ S k) : Arg T w' ao n zs :=
  ⟨h.1, fun hp => by
    obtain ⟨b, off, e, hb, hT, hc⟩ := h.2 hp
    exact ⟨b, off, e, Nat.lt_of_lt_of_le hb hm.size, hT, fun j hj => (hm.cell (p := ⟨b, off + j, none⟩) hb (ht b hT)).trans (hc j hj)⟩⟩
theorem Arg.mono {T U : Nat → Prop} {w : World} {ao : Option Addr} {n : Nat} {zs : List Int} (h : Arg T w ao n zs) (hu : ∀ k, k < w.heap.size → T k → U k) : Arg U w ao n zs :=
  ⟨h.1, fun hp => by
    obtain ⟨b, off, e, hb, hT, hc⟩ := h.2 hp
    exact ⟨b, off, e, hb, hu b hb hT, hc⟩⟩
theorem Arg.below {T : Nat → Prop} {w w' : World} {ao : Option Addr} {n : Nat} {zs : List Int} (h : Arg T w ao n zs) (hb : Below w.heap.size w w') : Arg T w' ao n zs :=
  h.mod (Mod.of_below hb (fun _ => False)) (fun _ _ h => h)
theorem Arg.drewN {T : Nat → Prop} {w : World} {ao : Option Addr} {n : Nat} {zs : List Int} (h : Arg T w ao n zs) (k : Nat) : Arg T (w.drewN k) ao n zs := ⟨h.1, h.2⟩
/-- What append reads. -/
theorem Arg.news {T : Nat → Prop} {w : World} {ao : Option Addr} {n : Nat} {zs : List Int} (h : Arg T w ao n zs) : ∀ ad, ao = some ad → ∀ j u, (zs.map (Value.int .u8))[j]? = some u → w.cell? (ad.add j) = some u := by
  rintro ad rfl j u hj
  have hj1 := (List.getElem?_eq_some_iff.1 hj).1
  have hj' : j < n := by rw [List.length_map, h.1] at hj1; exact hj1
  obtain ⟨b, off, e, hb, _, hc⟩ := h.2 (by omega)
  cases e
  have hz : zs[j]? = some (zs.getD j 0) := by
    have : j < zs.length := by rw [h.1]; exact hj'
    simp [List.getD, this]
  rw [List.getElem?_map, hz] at hj
  cases hj
  rw [show (⟨b, off, none⟩ : Addr).add j = ⟨b, off + j, none⟩ from WideShapes.add_plain b off j]
  exact hc j hj'
theorem one_u8 (zs : List Int) : ∀ u ∈ zs.map (Value.int .u8), u.oneCell' = true := fun u hu => by
  obtain ⟨z, _, rfl⟩ := List.mem_map.1 hu; rfl
/-- A row's window. -/
theorem row_window {w : World} {base : Nat} {ao : Option Addr} {n cap : Nat} {vs : List Int} (h : w.ownsRow base 5 1 (.slice ao n cap) n (vs.map (.int .u8))) (g k : Nat) (hk : g + k ≤ n) (hp : 0 < k) :
    ∃ b, ao = some ⟨b, 0, none⟩ ∧ Arg (fun k => (Value.slice ao n cap).ownBlock = some k) w (some ⟨b, g, none⟩) k ((vs.drop g).take k) := by
  have hl : vs.length = n := by simpa using h.1
  obtain ⟨b, cap', cur, hv, hbb, hgg, hnc, hcm, hcs, htk⟩ := row_some h (by omega)
  injection hv with e1 e2 e3
  subst e1
  refine ⟨b, rfl, by simp; omega, fun _ => ⟨b, g, rfl, blk_lt hgg, rfl, fun j hj => ?_⟩⟩
  refine cell_blk hgg (g + j) _ ?_
  have := congrArg (fun l => l[g + j]?) htk
  simp only [Nat.mul_one] at this
  rw [List.getElem?_take_of_lt (by omega)] at this
  rw [← Array.getElem?_toList, this, List.getElem?_map]
  have hlt : g + j < vs.length := by omega
  simp [List.getD, List.getElem?_take_of_lt hj, List.getElem?_drop, hlt]
end Go.Proofs.Ytneeagabmdpjgaa
