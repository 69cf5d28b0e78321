/-
  The lengths of a queue's frames in memory.
-/
import Derived.Test.YtneeagabmdpjgaaSm
namespace Go.Proofs.Ytneeagabmdpjgaa
open Go.RowKit
set_option linter.unusedVariables false
set_option linter.unusedSimpArgs false

theorem Try.info3 : (Try.prog.info? 3).map (fun i => (i.zero, i.size, i.bytes)) = some (some (.int .i64 0), 1, 8) := by kernel_rfl

/-- The queue in memory. -/
structure OAt (w : World) (base p : Nat) (sv : Value) (g : Nat) (part : Int) (q : Nat) (m : Int) (vs : List Int) : Prop where
  blk : w.heap[p]? = some (.cells #[sv, .int .i64 g, .int .i64 part, .pointer (some ⟨q, 0, none⟩), .int .i64 m] 63 (0, 0))
  row : w.ownsRow base 3 1 sv vs.length (vs.map (.int .i64))
  ne : ∀ k, sv.ownBlock = some k → k ≠ p
  lo : base ≤ p
section
variable {w : World} {base p g q : Nat} {part m : Int} {sv : Value} {vs : List Int}
theorem OAt.c0 (h : OAt w base p sv g part q m vs) : w.cell? ⟨p, 0, none⟩ = some sv := cell_blk h.blk 0 _ rfl
theorem OAt.c1 (h : OAt w base p sv g part q m vs) : w.cell? ⟨p, 1, none⟩ = some (.int .i64 g) := cell_blk h.blk 1 _ rfl
theorem OAt.c2 (h : OAt w base p sv g part q m vs) : w.cell? ⟨p, 2, none⟩ = some (.int .i64 part) := cell_blk h.blk 2 _ rfl
theorem OAt.c3 (h : OAt w base p sv g part q m vs) : w.cell? ⟨p, 3, none⟩ = some (.pointer (some ⟨q, 0, none⟩)) := cell_blk h.blk 3 _ rfl
theorem OAt.c4 (h : OAt w base p sv g part q m vs) : w.cell? ⟨p, 4, none⟩ = some (.int .i64 m) := cell_blk h.blk 4 _ rfl
theorem OAt.fz (h : OAt w base p sv g part q m vs) (j : Nat) : w.frozen? ⟨p, j, none⟩ = false := frozen_blk h.blk j
theorem OAt.lt (h : OAt w base p sv g part q m vs) : p < w.heap.size := blk_lt h.blk
theorem OAt.mod {w' : World} {S : Nat → Prop} (h : OAt w base p sv g part q m vs) (hm : Mod S w w') (hn : ∀ k, FP p sv k → ¬ S k) : OAt w' base p sv g part q m vs :=
  ⟨(hm.block p h.lt (hn p (.inl rfl))).trans h.blk, hm.row h.row (fun k hk => hn k (.inr hk)), h.ne, h.lo⟩
theorem OAt.below {w' : World} (h : OAt w base p sv g part q m vs) (hb : Below w.heap.size w w') : OAt w' base p sv g part q m vs :=
  h.mod (Mod.of_below hb (fun _ => False)) (fun _ _ h => h)
theorem OAt.drewN (h : OAt w base p sv g part q m vs) (n : Nat) : OAt (w.drewN n) base p sv g part q m vs := ⟨h.blk, h.row, h.ne, h.lo⟩
theorem OAt.fplt (h : OAt w base p sv g part q m vs) {k : Nat} (hk : FP p sv k) : base ≤ k ∧ k < w.heap.size := by
  rcases hk with rfl | hk
  · exact ⟨h.lo, h.lt⟩
  · exact h.row.lt k hk
end
/-- Bytes that may be read, in a block of which T is told. -/
def Nar (T : Nat → Prop) (w : World) (ao : Option Addr) (n : Nat) (zs : List Int) : Prop :=
  zs.length = n ∧ (0 < n → ∃ b off, ao = some ⟨b, off, none⟩ ∧ b < w.heap.size ∧ T b ∧ ∀ j, j < n → w.cell? ⟨b, off + j, none⟩ = some (.int .i64 (zs.getD j 0)))
theorem Nar.mod {T S : Nat → Prop} {w w' : World} {ao : Option Addr} {n : Nat} {zs : List Int} (h : Nar T w ao n zs) (hm : Mod S w w') (ht : ∀ k, T k → ¬ S k) : Nar T w' ao n zs :=
  ⟨h.1, fun hp => by
    obtain ⟨b, off, e, hb, hT, hc⟩ := h.2 hp
    exact ⟨b, off, e, Nat.lt_of_lt_of_le hb hm.size, hT, fun j hj => (hm.cell (p := ⟨b, off + j, none⟩) hb (ht b hT)).trans (hc j hj)⟩⟩
theorem Nar.mono {T U : Nat → Prop} {w : World} {ao : Option Addr} {n : Nat} {zs : List Int} (h : Nar T w ao n zs) (hu : ∀ k, k < w.heap.size → T k → U k) : Nar U w ao n zs :=
  ⟨h.1, fun hp => by
    obtain ⟨b, off, e, hb, hT, hc⟩ := h.2 hp
    exact ⟨b, off, e, hb, hu b hb hT, hc⟩⟩
theorem Nar.below {T : Nat → Prop} {w w' : World} {ao : Option Addr} {n : Nat} {zs : List Int} (h : Nar T w ao n zs) (hb : Below w.heap.size w w') : Nar T w' ao n zs :=
  h.mod (Mod.of_below hb (fun _ => False)) (fun _ _ h => h)
theorem Nar.drewN {T : Nat → Prop} {w : World} {ao : Option Addr} {n : Nat} {zs : List Int} (h : Nar T w ao n zs) (k : Nat) : Nar T (w.drewN k) ao n zs := ⟨h.1, h.2⟩
/-- What append reads. -/
theorem Nar.news {T : Nat → Prop} {w : World} {ao : Option Addr} {n : Nat} {zs : List Int} (h : Nar T w ao n zs) : ∀ ad, ao = some ad → ∀ j u, (zs.map (Value.int .i64))[j]? = some u → w.cell? (ad.add j) = some u := by
  rintro ad rfl j u hj
  have hj1 := (List.getElem?_eq_some_iff.1 hj).1
  have hj' : j < n := by rw [List.length_map, h.1] at hj1; exact hj1
  obtain ⟨b, off, e, hb, _, hc⟩ := h.2 (by omega)
  cases e
  have hz : zs[j]? = some (zs.getD j 0) := by
    have : j < zs.length := by rw [h.1]; exact hj'
    simp [List.getD, this]
  rw [List.getElem?_map, hz] at hj
  cases hj
  rw [show (⟨b, off, none⟩ : Addr).add j = ⟨b, off + j, none⟩ from WideShapes.add_plain b off j]
  exact hc j hj'
theorem one_i64 (zs : List Int) : ∀ u ∈ zs.map (Value.int .i64), u.oneCell' = true := fun u hu => by
  obtain ⟨z, _, rfl⟩ := List.mem_map.1 hu; rfl
/-- A row's window. -/
theorem row_window3 {w : World} {base : Nat} {ao : Option Addr} {n cap : Nat} {vs : List Int} (h : w.ownsRow base 3 1 (.slice ao n cap) n (vs.map (.int .i64))) (g k : Nat) (hk : g + k ≤ n) (hp : 0 < k) :
    ∃ b, ao = some ⟨b, 0, none⟩ ∧ Nar (fun k => (Value.slice ao n cap).ownBlock = some k) w (some ⟨b, g, none⟩) k ((vs.drop g).take k) := by
  have hl : vs.length = n := by simpa using h.1
  obtain ⟨b, cap', cur, hv, hbb, hgg, hnc, hcm, hcs, htk⟩ := row_some h (by omega)
  injection hv with e1 e2 e3
  subst e1
  refine ⟨b, rfl, by simp; omega, fun _ => ⟨b, g, rfl, blk_lt hgg, rfl, fun j hj => ?_⟩⟩
  refine cell_blk hgg (g + j) _ ?_
  have := congrArg (fun l => l[g + j]?) htk
  simp only [Nat.mul_one] at this
  rw [List.getElem?_take_of_lt (by omega)] at this
  rw [← Array.getElem?_toList, this, List.getElem?_map]
  have hlt : g + j < vs.length := by omega
  simp [List.getD, List.getElem?_take_of_lt hj, List.getElem?_drop, hlt]
theorem row_cut3 {w : World} {base b n cap : Nat} {xs : List Value} (h : w.ownsRow base 3 1 (.slice (some ⟨b, 0, none⟩) n cap) n xs) : w.ownsRow base 3 1 (.slice (some ⟨b, 0, none⟩) 0 cap) 0 [] := by
  refine ⟨rfl, ?_⟩
  rcases h.2 with ⟨e, _⟩ | ⟨b', c', cur, e, h1, h2, h3, h4, h5, h6⟩
  · cases e
  · injection e with e1 e2 e3
    injection e1 with e1
    injection e1 with e1
    subst e1 e3
    exact .inr ⟨b, cap, cur, rfl, h1, h2, Nat.zero_le _, h4, h5, by simp⟩

/-- Behind an append, and behind the store. -/
theorem OAt.appended {w w1 : World} {base p g q : Nat} {part m : Int} {sv sv' : Value} {vs ws : List Int} {row : Option Nat} (h : OAt w base p sv g part q m vs) (hr : row = sv.ownBlock)
    (hown : w1.ownsRow base 3 1 sv' ws.length (ws.map (.int .i64))) (hg : w.grownBy w1 row) (hf : ∀ k, sv'.ownBlock = some k → row = some k ∨ w.heap.size ≤ k) :
    w1.heap[p]? = some (.cells #[sv, .int .i64 g, .int .i64 part, .pointer (some ⟨q, 0, none⟩), .int .i64 m] 63 (0, 0)) ∧ OAt (w1.setCell ⟨p, 0, none⟩ sv') base p sv' g part q m ws ∧ Step p sv sv' w (w1.setCell ⟨p, 0, none⟩ sv') := by
  subst hr
  have hb1 : w1.heap[p]? = some (.cells #[sv, .int .i64 g, .int .i64 part, .pointer (some ⟨q, 0, none⟩), .int .i64 m] 63 (0, 0)) := (hg.block p h.lt (fun e => h.ne p e.symm rfl)).trans h.blk
  have hp := h.lt
  have hne : ∀ k, sv'.ownBlock = some k → k ≠ p := fun k hk e => by
    subst e
    rcases hf k hk with h' | h'
    · exact h.ne k h' rfl
    · omega
  refine ⟨hb1, ⟨?_, ?_, hne, h.lo⟩, ?_, ?_⟩
  · rw [setCell_blk hb1]; rfl
  · exact (Mod.setCell (S := fun k => k = p) (Mod.refl _ _) ⟨p, 0, none⟩ (.inl rfl) _).row hown hne
  · exact Mod.setCell (Mod.grown (Mod.refl _ _) hg (fun k hk => .inl (.inr hk))) ⟨p, 0, none⟩ (.inl (.inl rfl)) _
  · intro k hk
    rcases hk with rfl | hk
    · exact .inl (.inl rfl)
    · rcases hf k hk with h' | h'
      · exact .inl (.inr h')
      · exact .inr h'

set_option maxHeartbeats 800000 in
theorem oleft_any (base p g q : Nat) (part m : Int) (sv : Value) (vs : List Int) (w : World) (h : OAt w base p sv g part q m vs) (hg : g ≤ vs.length) (hl : vs.length ≤ 4194304) :
    ∃ ao, (ao = none → vs.length = 0) ∧ Nar (fun k => sv.ownBlock = some k) w ao (vs.length - g) (vs.drop g) ∧
    Calls Try.prog 40 #[.pointer (some ⟨p, 0, none⟩)] w fun e w' => e = .returned (.slice ao (vs.length - g) (vs.length - g)) ∧ ∃ q, w' = w.drewN q := by
  have c0 := h.c0
  have c1 := h.c1
  obtain ⟨a0, cap, rfl⟩ := row_slice h.row
  cases a0 with
  | none =>
    have h0 : vs.length = 0 ∧ cap = 0 := by
      rcases h.row.2 with ⟨e, _⟩ | ⟨g', c', cur, e, _⟩
      · injection e with e1 e2 e3
        exact ⟨e2, e3⟩
      · cases e
    obtain ⟨e1, rfl⟩ := h0
    obtain rfl : g = 0 := by omega
    refine ⟨none, fun _ => e1, ⟨by simp, fun hp => by omega⟩, ?_⟩
    rw [e1] at c0 ⊢
    clear h
    go_enter Try.func40, Try.ntmps40
    go_wp2
    go_quiet (fail)
    go_wp2
    go_ret
    exact ⟨rfl, _, rfl⟩
  | some ad =>
    obtain ⟨b, cap', cur, hv, hbb, hgg, hnc, hcm, hcs, htk⟩ : ∃ g' cap' cur, (Value.slice (some ad) vs.length cap) = .slice (some ⟨g', 0, none⟩) vs.length cap' ∧ base ≤ g' ∧ w.heap[g']? = some (.cells cur 3 (0, 0)) ∧ vs.length ≤ cap' ∧ cap' ≤ maxLen ∧ cur.size = cap' * 1 ∧ cur.toList.take (vs.length * 1) = vs.map (.int .i64) := by
      rcases h.row.2 with ⟨e, _⟩ | h'
      · cases e
      · exact h'
    injection hv with e1 e2 e3
    injection e1 with e1
    subst e1; subst e3
    have hw := row_window3 h.row g (vs.length - g) (by omega)
    clear hgg htk hcs h
    by_cases hlt : g < vs.length
    · obtain ⟨b', e, ha⟩ := hw (by omega)
      cases e
      refine ⟨some ⟨b, g, none⟩, by simp, by rw [List.take_of_length_le (by simp)] at ha; exact ha, ?_⟩
      clear hw ha
      go_enter Try.func40, Try.ntmps40
      go_wp2
      go_quiet (fail)
      go_wp2
      go_ret
      exact ⟨rfl, _, rfl⟩
    · obtain rfl : g = vs.length := by omega
      refine ⟨some ⟨b, 0, none⟩, by simp, ⟨by simp, fun hp => by omega⟩, ?_⟩
      clear hw
      go_enter Try.func40, Try.ntmps40
      go_wp2
      go_quiet (fail)
      go_wp2
      go_ret
      exact ⟨by rw [Nat.sub_self]; rfl, _, rfl⟩
end Go.Proofs.Ytneeagabmdpjgaa
