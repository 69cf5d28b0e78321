/-
  A decoder: New, Write, End, Waits, Copy.
-/
import Derived.Test.YtfkfooclapogjaaM
import Derived.Test.YtfkfooclapogjaaI
namespace Go.Proofs.Ytfkfooclapogjaa
open Go.RowKit
set_option linter.unusedVariables false
set_option linter.unusedSimpArgs false

theorem none_d (D : Nat) (w : World) (h : w.cell? ⟨D, 1, none⟩ = some (.bool true)) : Calls Try.prog 37 #[.pointer (some ⟨D, 0, none⟩)] w fun e w' => e = .returned (.bool false) ∧ w = w' := by
  go_enter Try.func37, Try.ntmps37
  go_wp2
  go_ret
  exact ⟨rfl, rfl⟩

/-- What the callers know of a decoder: K: blocks that are none of its own. -/
structure DS (w : World) (K : Nat → Prop) (D : Nat) (zs : List Int) (wr : World) : Prop where
  below : Below w.heap.size w wr
  lo : w.heap.size ≤ D
  nk : ¬ K D
  klt : ∀ k, K k → k < wr.heap.size
  wb : ∃ ao n cap, Wb (fun k => w.heap.size ≤ k ∧ ¬ K k ∧ k ≠ D) wr D ao n cap zs
  c1 : wr.cell? ⟨D, 1, none⟩ = some (.bool true)
  by_ : Byt zs
  l3 : zs.length ≤ 3
theorem DS.lt {w wr : World} {K : Nat → Prop} {D : Nat} {zs : List Int} (h : DS w K D zs wr) : D < wr.heap.size := by
  obtain ⟨ao, n, cap, hw⟩ := h.wb
  exact hw.lt
theorem DS.mono {w wr : World} {K L : Nat → Prop} {D : Nat} {zs : List Int} (h : DS w K D zs wr) (hl : ∀ k, L k → K k) : DS w L D zs wr := by
  obtain ⟨ao, n, cap, hw⟩ := h.wb
  exact ⟨h.below, h.lo, fun e => h.nk (hl _ e), fun k e => h.klt k (hl k e), ⟨ao, n, cap, { hw with arg := hw.arg.mono fun k _ hk => ⟨hk.1, fun e => hk.2.1 (hl k e), hk.2.2⟩ }⟩, h.c1, h.by_, h.l3⟩
/-- K, and what was made since. -/
def More (K : Nat → Prop) (w w' : World) (k : Nat) : Prop := K k ∨ (w.heap.size ≤ k ∧ k < w'.heap.size)
/-- Behind whatever leaves all blocks but those of K as they were, or new. -/
theorem DS.turn {w wr w' : World} {K : Nat → Prop} {D : Nat} {zs : List Int} (h : DS w K D zs wr) (hm : Mod K wr w') (hk : ∀ k, K k → w.heap.size ≤ k) : DS w (More K wr w') D zs w' := by
  obtain ⟨ao, n, cap, hw⟩ := h.wb
  have hlt := hw.lt
  refine ⟨(Mod.trans (S := fun k => w.heap.size ≤ k) (Mod.of_below h.below _) hm (fun k _ e => hk k e)).below (fun k hk => by omega), h.lo, fun e => ?_, fun k e => ?_, ⟨ao, n, cap, ?_⟩, (hm.cell (p := ⟨D, 1, none⟩) hlt h.nk).trans h.c1, h.by_, h.l3⟩
  · rcases e with e | e
    · exact h.nk e
    · omega
  · rcases e with e | e
    · exact Nat.lt_of_lt_of_le (h.klt k e) hm.size
    · exact e.2
  · have hw2 := hw.mod hm h.nk (fun k hk e => hk.2.1 e)
    have ha := (hw.arg.mono (U := fun k => (w.heap.size ≤ k ∧ ¬ K k ∧ k ≠ D) ∧ k < wr.heap.size) (fun k h1 h2 => ⟨h2, h1⟩)).mod hm (fun k hk e => hk.1.2.1 e)
    exact { hw2 with arg := ha.mono fun k _ hk => ⟨hk.1.1, fun e => by
      rcases e with e | e
      · exact hk.1.2.1 e
      · have := hk.2; omega, hk.1.2.2⟩ }
theorem DS.grow {w wr w' : World} {K : Nat → Prop} {D : Nat} {zs : List Int} (h : DS w K D zs wr) (hb : Below wr.heap.size wr w') : DS w (More K wr w') D zs w' := by
  obtain ⟨ao, n, cap, hw⟩ := h.wb
  have hlt := hw.lt
  have hs := hb.size
  refine ⟨h.below.trans (hb.mono h.below.size), h.lo, fun e => ?_, fun k e => ?_, ⟨ao, n, cap, ?_⟩, (hb.cell (p := ⟨D, 1, none⟩) hlt).trans h.c1, h.by_, h.l3⟩
  · rcases e with e | e
    · exact h.nk e
    · omega
  · rcases e with e | e
    · exact Nat.lt_of_lt_of_le (h.klt k e) hb.size
    · exact e.2
  · have hw2 := hw.below hb
    have ha := (hw.arg.mono (U := fun k => (w.heap.size ≤ k ∧ ¬ K k ∧ k ≠ D) ∧ k < wr.heap.size) (fun k h1 h2 => ⟨h2, h1⟩)).below hb
    exact { hw2 with arg := ha.mono fun k _ hk => ⟨hk.1.1, fun e => by
      rcases e with e | e
      · exact hk.1.2.1 e
      · have := hk.2; omega, hk.1.2.2⟩ }

theorem New_ds (w w0 : World) (hb : Below w.heap.size w w0) : Calls Try.prog 22 #[] w0 fun e w' => ∃ D, e = .returned (.pointer (some ⟨D, 0, none⟩)) ∧ DS w (fun k => w.heap.size ≤ k ∧ k < w0.heap.size) D [] w' ∧ Below w0.heap.size w0 w' ∧ w0.heap.size ≤ D := by
  have k1 := alloc_blk_new w0 (.cells #[.slice none 0 0, .bool true] 84)
  have b1 := (Below.refl _ w0).alloc (Nat.le_refl _) (.cells #[.slice none 0 0, .bool true] 84)
  have hs := hb.size
  have HK := Lib.hid k1
  have HB := Lib.hid b1
  have HBB := Lib.hid hb
  clear k1 b1 hb
  go_enter Try.func22, Try.ntmps22
  go_wp2
  go_ret
  have hs1 := HB.out.size
  refine ⟨w0.heap.size, rfl, ⟨HBB.out.trans (HB.out.mono hs), hs, fun e => by omega, fun k e => by omega, ⟨none, 0, 0, ⟨cell_blk HK.out 0 _ rfl, frozen_blk HK.out 0, blk_lt HK.out, ⟨rfl, fun h => by omega⟩, fun _ => ⟨rfl, rfl⟩, by simp, by omega, by simp [maxLen]⟩⟩, cell_blk HK.out 1 _ rfl, Byt.nil, by simp⟩, HB.out, Nat.le_refl _⟩

set_option maxHeartbeats 1600000 in
set_option maxRecDepth 100000 in
/-- What Write has told laid behind the others. -/
theorem Write1_any (X base : Nat) (a p : Int) (v : Value) (xs : List Int) (w : World) (h : w.heap[X]? = some (.cells #[v] 85 (0, 0))) (hr : w.ownsRow base 3 1 v xs.length (xs.map (.int .i64))) (hv : ∀ k, v.ownBlock = some k → k ≠ X) (hb : base ≤ w.heap.size) (hl : xs.length ≤ 2000000) :
    Calls Try.prog 39 #[.int .i64 a, .int .i64 p, .pointer (some ⟨X, 0, none⟩)] w fun e w' => e = .returned (.bool true) ∧ ∃ v', w'.heap[X]? = some (.cells #[v'] 85 (0, 0)) ∧ w'.ownsRow base 3 1 v' (xs ++ [p]).length ((xs ++ [p]).map (.int .i64)) ∧
      (∀ k, v'.ownBlock = some k → k ≠ X ∧ (v.ownBlock = some k ∨ w.heap.size ≤ k)) ∧ Mod (fun k => k = X ∨ v.ownBlock = some k) w w' := by
  obtain ⟨i0, hi, hz0, hz1, hz2⟩ := info_parts Try.info3
  obtain ⟨so, sc, rfl⟩ := row_slice hr
  have c0 := cell_blk h 0 _ rfl
  have f0 := frozen_blk h 0
  have hX := blk_lt h
  have hb1 := (Below.refl _ w).alloc (Nat.le_refl _) (.cells #[.int .i64 p] 85)
  obtain ⟨w1, hw1⟩ : ∃ W, W = w.alloc (.cells #[.int .i64 p] 3) := ⟨_, rfl⟩
  have b1 : Below w.heap.size w w1 := by rw [hw1]; exact (Below.refl _ w).alloc (Nat.le_refl _) _
  have k1 : w1.heap[w.heap.size]? = some (.cells #[.int .i64 p] 3 (0, 0)) := by rw [hw1]; exact alloc_blk_new _ _
  have r1 := (Mod.of_below b1 (fun _ => False)).row hr (fun _ _ h => h)
  have HX1 := Lib.hid ((b1.block _ hX).trans h)
  have HR1 := Lib.hid r1
  have HB1 := Lib.hid b1
  have HN := Lib.hid (fun (ad : Addr) (e : some (⟨w.heap.size, 0, none⟩ : Addr) = some ad) j u (hj : [Value.int .i64 p][j]? = some u) => (show w1.cell? (ad.add j) = some u by
    cases e
    match j, hj with
    | 0, hj => cases hj; exact cell_blk k1 0 _ rfl))
  have E1 := Lib.hid hw1
  have HV := Lib.hid hv
  have s1 : w1.heap.size = w.heap.size + 1 := by rw [hw1]; simp
  clear h hr b1 k1 r1 hw1 hb1 hv
  go_enter Try.func39, Try.ntmps39
  go_wp2_with (at_builtin; rw [← E1.out]; refine wpList_append_f _ rfl (.tmp 6) (.tmp 8) 85 rfl base 3 i0 (.int .i64 0) 1 8 Try.underlying85 hi hz0 hz1 hz2 rfl (by decide) _ _ _ rfl HR1.out (some ⟨w.heap.size, 0, none⟩) 1 1 [.int .i64 p] rfl rfl (fun e => by cases e) HN.out (by simp [Value.oneCell']) ?c3 ?c4 (by omega) ?_)
  case c3 => unfold maxLen; omega
  case c4 => omega
  intro v' w2 hown hg hf _
  have hxb : w2.heap[X]? = some (.cells #[.slice so xs.length sc] 85 (0, 0)) := (hg.block X (blk_lt HX1.out) (fun e => HV.out X e.symm rfl)).trans HX1.out
  have HX2 := Lib.hid hxb
  have c2 := cell_blk hxb 0 _ rfl
  have f2 := frozen_blk hxb 0
  have hX2 := blk_lt hxb
  obtain ⟨so', sc', rfl⟩ := row_slice hown
  have hM2 : Mod (fun k => (Value.slice so xs.length sc).ownBlock = some k) w w2 := by
    have h1 : Mod (fun k => (Value.slice so xs.length sc).ownBlock = some k) w w1 := Mod.of_below HB1.out _
    exact h1.trans ((Mod.refl _ w1).grown hg (fun k e => .inl e)) (fun k _ e => e)
  have hS : Mod (fun k => k = X) w2 (w2.setCell ⟨X, 0, none⟩ (.slice so' (xs.length + 1) sc')) := (Mod.refl (fun k => k = X) w2).setCell ⟨X, 0, none⟩ (.inl rfl) _
  have hf2 : ∀ k, (Value.slice so' (xs.length + 1) sc').ownBlock = some k → k ≠ X ∧ ((Value.slice so xs.length sc).ownBlock = some k ∨ w.heap.size ≤ k) := fun k e => by
    rcases hf k e with h | h
    · exact ⟨HV.out k h, .inl h⟩
    · exact ⟨by omega, .inr (by omega)⟩
  have HF2 := Lib.hid hf2
  have HO := Lib.hid (hS.row hown (fun k e h => (hf2 k e).1 h))
  have HM := Lib.hid ((hM2.mono (T := fun k => k = X ∨ (Value.slice so xs.length sc).ownBlock = some k) (fun k _ e => .inr e)).trans hS (fun k _ e => .inl e))
  have HXX := Lib.hid (setCell_blk hxb 0 (.slice so' (xs.length + 1) sc'))
  clear hown hg hf hxb hM2 hS hf2 HR1 HX1 HB1 HN
  go_wp2
  go_ret
  refine ⟨rfl, _, HXX.out, ?_, HF2.out, HM.out⟩
  have := HO.out
  simpa using this
end Go.Proofs.Ytfkfooclapogjaa
