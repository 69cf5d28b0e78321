import Derived.Test.YthiajgkifoimcaaB
namespace Go.Proofs.Ythiajgkifoimcaa
open Go.RowKit
set_option linter.unusedVariables false
set_option linter.unusedSimpArgs false

/-- The loop's relation: so many values may still be put behind. -/
def Grow (base p : Nat) (F N m : Int) (sv : Value) (vs : List Int) (w : World) (i : Nat) (gk : Nat) (wr : World) : Prop :=
  ∃ sv1 n, RingAt wr base p F N m sv1 (growTo vs n) ∧ Step p sv sv1 w wr ∧ n ≤ i + 1 ∧ vs.length ≤ (growTo vs n).length ∧ gk = i + 1 - (growTo vs n).length

theorem Grow.more {base p : Nat} {F N m : Int} {sv : Value} {vs : List Int} {w wr : World} {i gk : Nat} {sv1 : Value} {n : Nat} (hr : RingAt wr base p F N m sv1 (growTo vs n)) (hs : Step p sv sv1 w wr)
    (hlt : (growTo vs n).length ≤ i) (hgk : gk = i + 1 - (growTo vs n).length) {x : Obj} {sv' : Value} {w1 : World}
    (hown : w1.ownsRow base 3 1 sv' ((growTo vs n).length + 1) ((growTo vs n).map (.int .i64) ++ [.int .i64 0])) (hg : (wr.alloc x).grownBy w1 sv1.ownBlock)
    (hf : ∀ k, sv'.ownBlock = some k → sv1.ownBlock = some k ∨ (wr.alloc x).heap.size ≤ k) : ∃ g', g' < gk ∧ Grow base p F N m sv vs w i g' (w1.setCell ⟨p, 2, none⟩ sv') := by
  obtain ⟨h1, h2⟩ := hr.pushed (w0 := wr.alloc x) (Mod.refl _ _ |>.alloc x) hown hg hf
  rw [growTo_snoc] at h1
  have hl := growTo_len vs n
  have hl2 := growTo_len vs (max vs.length n + 1)
  exact ⟨_, by omega, sv', max vs.length n + 1, h1, hs.trans h2, by omega, by omega, rfl⟩

theorem growTo_stop {vs : List Int} {n i : Nat} (hl : (growTo vs n).length = max vs.length n) (hn : n ≤ i + 1) (h : i < (growTo vs n).length) : growTo vs n = growTo vs (i + 1) := by
  by_cases hc : n ≤ vs.length
  · rw [growTo_le vs n hc, growTo_le vs (i + 1) (by omega)]
  · rw [show n = i + 1 by omega]

set_option maxHeartbeats 800000 in
set_option maxRecDepth 100000 in
theorem place_any (base p : Nat) (F N at' m : Int) (sv : Value) (vs : List Int) (w : World) (h : RingAt w base p F N m sv vs) (hb : base ≤ w.heap.size)
    (h1 : 1 ≤ m) (h2 : m ≤ 4096) (h3 : (vs.length : Int) ≤ 4096) (ha : 0 ≤ at') (ha2 : at' ≤ 18446744073709551615) (i : Nat) (him : at' % m = i) :
    Calls Try.prog 26 #[.pointer (some ⟨p, 0, none⟩), .int .u64 at'] w fun e w' => ∃ q cap, e = .returned (.pointer (some ⟨q, i, none⟩)) ∧
      RingAt w' base p F N m (.slice (some ⟨q, 0, none⟩) (growTo vs (i + 1)).length cap) (growTo vs (i + 1)) ∧
      Step p sv (.slice (some ⟨q, 0, none⟩) (growTo vs (i + 1)).length cap) w w' := by
  obtain ⟨i0, hi, hz0, hz1, hz2⟩ := info_parts Try.info3
  have hm0 := Int.emod_nonneg at' (show m ≠ 0 by omega)
  have hm1 := Int.emod_lt_of_pos at' (show 0 < m by omega)
  have hm2 : (i : Int) < 4096 := by omega
  have c3 := h.c3
  go_enter Try.func26, Try.ntmps26
  go_wp2
  clear c3 him hm0 hm1
  go_loopg [] (i + 1 - vs.length) (fun gk wr => Grow base p F N m sv vs w i gk wr)
  case atStart =>
    have := growTo_le vs 0 (by omega)
    exact ⟨sv, 0, by rw [this]; exact h, Step.refl _ _ _, by omega, by rw [this]; omega, by rw [this]⟩
  case round =>
    obtain ⟨sv1, n, hr, hs, hn, hle, hgk⟩ := hrel
    have hl := growTo_len vs n
    have hl3 : (growTo vs n).length ≤ 4097 := by omega
    have hb2 : base ≤ wr.heap.size := Nat.le_trans hb hs.mod.size
    have c2 := hr.c2
    have f2 := hr.fz 2
    have HM := Lib.hid (fun (x : Obj) (sv' : Value) (w1 : World) a b c => Grow.more (w := w) (i := i) (gk := gk) (x := x) (sv' := sv') (w1 := w1) hr hs a hgk b c)
    have HL := Lib.hid hl
    have HG := Lib.hid hgk
    clear hgk hl
    by_cases hlt : (growTo vs n).length ≤ i
    · obtain ⟨ao, cap, hv0⟩ := row_slice hr.row
      subst hv0
      go_wp2_with (at_builtin; refine wpList_append_f _ rfl (.tmp 25) (.tmp 26) 23 rfl base 3 i0 (.int .i64 0) 1 8 Try.underlying23 hi hz0 hz1 hz2 rfl (by decide) _ _ _ rfl (hr.row.alloc _) (some ⟨wr.heap.size, 0, none⟩) 1 1 [.int .i64 0] rfl rfl (fun h => by cases h) ?c1 ?c2 ?c3 ?c4 ?c5 ?_)
      case c1 => rintro ad h j u hj; cases h; exact cell_one_new _ _ _ j u hj
      case c2 => intro u hu; simp at hu; subst hu; rfl
      case c3 => unfold maxLen; omega
      case c4 => omega
      case c5 => simp; omega
      intro v' w1 hown hg hf _
      obtain ⟨q', cap', cur', hv, _⟩ := row_some hown (by omega)
      have HH := Lib.hid (HM.out _ v' w1 hlt hown hg (by simpa using hf))
      clear HM
      have hb1 : w1.heap[p]? = some (.cells #[.int .u64 F, .int .u64 N, .slice ao (growTo vs n).length cap, .int .i64 m] 58 (0, 0)) := by
        have hp := hr.lt
        rw [hg.block p (by simp; omega) (fun e => hr.ne p e.symm rfl), alloc_blk hr.blk]
      have k2 := cell_blk hb1 2 _ rfl
      have kf := frozen_blk hb1 2
      subst hv
      clear hb1 hown hg hf hs hr c2 f2
      go_wp2
      obtain ⟨g', hg', hG⟩ := HH.out
      go_roundg g'
      case measure => exact hg'
      case rel => exact hG
    · obtain ⟨q, cap, cur, hv, hbq, hgq, hnc, hcm, hcs, htk⟩ := row_some hr.row (by omega)
      subst hv
      clear f2 htk hcs hcm hgq
      go_wp2
      go_ret
      have e : growTo vs n = growTo vs (i + 1) := growTo_stop HL.out hn (by omega)
      rw [e] at hr hs
      exact ⟨q, cap, rfl, hr, hs⟩
end Go.Proofs.Ythiajgkifoimcaa
