/-
  Copy, All.
-/
import Derived.Test.YtneeagabmdpjgaaK
namespace Go.Proofs.Ytneeagabmdpjgaa
open Go.RowKit
set_option linter.unusedVariables false
set_option linter.unusedSimpArgs false

set_option maxHeartbeats 1600000 in
set_option maxRecDepth 100000 in
theorem Copy_any (base p g : Nat) (m : Int) (sv : Value) (vs bs : List Int) (w : World) (h : Qu w base p m sv g vs bs) :
    Calls Try.prog 48 #[.pointer (some ⟨p, 0, none⟩)] w fun e w' => ∃ q v, e = .returned (.pointer (some ⟨q, 0, none⟩)) ∧ Qu w' w.heap.size q m v 0 bs bs ∧ Below w.heap.size w w' := by
  have hl4 : vs.length ≤ 4194304 := by have := h.hl; have := h.hm1; omega
  have hbs := h.len
  have HN := Lib.hid (none_q p w h.at_.c3)
  have c0 := h.at_.c0
  have c1 := h.at_.c1
  have c2 := h.at_.c2
  have c3 := h.at_.c3
  have hpl := h.at_.lt
  obtain ⟨a0, cap0, rfl⟩ := row_slice h.at_.row
  have hb1 := (Below.refl _ w).alloc (Nat.le_refl _) (.cells #[.slice a0 vs.length cap0, .int .i64 g, .int .i64 m, .bool true] 93)
  have k1 := alloc_blk_new w (.cells #[.slice a0 vs.length cap0, .int .i64 g, .int .i64 m, .bool true] 93)
  have HW1 := Lib.hid (And.intro hb1 k1)
  obtain ⟨w1, hw1⟩ : ∃ W, W = w.alloc (.cells #[.slice a0 vs.length cap0, .int .i64 g, .int .i64 m, .bool true] 93) := ⟨_, rfl⟩
  have HE := Lib.hid hw1
  have h1 := h.below hb1
  rw [← hw1] at h1 hb1 k1
  obtain ⟨ao, hao, hA, hL⟩ := left_any base p g m _ vs w1 h1.at_ h.hg hl4
  have HL := Lib.hid hL
  have HB1 := Lib.hid hb1
  have HK1 := Lib.hid k1
  rw [hbs] at HL hA
  rw [h.hb] at hA
  have HC := Lib.hid (fun q => Clone_any _ ao bs.length bs.length bs (w1.drewN q) (hA.drewN q) (fun e => by have := hao e; omega) (by omega))
  have HH := Lib.hid h
  clear hL hA h1 h hb1 k1 hw1 HW1
  go_enter Try.func48, Try.ntmps48
  go_wp2_with (first | (go_at_call 52; refine HN.out.mono ?_; rintro e w' ⟨rfl, rfl⟩))
  rw [← HE.out]
  have hq1 : w.heap.size < w1.heap.size := blk_lt HK1.out
  refine HL.out.mono ?_
  rintro e w2 ⟨rfl, q2, rfl⟩
  go_wp2_with fail
  refine (HC.out q2).mono ?_
  rintro e w3 ⟨v, rfl, hr, hb, _⟩
  obtain ⟨a3, c3', rfl⟩ := row_slice hr
  have hb' : Below w1.heap.size w1 w3 := (Below.drewN' w1 q2).trans hb
  have k3 := (hb'.block _ hq1).trans HK1.out
  have l0 := cell_blk k3 0 _ rfl
  have l1 := cell_blk k3 1 _ rfl
  have f0 := frozen_blk k3 0
  have f1 := frozen_blk k3 1
  have hq3 := blk_lt k3
  have HR := Lib.hid hr
  have HB3 := Lib.hid (HB1.out.trans (hb'.mono HB1.out.size))
  have K4 := setCell_blk (setCell_blk k3 0 (.slice a3 bs.length c3')) 1 (.int .i64 0)
  have HK4 := Lib.hid K4
  clear K4 k3 hr hb hb'
  go_wp2_with fail
  go_ret
  refine ⟨w.heap.size, .slice a3 bs.length c3', rfl, ⟨⟨HK4.out, ?_, ?_, Nat.le_refl _⟩, by omega, rfl, by have := HH.out.fit; have := HH.out.hm0; omega, HH.out.hm0, HH.out.hm1, HH.out.fit⟩, ?_⟩
  · have hM : Mod (fun q => q = w.heap.size) w3 ((w3.setCell ⟨w.heap.size, 0, none⟩ (.slice a3 bs.length c3')).setCell ⟨w.heap.size, 1, none⟩ (.int .i64 0)) := ((Mod.refl (fun q => q = w.heap.size) w3).setCell ⟨w.heap.size, 0, none⟩ (.inl rfl) _).setCell ⟨w.heap.size, 1, none⟩ (.inl rfl) _
    exact Joins.ownsRow_le (hM.row HR.out (fun k hk e => by have h1 := (HR.out.lt k hk).1; have h2 : w1.heap.size ≤ k := h1; omega)) (by show w.heap.size ≤ w1.heap.size; omega)
  · intro k hk e
    have h1 := (HR.out.lt k hk).1
    have h2 : w1.heap.size ≤ k := h1
    omega
  · exact (HB3.out.setCell (p := ⟨w.heap.size, 0, none⟩) (Nat.le_refl _) _).setCell (p := ⟨w.heap.size, 1, none⟩) (Nat.le_refl _) _

theorem Copy_nil (w : World) : Calls Try.prog 48 #[.pointer none] w fun e w' => e = .returned (.pointer none) ∧ w = w' := by
  have HN := Lib.hid (none_nil w)
  go_enter Try.func48, Try.ntmps48
  go_wp2_with (first | (go_at_call 52; refine HN.out.mono ?_; rintro e w' ⟨rfl, rfl⟩))
  go_ret
  exact ⟨rfl, rfl⟩

end Go.Proofs.Ytneeagabmdpjgaa
