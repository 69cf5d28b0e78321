/-
  A call by both: Shut, Copy; whatever it be; is.
-/
import Derived.Test.YtagdenhcbafblaaL
namespace Go.Proofs.Ytagdenhcbafblaa
open Go.RowKit
set_option linter.unusedVariables false
set_option linter.unusedSimpArgs false

theorem Copy_wi (p : Nat) (l g : Int) (s : Bool) (w : World) (h : Wi w p l g s) :
    Calls Try.prog 20 #[.pointer (some ⟨p, 0, none⟩)] w fun e w' => ∃ p', e = .returned (.pointer (some ⟨p', 0, none⟩)) ∧ w.heap.size ≤ p' ∧ Wi w' p' l g s ∧ Below w.heap.size w w' := by
  have HN := Lib.hid (none_wi p l g s w h)
  have hpw := h.lt
  obtain ⟨c0, c1, c2, c3⟩ := h.c
  have H := Lib.hid h
  clear h
  go_enter Try.func20, Try.ntmps20
  go_wp2_with (go_at_call 24; refine HN.out.mono ?_; rintro e w' ⟨rfl, rfl⟩)
  go_ret
  exact ⟨w.heap.size, rfl, Nat.le_refl _, ⟨alloc_blk_new _ _, H.out.l0, H.out.l1, H.out.g0, H.out.g1⟩, (Below.refl _ _).alloc (Nat.le_refl _) _⟩

theorem At.put2 {w W : World} {p : Nat} {l0 g0 what m n l g : Int} {s0 s : Bool} (h : At w p l0 g0 s0 what m n l g s W) {q : Nat} {l' g' : Int} {s' : Bool} (hq : Wi W q l' g' s') (hne : q ≠ w.heap.size + 2) (a b c : Value) :
    Wi (((W.setCell ⟨w.heap.size + 2, 0, none⟩ a).setCell ⟨w.heap.size + 2, 1, none⟩ b).setCell ⟨w.heap.size + 2, 2, none⟩ c) q l' g' s' ∧
    Mod (fun q => q = p) w (((W.setCell ⟨w.heap.size + 2, 0, none⟩ a).setCell ⟨w.heap.size + 2, 1, none⟩ b).setCell ⟨w.heap.size + 2, 2, none⟩ c) := by
  have hp := h.hp
  have hm : Mod (fun q => q = w.heap.size + 2) W (((W.setCell ⟨w.heap.size + 2, 0, none⟩ a).setCell ⟨w.heap.size + 2, 1, none⟩ b).setCell ⟨w.heap.size + 2, 2, none⟩ c) :=
    (((Mod.refl (fun q => q = w.heap.size + 2) W).setCell ⟨w.heap.size + 2, 0, none⟩ (.inl rfl) a).setCell ⟨w.heap.size + 2, 1, none⟩ (.inl rfl) b).setCell ⟨w.heap.size + 2, 2, none⟩ (.inl rfl) c
  exact ⟨hq.mod hm hne, h.md.trans hm (fun k hk e => by omega)⟩

set_option maxHeartbeats 3200000 in
set_option maxRecDepth 100000 in
theorem act_shut (p : Nat) (l g m n : Int) (s : Bool) (w : World) (h : Wi w p l g s) :
    Calls Try.prog 15 #[.pointer (some ⟨p, 0, none⟩), .agg #[.int .u64 l, .int .u64 g, .bool s], .agg #[.int .i64 5, .int .i64 m, .int .u64 n]] w (Acted w p 0 g true) := by
  have A0 := Lib.hid (At.start w p l g 5 m n s h)
  have hpw := h.lt
  clear h
  go_enter Try.func15, Try.ntmps15
  go_upto_region 14 with fail
  obtain ⟨W0, hW0⟩ : ∃ W, W = (((w.alloc (.cells #[.int .u64 l, .int .u64 g, .bool s] 39)).alloc (.cells #[.int .i64 5, .int .i64 m, .int .u64 n] 43)).alloc (.cells #[.int .u64 0, .int .u64 0, .bool false] 39)) := ⟨_, rfl⟩
  rw [← hW0] at A0 ⊢
  clear hW0
  have hA0 : At w p l g s 5 m n l g s W0.drew := A0.out.drewN 1
  obtain ⟨a, b, c, ⟨x0, x1, x2⟩, ⟨y0, y1, y2⟩, ⟨z0, z1, z2⟩, ⟨f0, f1, f2⟩, l0, l1, l2⟩ := A0.out.unpack
  have HC := Lib.hid (refClose l g s)
  have HS := Lib.hid (fun (W : World) (hW : Wi W p l g s) => Shut_wi p l g s W hW)
  clear A0
  have far : ∀ (W : World) (i j : Nat) (v : Value), (W.setCell ⟨w.heap.size + 1 + 1, i, none⟩ v).cell? ⟨w.heap.size, j, none⟩ = W.cell? ⟨w.heap.size, j, none⟩ := fun W i j v => World.cell?_setCell_far _ _ _ _ (by show w.heap.size + 1 + 1 ≠ w.heap.size; omega)
  go_region_held3 (fun W => W.cell? ⟨w.heap.size, 0, none⟩ = some (.int .u64 l) ∧ W.cell? ⟨w.heap.size, 1, none⟩ = some (.int .u64 g) ∧ W.cell? ⟨w.heap.size, 2, none⟩ = some (.bool s)) (first | assumption | exact ⟨by assumption, by assumption, by assumption⟩ | (simp only [far]; exact ⟨by assumption, by assumption, by assumption⟩))
    (first
      | (go_at_call 34; refine (HC.out _).mono ?_; rintro e w5 ⟨rfl, hb5⟩; (first | have hA5 := (show At w p l g s 5 m n l g s _ from by assumption).bel hb5 | have hA5 := (show At w p l g s 5 m n 0 g true _ from by assumption).bel hb5); obtain ⟨a, b, c, ⟨x0, x1, x2⟩, ⟨y0, y1, y2⟩, ⟨z0, z1, z2⟩, ⟨f0, f1, f2⟩, l0, l1, l2⟩ := hA5.unpack; have hS5 := And.intro x0 (And.intro x1 x2))
      | (go_at_call 21; refine (HS.out _ (show At w p l g s 5 m n l g s _ from by assumption).wi).mono ?_; rintro e w6 ⟨rfl, hw6, hm6⟩; have hA6 := (show At w p l g s 5 m n l g s _ from by assumption).call hw6 hm6; obtain ⟨a, b, c, ⟨x0, x1, x2⟩, ⟨y0, y1, y2⟩, ⟨z0, z1, z2⟩, ⟨f0, f1, f2⟩, l0, l1, l2⟩ := hA6.unpack; have hS6 := And.intro x0 (And.intro x1 x2)))
  all_goals
    go_wp2
    have hF : ∃ W, At w p l g s 5 m n 0 g true W ∧ W = W := ⟨_, by assumption, rfl⟩
    refine bodyPost_ret (v := .tuple #[.pointer (some ⟨p, 0, none⟩), .agg #[.int .u64 0, .int .u64 g, .bool true], .bool true]) (by simp [results, Try.results15, go_sem, *]) rfl ⟨p, rfl, ?_, ?_, .inl rfl⟩
    · exact ((show At w p l g s 5 m n 0 g true _ from by assumption).put _ _ _ 0).1
    · exact ((show At w p l g s 5 m n 0 g true _ from by assumption).put _ _ _ 0).2

set_option maxHeartbeats 3200000 in
set_option maxRecDepth 100000 in
theorem act_copy (p : Nat) (l g what m n : Int) (s : Bool) (w : World) (h : Wi w p l g s) (hw : 6 ≤ what ∨ what < 0) :
    Calls Try.prog 15 #[.pointer (some ⟨p, 0, none⟩), .agg #[.int .u64 l, .int .u64 g, .bool s], .agg #[.int .i64 what, .int .i64 m, .int .u64 n]] w (Acted w p l g s) := by
  have A0 := Lib.hid (At.start w p l g what m n s h)
  have hpw := h.lt
  have t0 : (what == 0) = false := by simp; omega
  have t1 : (what == 1) = false := by simp; omega
  have t2 : (what == 2) = false := by simp; omega
  have t3 : (what == 3) = false := by simp; omega
  have t4 : (what == 4) = false := by simp; omega
  have t5 : (what == 5) = false := by simp; omega
  clear h hw
  go_enter Try.func15, Try.ntmps15
  go_upto_region 15 with fail
  obtain ⟨W0, hW0⟩ : ∃ W, W = (((w.alloc (.cells #[.int .u64 l, .int .u64 g, .bool s] 39)).alloc (.cells #[.int .i64 what, .int .i64 m, .int .u64 n] 43)).alloc (.cells #[.int .u64 0, .int .u64 0, .bool false] 39)) := ⟨_, rfl⟩
  rw [← hW0] at A0 ⊢
  clear hW0
  have hA0 : At w p l g s what m n l g s W0.drew := A0.out.drewN 1
  have hsz : w.heap.size + 2 < W0.drew.heap.size := hA0.lt
  obtain ⟨a, b, c, ⟨x0, x1, x2⟩, ⟨y0, y1, y2⟩, ⟨z0, z1, z2⟩, ⟨f0, f1, f2⟩, l0, l1, l2⟩ := A0.out.unpack
  have HC := Lib.hid (Copy_wi p l g s W0.drew hA0.wi)
  clear A0
  have far : ∀ (W : World) (i j : Nat) (v : Value), (W.setCell ⟨w.heap.size + 1 + 1, i, none⟩ v).cell? ⟨w.heap.size, j, none⟩ = W.cell? ⟨w.heap.size, j, none⟩ := fun W i j v => World.cell?_setCell_far _ _ _ _ (by show w.heap.size + 1 + 1 ≠ w.heap.size; omega)
  go_region_held3 (fun W => W.cell? ⟨w.heap.size, 0, none⟩ = some (.int .u64 l) ∧ W.cell? ⟨w.heap.size, 1, none⟩ = some (.int .u64 g) ∧ W.cell? ⟨w.heap.size, 2, none⟩ = some (.bool s)) (first | assumption | exact ⟨by assumption, by assumption, by assumption⟩ | (simp only [far]; exact ⟨by assumption, by assumption, by assumption⟩))
    ((go_at_call 20; refine HC.out.mono ?_; rintro e w5 ⟨p', rfl, hp5, hw5, hb5⟩; have hA5 := hA0.bel hb5; obtain ⟨a, b, c, ⟨x0, x1, x2⟩, ⟨y0, y1, y2⟩, ⟨z0, z1, z2⟩, ⟨f0, f1, f2⟩, l0, l1, l2⟩ := hA5.unpack; have hS5 := And.intro x0 (And.intro x1 x2)))
  all_goals
    go_wp2
    refine bodyPost_ret (v := .tuple #[.pointer (some ⟨p', 0, none⟩), .agg #[.int .u64 l, .int .u64 g, .bool s], .bool true]) (by simp [results, Try.results15, go_sem, *]) rfl ⟨p', rfl, ?_, ?_, .inr (by omega)⟩
    · exact (hA5.put2 hw5 (by omega) _ _ _).1
    · exact (hA5.put2 hw5 (by omega) _ _ _).2

theorem act_any (p : Nat) (l g what m n : Int) (s : Bool) (w : World) (h : Wi w p l g s) (hn : 0 ≤ n) (hm : m ≤ 9223372036854775807) :
    Calls Try.prog 15 #[.pointer (some ⟨p, 0, none⟩), .agg #[.int .u64 l, .int .u64 g, .bool s], .agg #[.int .i64 what, .int .i64 m, .int .u64 n]] w fun e w' => ∃ l' g' s', Acted w p l' g' s' e w' := by
  rcases (show (what = 0 ∨ what = 1) ∨ (what = 2 ∨ what = 3 ∨ what = 4) ∨ what = 5 ∨ (6 ≤ what ∨ what < 0) by omega) with c | c | rfl | c
  · exact (act_grant p l g what m n s w h c hn).mono fun e w' q => ⟨_, _, _, q⟩
  · by_cases h0 : 0 ≤ m
    · exact (act_take p l g what m n s w h c h0 hm).mono fun e w' q => ⟨_, _, _, q⟩
    · exact (act_takebad p l g what m n s w h c (by omega)).mono fun e w' q => ⟨_, _, _, q⟩
  · exact (act_shut p l g m n s w h).mono fun e w' q => ⟨_, _, _, q⟩
  · exact (act_copy p l g what m n s w h c).mono fun e w' q => ⟨_, _, _, q⟩

set_option maxHeartbeats 1600000 in
set_option maxRecDepth 100000 in
theorem is_wi (p : Nat) (l g : Int) (s : Bool) (w : World) (h : Wi w p l g s) :
    Calls Try.prog 16 #[.pointer (some ⟨p, 0, none⟩), .agg #[.int .u64 l, .int .u64 g, .bool s]] w fun e w' => e = .returned (.bool true) ∧ Below w.heap.size w w' := by
  have hbA := (Below.refl _ w).alloc (Nat.le_refl _) (.cells #[.int .u64 l, .int .u64 g, .bool s] 39)
  obtain ⟨W0, hW0⟩ : ∃ W, W = w.alloc (.cells #[.int .u64 l, .int .u64 g, .bool s] 39) := ⟨_, rfl⟩
  have hb := alloc_blk_new w (.cells #[.int .u64 l, .int .u64 g, .bool s] 39)
  rw [← hW0] at hbA hb
  obtain ⟨x0, x1, x2, _⟩ := three hb
  have R := Lib.hid ((h.below hbA).drewN 1)
  have HL := Lib.hid (Left_wi p l g s _ R.out)
  have HG := Lib.hid (Gone_wi p l g s _ R.out)
  have HO := Lib.hid (Open_wi p l g s _ R.out)
  have HB := Lib.hid hbA
  have HW := Lib.hid hW0
  clear h hb hbA hW0
  go_enter Try.func16, Try.ntmps16
  go_upto_region 1 with fail
  rw [← HW.out]
  go_region_held3 (fun W => W.cell? ⟨w.heap.size, 0, none⟩ = some (.int .u64 l) ∧ W.cell? ⟨w.heap.size, 1, none⟩ = some (.int .u64 g) ∧ W.cell? ⟨w.heap.size, 2, none⟩ = some (.bool s)) (first | assumption | go_keep)
    (first
      | (go_at_call 13; refine HL.out.mono ?_; rintro e w5 ⟨rfl, rfl⟩)
      | (go_at_call 12; refine HG.out.mono ?_; rintro e w5 ⟨rfl, rfl⟩)
      | (go_at_call 22; refine HO.out.mono ?_; rintro e w5 ⟨rfl, rfl⟩))
  all_goals
    go_wp2
    go_ret
    exact ⟨rfl, ⟨HB.out.os, HB.out.tape, HB.out.output, HB.out.size, HB.out.block⟩⟩
end Go.Proofs.Ytagdenhcbafblaa
