/-
  A call by both: Peek, Copy.
-/
import Derived.Test.YtkoppmnofloefaaI
namespace Go.Proofs.Ytkoppmnofloefaa
open Go.RowKit
set_option linter.unusedVariables false
set_option linter.unusedSimpArgs false

set_option maxHeartbeats 800000 in
theorem Copy_bo (p : Nat) (L M J base : Int) (k : Nat) (w : World) (h : Bo w p L M J base k) :
    Calls Try.prog 18 #[.pointer (some ⟨p, 0, none⟩)] w fun e w' => e = .returned (.pointer (some ⟨w.heap.size, 0, none⟩)) ∧ Bo w' w.heap.size L M J base k ∧ Below w.heap.size w w' := by
  have HN := Lib.hid (none_of p L M J base k w h)
  have hpw := h.lt
  obtain ⟨c0, c1, c2, c3, c4, c5⟩ := h.c
  have H := Lib.hid h
  clear h
  go_enter Try.func18, Try.ntmps18
  go_wp2_with (go_at_call 26; refine HN.out.mono ?_; rintro e w' ⟨rfl, rfl⟩)
  go_ret
  exact ⟨rfl, ⟨alloc_blk_new _ _, H.out.l1, H.out.lm, H.out.m2, H.out.j0, H.out.j2, H.out.bl, H.out.bm, H.out.k2⟩, (Below.refl _ _).alloc (Nat.le_refl _) _⟩

theorem laid5x {w w2 : World} {S : Nat → Prop} {p : Nat} {L M J base : Int} {k : Nat} (R : Bo w2 p L M J base k) (h : Mod S w w2) (b : Nat) (hb : w.heap.size ≤ b) (hpb : p ≠ b) (a0 a1 a2 a3 a4 : Value) :
    Bo (((((w2.setCell ⟨b, 0, none⟩ a0).setCell ⟨b, 1, none⟩ a1).setCell ⟨b, 2, none⟩ a2).setCell ⟨b, 3, none⟩ a3).setCell ⟨b, 4, none⟩ a4) p L M J base k ∧
    Mod S w (((((w2.setCell ⟨b, 0, none⟩ a0).setCell ⟨b, 1, none⟩ a1).setCell ⟨b, 2, none⟩ a2).setCell ⟨b, 3, none⟩ a3).setCell ⟨b, 4, none⟩ a4) := by
  have m : Mod (fun q => q = b) w2 (((((w2.setCell ⟨b, 0, none⟩ a0).setCell ⟨b, 1, none⟩ a1).setCell ⟨b, 2, none⟩ a2).setCell ⟨b, 3, none⟩ a3).setCell ⟨b, 4, none⟩ a4) :=
    ((((Mod.refl (fun q => q = b) w2).setCell ⟨b, 0, none⟩ (.inl rfl) a0).setCell ⟨b, 1, none⟩ (.inl rfl) a1).setCell ⟨b, 2, none⟩ (.inl rfl) a2).setCell ⟨b, 3, none⟩ (.inl rfl) a3 |>.setCell ⟨b, 4, none⟩ (.inl rfl) a4
  exact ⟨R.mod m hpb, h.trans m (fun k hk e => by omega)⟩

set_option maxHeartbeats 3200000 in
set_option maxRecDepth 100000 in
theorem act_copy (p : Nat) (L M J base d what : Int) (k : Nat) (w : World) (h : Bo w p L M J base k) (hw : 6 ≤ what ∨ what < 0) :
    Calls Try.prog 15 #[.pointer (some ⟨p, 0, none⟩), .agg #[.int .u64 L, .int .u64 M, .int .u64 J, .int .u64 base, .int .i64 k], .agg #[.int .i64 what, .int .u64 d]] w (Acted w p L M J base k) := by
  have hpw := h.lt
  have t0 : (what == 0) = false := by simp; omega
  have t1 : (what == 1) = false := by simp; omega
  have t2 : (what == 2) = false := by simp; omega
  have t3 : (what == 3) = false := by simp; omega
  have t4 : (what == 4) = false := by simp; omega
  have t5 : (what == 5) = false := by simp; omega
  obtain ⟨s0, s1, s2, s3, s4⟩ := start_facts w L M J base what d k
  have HC := Lib.hid (fun (W : World) (hW : Bo W p L M J base k) => Copy_bo p L M J base k W hW)
  have H0 := Lib.hid (h.below s3)
  have HZ := Lib.hid (And.intro s0 (And.intro s2 (And.intro s3 s4)))
  clear h s0 s1 s2 s3 s4
  go_enter Try.func15, Try.ntmps15
  go_upto_region 17 with fail
  obtain ⟨W, hW⟩ : ∃ W, W = start w L M J base what d k := ⟨_, rfl⟩
  rw [← hW] at H0 HZ
  unfold start at hW
  rw [← hW]
  clear hW
  obtain ⟨s0, s2, s3, s4⟩ := HZ.out
  obtain ⟨l0, l1, l2, l3, l4, f0, f1, f2, f3, f4⟩ := five s0
  obtain ⟨k0, k1, k2, k3, k4, e0, e1, e2, e3, e4⟩ := five s2
  have hl0 := blk_lt s0
  have hl2 := blk_lt s2
  clear s0 s2 s3 s4
  go_region_with (go_at_call 18; refine (HC.out _ (by first | exact H0.out | exact H0.out.drewN 1)).mono ?_; rintro e w5 ⟨rfl, hr, hb⟩; have q0 := (hb.block (w.heap.size) hl0).trans HZ.out.1; have q2 := (hb.block (w.heap.size + 1 + 1) hl2).trans HZ.out.2.1; have g0 := five q0; have g2 := five q2; have HR := Lib.hid hr; have HB := Lib.hid hb; have HQ := Lib.hid q2; clear hr hb q0 q2; obtain ⟨l0, l1, l2, l3, l4, f0, f1, f2, f3, f4⟩ := g0; obtain ⟨k0, k1, k2, k3, k4, e0, e1, e2, e3, e4⟩ := g2)
  all_goals
    go_wp2
    have hs := HZ.out.2.2.2
    have bb := HB.out.mono (show w.heap.size ≤ W.drew.heap.size by show _ ≤ W.heap.size; omega)
    have bb2 : Below w.heap.size W _ := ⟨bb.os, bb.tape, bb.output, bb.size, bb.block⟩
    have FIN := laid5x HR.out (Mod.of_below (HZ.out.2.2.1.trans bb2) (fun q => q = p)) (w.heap.size + 1 + 1) (by omega) (by show W.heap.size ≠ _; omega)
    have FIN := Lib.hid FIN
    clear hs bb bb2
    refine bodyPost_ret (v := .tuple #[.pointer (some ⟨W.heap.size, 0, none⟩), .agg #[.int .u64 L, .int .u64 M, .int .u64 J, .int .u64 base, .int .i64 k], .bool true]) (by simp [results, Try.results15, go_sem, *]) rfl ⟨W.heap.size, rfl, ?_, ?_, .inr (by have := HZ.out.2.2.2; omega)⟩
    · exact (FIN.out _ _ _ _ _).1
    · exact (FIN.out _ _ _ _ _).2
end Go.Proofs.Ytkoppmnofloefaa
