/-
  A call by both: Next.
-/
import Derived.Test.YtkoppmnofloefaaH
namespace Go.Proofs.Ytkoppmnofloefaa
open Go.RowKit
set_option linter.unusedVariables false
set_option linter.unusedSimpArgs false

/-- What a call leaves. -/
def Acted (w : World) (p : Nat) (L M J : Int) (base' : Int) (k' : Nat) (e : Ending) (w' : World) : Prop :=
  ∃ p', e = .returned (.tuple #[.pointer (some ⟨p', 0, none⟩), .agg #[.int .u64 L, .int .u64 M, .int .u64 J, .int .u64 base', .int .i64 k'], .bool true]) ∧
    Bo w' p' L M J base' k' ∧ Mod (fun q => q = p) w w' ∧ (p' = p ∨ w.heap.size ≤ p')

/-- Where act begins. -/
def start (w : World) (L M J base what d : Int) (k : Nat) : World :=
  ((w.alloc (.cells #[.int .u64 L, .int .u64 M, .int .u64 J, .int .u64 base, .int .i64 k] 37)).alloc (.cells #[.int .i64 what, .int .u64 d] 43)).alloc (.cells #[.int .u64 0, .int .u64 0, .int .u64 0, .int .u64 0, .int .i64 0] 37)
theorem start_facts (w : World) (L M J base what d : Int) (k : Nat) :
    (start w L M J base what d k).heap[w.heap.size]? = some (.cells #[.int .u64 L, .int .u64 M, .int .u64 J, .int .u64 base, .int .i64 k] 37 (0, 0)) ∧
    (start w L M J base what d k).heap[w.heap.size + 1]? = some (.cells #[.int .i64 what, .int .u64 d] 43 (0, 0)) ∧
    (start w L M J base what d k).heap[w.heap.size + 1 + 1]? = some (.cells #[.int .u64 0, .int .u64 0, .int .u64 0, .int .u64 0, .int .i64 0] 37 (0, 0)) ∧
    Below w.heap.size w (start w L M J base what d k) ∧ (start w L M J base what d k).heap.size = w.heap.size + 3 := by
  unfold start
  have e1 := alloc_blk_new w (.cells #[.int .u64 L, .int .u64 M, .int .u64 J, .int .u64 base, .int .i64 k] 37)
  have e2 := alloc_blk_new (w.alloc (.cells #[.int .u64 L, .int .u64 M, .int .u64 J, .int .u64 base, .int .i64 k] 37)) (.cells #[.int .i64 what, .int .u64 d] 43)
  have e3 := alloc_blk_new ((w.alloc (.cells #[.int .u64 L, .int .u64 M, .int .u64 J, .int .u64 base, .int .i64 k] 37)).alloc (.cells #[.int .i64 what, .int .u64 d] 43)) (.cells #[.int .u64 0, .int .u64 0, .int .u64 0, .int .u64 0, .int .i64 0] 37)
  simp only [World.size_alloc] at e2 e3
  exact ⟨alloc_blk (alloc_blk e1 _) _, alloc_blk e2 _, e3, (((Below.refl _ w).alloc (Nat.le_refl _) _).alloc (by simp) _).alloc (by simp; omega) _, by simp⟩

/-- The result's five cells are laid. -/
theorem laid5 {w w2 : World} {p : Nat} {L M J base : Int} {k : Nat} (R : Bo w2 p L M J base k) (h : Mod (fun q => q = p) w w2) (b : Nat) (hb : w.heap.size ≤ b) (hpb : p ≠ b) (a0 a1 a2 a3 a4 : Value) (n : Nat) :
    Bo ((((((w2.setCell ⟨b, 0, none⟩ a0).setCell ⟨b, 1, none⟩ a1).setCell ⟨b, 2, none⟩ a2).setCell ⟨b, 3, none⟩ a3).setCell ⟨b, 4, none⟩ a4).drewN n) p L M J base k ∧
    Mod (fun q => q = p) w ((((((w2.setCell ⟨b, 0, none⟩ a0).setCell ⟨b, 1, none⟩ a1).setCell ⟨b, 2, none⟩ a2).setCell ⟨b, 3, none⟩ a3).setCell ⟨b, 4, none⟩ a4).drewN n) := by
  have m : Mod (fun q => q = b) w2 ((((((w2.setCell ⟨b, 0, none⟩ a0).setCell ⟨b, 1, none⟩ a1).setCell ⟨b, 2, none⟩ a2).setCell ⟨b, 3, none⟩ a3).setCell ⟨b, 4, none⟩ a4).drewN n) :=
    (((((Mod.refl (fun q => q = b) w2).setCell ⟨b, 0, none⟩ (.inl rfl) a0).setCell ⟨b, 1, none⟩ (.inl rfl) a1).setCell ⟨b, 2, none⟩ (.inl rfl) a2).setCell ⟨b, 3, none⟩ (.inl rfl) a3 |>.setCell ⟨b, 4, none⟩ (.inl rfl) a4).drewN n
  exact ⟨R.mod m hpb, h.trans m (fun k hk e => by omega)⟩

set_option maxHeartbeats 3200000 in
set_option maxRecDepth 100000 in
theorem act_next (p : Nat) (L M J base d what : Int) (k : Nat) (w : World) (h : Bo w p L M J base k) (hd : 0 ≤ d) (hw : 0 ≤ what ∧ what ≤ 2) :
    Calls Try.prog 15 #[.pointer (some ⟨p, 0, none⟩), .agg #[.int .u64 L, .int .u64 M, .int .u64 J, .int .u64 base, .int .i64 k], .agg #[.int .i64 what, .int .u64 d]] w (Acted w p L M J base (min (k + 1) 64)) := by
  have HNum := Lib.hid num_any
  have h1 := h.l1; have h2 := h.lm; have h3 := h.m2; have h4 := h.j0; have h5 := h.j2; have h6 := h.bl; have h7 := h.bm; have h8 := h.k2
  have hpw := h.lt
  obtain ⟨s0, s1, s2, s3, s4⟩ := start_facts w L M J base what d k
  have HR := Lib.hid (refNext L M J base d k (start w L M J base what d k) (by omega) h7 h3 h4 h5 hd h8)
  have HS := Lib.hid (And.intro s1 (And.intro s2 s3))
  have H0 := Lib.hid (h.below s3)
  have HZ := Lib.hid s4
  obtain ⟨k', hk'⟩ : ∃ k' : Nat, k' = min (k + 1) 64 := ⟨_, rfl⟩
  obtain ⟨dl, hdl⟩ : ∃ dl, dl = delayOf M J base k d := ⟨_, rfl⟩
  rw [← hk', ← hdl] at HR
  rw [← hk']
  have HK := Lib.hid hk'
  have HD := Lib.hid hdl
  unfold start at HR
  clear h s0 s1 s2 s3 s4 hk' hdl
  rcases (show what = 0 ∨ what = 1 ∨ what = 2 by omega) with rfl | rfl | rfl
  · go_enter Try.func15, Try.ntmps15
    go_wp2_with fail
    refine HR.out.mono ?_
    rintro e w1 ⟨rfl, hb⟩
    obtain ⟨i1, i2, i3⟩ := HS.out
    have sz := HZ.out
    have g1 := (hb.block _ (by show _ < (start w L M J base 0 d k).heap.size; omega)).trans i1
    have g2 := (hb.block _ (by show _ < (start w L M J base 0 d k).heap.size; omega)).trans i2
    have B1 := Lib.hid (i3.trans (hb.mono (show w.heap.size ≤ (start w L M J base 0 d k).heap.size by omega)))
    have R1 := Lib.hid (H0.out.below hb)
    have c0 : w1.cell? ⟨w.heap.size + 1, 1, none⟩ = some (.int .u64 d) := cell_blk g1 1 _ rfl
    have hlt : w.heap.size + 1 + 1 < w1.heap.size := blk_lt g2
    have hlt1 : w.heap.size + 1 < w1.heap.size := by omega
    have G2 := Lib.hid g2
    have Z9 := Lib.hid (alloc_blk_new w1 (.cells #[.int .u64 L, .int .u64 M, .int .u64 J, .int .u64 base, .int .i64 k'] 37))
    have Z7 := Lib.hid (alloc_blk g2 (.cells #[.int .u64 L, .int .u64 M, .int .u64 J, .int .u64 base, .int .i64 k'] 37))
    have hbA := (Below.refl _ w1).alloc (Nat.le_refl _) (.cells #[.int .u64 L, .int .u64 M, .int .u64 J, .int .u64 base, .int .i64 k'] 37)
    have R2 := Lib.hid (R1.out.below hbA)
    have B2 := Lib.hid (B1.out.trans (hbA.mono (by omega)))
    have hN := Next_bo p L M J base d k _ R2.out hd
    rw [← HK.out, ← HD.out] at hN
    have HN := Lib.hid hN
    clear hb i1 i2 i3 sz g1 g2 HR HS H0 HZ hbA hN G2 B1 R1
    go_wp2_with fail
    refine HN.out.mono ?_
    rintro e w2 ⟨rfl, hr, hm⟩
    have q9 := (hm.block _ (blk_lt Z9.out) (by show ¬ w1.heap.size = p; omega)).trans Z9.out
    have q7 := (hm.block _ (blk_lt Z7.out) (by show ¬ w.heap.size + 1 + 1 = p; omega)).trans Z7.out
    obtain ⟨k0, k1, k2, k3, k4, e0, e1, e2, e3, e4⟩ := five q7
    obtain ⟨l0, l1, l2, l3, l4, f0, f1, f2, f3, f4⟩ := five q9
    have hl7 := blk_lt q7
    have Q7 := Lib.hid q7
    have R3 := Lib.hid hr
    have M3 := Lib.hid ((Mod.of_below B2.out (fun q => q = p)).trans hm (fun _ _ e => e))
    clear hr hm q9 q7 HN Z9 Z7 c0
    have FIN := Lib.hid (laid5 R3.out M3.out (w.heap.size + 1 + 1) (by omega) (by omega))
    go_wp2_with fail
    go_region_with (go_at_call 11; refine (HNum.out _ _).mono ?_; rintro e w' ⟨rfl, rfl⟩)
    all_goals
      go_wp2
      refine bodyPost_ret (v := .tuple #[.pointer (some ⟨p, 0, none⟩), .agg #[.int .u64 L, .int .u64 M, .int .u64 J, .int .u64 base, .int .i64 k'], .bool true]) (by simp [results, Try.results15, go_sem, *]) rfl ⟨p, rfl, ?_, ?_, .inl rfl⟩
      · exact (FIN.out _ _ _ _ _ 1).1
      · exact (FIN.out _ _ _ _ _ 1).2
  · go_enter Try.func15, Try.ntmps15
    go_wp2_with fail
    refine HR.out.mono ?_
    rintro e w1 ⟨rfl, hb⟩
    obtain ⟨i1, i2, i3⟩ := HS.out
    have sz := HZ.out
    have g1 := (hb.block _ (by show _ < (start w L M J base 1 d k).heap.size; omega)).trans i1
    have g2 := (hb.block _ (by show _ < (start w L M J base 1 d k).heap.size; omega)).trans i2
    have B1 := Lib.hid (i3.trans (hb.mono (show w.heap.size ≤ (start w L M J base 1 d k).heap.size by omega)))
    have R1 := Lib.hid (H0.out.below hb)
    have c0 : w1.cell? ⟨w.heap.size + 1, 1, none⟩ = some (.int .u64 d) := cell_blk g1 1 _ rfl
    have hlt : w.heap.size + 1 + 1 < w1.heap.size := blk_lt g2
    have hlt1 : w.heap.size + 1 < w1.heap.size := by omega
    have G2 := Lib.hid g2
    have Z9 := Lib.hid (alloc_blk_new w1 (.cells #[.int .u64 L, .int .u64 M, .int .u64 J, .int .u64 base, .int .i64 k'] 37))
    have Z7 := Lib.hid (alloc_blk g2 (.cells #[.int .u64 L, .int .u64 M, .int .u64 J, .int .u64 base, .int .i64 k'] 37))
    have hbA := (Below.refl _ w1).alloc (Nat.le_refl _) (.cells #[.int .u64 L, .int .u64 M, .int .u64 J, .int .u64 base, .int .i64 k'] 37)
    have R2 := Lib.hid (R1.out.below hbA)
    have B2 := Lib.hid (B1.out.trans (hbA.mono (by omega)))
    have hN := Next_bo p L M J base d k _ R2.out hd
    rw [← HK.out, ← HD.out] at hN
    have HN := Lib.hid hN
    clear hb i1 i2 i3 sz g1 g2 HR HS H0 HZ hbA hN G2 B1 R1
    go_wp2_with fail
    refine HN.out.mono ?_
    rintro e w2 ⟨rfl, hr, hm⟩
    have q9 := (hm.block _ (blk_lt Z9.out) (by show ¬ w1.heap.size = p; omega)).trans Z9.out
    have q7 := (hm.block _ (blk_lt Z7.out) (by show ¬ w.heap.size + 1 + 1 = p; omega)).trans Z7.out
    obtain ⟨k0, k1, k2, k3, k4, e0, e1, e2, e3, e4⟩ := five q7
    obtain ⟨l0, l1, l2, l3, l4, f0, f1, f2, f3, f4⟩ := five q9
    have hl7 := blk_lt q7
    have Q7 := Lib.hid q7
    have R3 := Lib.hid hr
    have M3 := Lib.hid ((Mod.of_below B2.out (fun q => q = p)).trans hm (fun _ _ e => e))
    clear hr hm q9 q7 HN Z9 Z7 c0
    have FIN := Lib.hid (laid5 R3.out M3.out (w.heap.size + 1 + 1) (by omega) (by omega))
    go_wp2_with fail
    go_region_with (go_at_call 11; refine (HNum.out _ _).mono ?_; rintro e w' ⟨rfl, rfl⟩)
    all_goals
      go_wp2
      refine bodyPost_ret (v := .tuple #[.pointer (some ⟨p, 0, none⟩), .agg #[.int .u64 L, .int .u64 M, .int .u64 J, .int .u64 base, .int .i64 k'], .bool true]) (by simp [results, Try.results15, go_sem, *]) rfl ⟨p, rfl, ?_, ?_, .inl rfl⟩
      · exact (FIN.out _ _ _ _ _ 1).1
      · exact (FIN.out _ _ _ _ _ 1).2
  · go_enter Try.func15, Try.ntmps15
    go_wp2_with fail
    refine HR.out.mono ?_
    rintro e w1 ⟨rfl, hb⟩
    obtain ⟨i1, i2, i3⟩ := HS.out
    have sz := HZ.out
    have g1 := (hb.block _ (by show _ < (start w L M J base 2 d k).heap.size; omega)).trans i1
    have g2 := (hb.block _ (by show _ < (start w L M J base 2 d k).heap.size; omega)).trans i2
    have B1 := Lib.hid (i3.trans (hb.mono (show w.heap.size ≤ (start w L M J base 2 d k).heap.size by omega)))
    have R1 := Lib.hid (H0.out.below hb)
    have c0 : w1.cell? ⟨w.heap.size + 1, 1, none⟩ = some (.int .u64 d) := cell_blk g1 1 _ rfl
    have hlt : w.heap.size + 1 + 1 < w1.heap.size := blk_lt g2
    have hlt1 : w.heap.size + 1 < w1.heap.size := by omega
    have G2 := Lib.hid g2
    have Z9 := Lib.hid (alloc_blk_new w1 (.cells #[.int .u64 L, .int .u64 M, .int .u64 J, .int .u64 base, .int .i64 k'] 37))
    have Z7 := Lib.hid (alloc_blk g2 (.cells #[.int .u64 L, .int .u64 M, .int .u64 J, .int .u64 base, .int .i64 k'] 37))
    have hbA := (Below.refl _ w1).alloc (Nat.le_refl _) (.cells #[.int .u64 L, .int .u64 M, .int .u64 J, .int .u64 base, .int .i64 k'] 37)
    have R2 := Lib.hid (R1.out.below hbA)
    have B2 := Lib.hid (B1.out.trans (hbA.mono (by omega)))
    have hN := Next_bo p L M J base d k _ R2.out hd
    rw [← HK.out, ← HD.out] at hN
    have HN := Lib.hid hN
    clear hb i1 i2 i3 sz g1 g2 HR HS H0 HZ hbA hN G2 B1 R1
    go_wp2_with fail
    refine HN.out.mono ?_
    rintro e w2 ⟨rfl, hr, hm⟩
    have q9 := (hm.block _ (blk_lt Z9.out) (by show ¬ w1.heap.size = p; omega)).trans Z9.out
    have q7 := (hm.block _ (blk_lt Z7.out) (by show ¬ w.heap.size + 1 + 1 = p; omega)).trans Z7.out
    obtain ⟨k0, k1, k2, k3, k4, e0, e1, e2, e3, e4⟩ := five q7
    obtain ⟨l0, l1, l2, l3, l4, f0, f1, f2, f3, f4⟩ := five q9
    have hl7 := blk_lt q7
    have Q7 := Lib.hid q7
    have R3 := Lib.hid hr
    have M3 := Lib.hid ((Mod.of_below B2.out (fun q => q = p)).trans hm (fun _ _ e => e))
    clear hr hm q9 q7 HN Z9 Z7 c0
    have FIN := Lib.hid (laid5 R3.out M3.out (w.heap.size + 1 + 1) (by omega) (by omega))
    go_wp2_with fail
    go_region_with (go_at_call 11; refine (HNum.out _ _).mono ?_; rintro e w' ⟨rfl, rfl⟩)
    all_goals
      go_wp2
      refine bodyPost_ret (v := .tuple #[.pointer (some ⟨p, 0, none⟩), .agg #[.int .u64 L, .int .u64 M, .int .u64 J, .int .u64 base, .int .i64 k'], .bool true]) (by simp [results, Try.results15, go_sem, *]) rfl ⟨p, rfl, ?_, ?_, .inl rfl⟩
      · exact (FIN.out _ _ _ _ _ 1).1
      · exact (FIN.out _ _ _ _ _ 1).2
end Go.Proofs.Ytkoppmnofloefaa
