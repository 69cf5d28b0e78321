/-
  A call by both: Set, Reset.
-/
import Derived.Test.YtkoppmnofloefaaI
namespace Go.Proofs.Ytkoppmnofloefaa
open Go.RowKit
set_option linter.unusedVariables false
set_option linter.unusedSimpArgs false

set_option maxHeartbeats 3200000 in
set_option maxRecDepth 100000 in
theorem act_set (p : Nat) (L M J base d : Int) (k : Nat) (w : World) (h : Bo w p L M J base k) :
    Calls Try.prog 15 #[.pointer (some ⟨p, 0, none⟩), .agg #[.int .u64 L, .int .u64 M, .int .u64 J, .int .u64 base, .int .i64 k], .agg #[.int .i64 4, .int .u64 d]] w (Acted w p L M J (max L (min M d)) k) := by
  have HNum := Lib.hid num_any
  have h2 := h.lm
  have hpw := h.lt
  obtain ⟨s0, s1, s2, s3, s4⟩ := start_facts w L M J base 4 d k
  have HR := Lib.hid (refSet L M J base d k (start w L M J base 4 d k) h2)
  have HS := Lib.hid (And.intro s1 (And.intro s2 s3))
  have H0 := Lib.hid (h.below s3)
  have HZ := Lib.hid s4
  obtain ⟨x, hx⟩ : ∃ x, x = max L (min M d) := ⟨_, rfl⟩
  rw [← hx] at HR ⊢
  have HX := Lib.hid hx
  unfold start at HR
  clear h s0 s1 s2 s3 s4 hx
  go_enter Try.func15, Try.ntmps15
  go_wp2_with fail
  refine HR.out.mono ?_
  rintro e w1 ⟨rfl, hb⟩
  obtain ⟨i1, i2, i3⟩ := HS.out
  have sz := HZ.out
  have g1 := (hb.block _ (by show _ < (start w L M J base 4 d k).heap.size; omega)).trans i1
  have g2 := (hb.block _ (by show _ < (start w L M J base 4 d k).heap.size; omega)).trans i2
  have B1 := Lib.hid (i3.trans (hb.mono (show w.heap.size ≤ (start w L M J base 4 d k).heap.size by omega)))
  have R1 := Lib.hid (H0.out.below hb)
  have c0 : w1.cell? ⟨w.heap.size + 1, 1, none⟩ = some (.int .u64 d) := cell_blk g1 1 _ rfl
  have hlt : w.heap.size + 1 + 1 < w1.heap.size := blk_lt g2
  have hlt1 : w.heap.size + 1 < w1.heap.size := by omega
  have Z9 := Lib.hid (alloc_blk_new w1 (.cells #[.int .u64 L, .int .u64 M, .int .u64 J, .int .u64 x, .int .i64 k] 37))
  have Z7 := Lib.hid (alloc_blk g2 (.cells #[.int .u64 L, .int .u64 M, .int .u64 J, .int .u64 x, .int .i64 k] 37))
  have hbA := (Below.refl _ w1).alloc (Nat.le_refl _) (.cells #[.int .u64 L, .int .u64 M, .int .u64 J, .int .u64 x, .int .i64 k] 37)
  have R2 := Lib.hid (R1.out.below hbA)
  have B2 := Lib.hid (B1.out.trans (hbA.mono (by omega)))
  have hN := Set_bo p L M J base d k _ R2.out
  rw [← HX.out] at hN
  have HN := Lib.hid hN
  clear hb i1 i2 i3 sz g1 g2 HR HS H0 HZ hbA hN B1 R1
  go_wp2_with fail
  refine HN.out.mono ?_
  rintro e w2 ⟨rfl, hr, hm⟩
  have q9 := (hm.block _ (blk_lt Z9.out) (by show ¬ w1.heap.size = p; omega)).trans Z9.out
  have q7 := (hm.block _ (blk_lt Z7.out) (by show ¬ w.heap.size + 1 + 1 = p; omega)).trans Z7.out
  obtain ⟨k0, k1, k2, k3, k4, e0, e1, e2, e3, e4⟩ := five q7
  obtain ⟨l0, l1, l2, l3, l4, f0, f1, f2, f3, f4⟩ := five q9
  have hl7 := blk_lt q7
  have R3 := Lib.hid hr
  have M3 := Lib.hid ((Mod.of_below B2.out (fun q => q = p)).trans hm (fun _ _ e => e))
  clear hr hm q9 q7 HN Z9 Z7 c0
  have FIN := Lib.hid (laid5 R3.out M3.out (w.heap.size + 1 + 1) (by omega) (by omega))
  go_wp2_with fail
  go_region_with (go_at_call 11; refine (HNum.out _ _).mono ?_; rintro e w' ⟨rfl, rfl⟩)
  all_goals
    go_wp2
    refine bodyPost_ret (v := .tuple #[.pointer (some ⟨p, 0, none⟩), .agg #[.int .u64 L, .int .u64 M, .int .u64 J, .int .u64 x, .int .i64 k], .bool true]) (by simp [results, Try.results15, go_sem, *]) rfl ⟨p, rfl, ?_, ?_, .inl rfl⟩
    · exact (FIN.out _ _ _ _ _ 1).1
    · exact (FIN.out _ _ _ _ _ 1).2

set_option maxHeartbeats 3200000 in
set_option maxRecDepth 100000 in
theorem act_reset (p : Nat) (L M J base d : Int) (k : Nat) (w : World) (h : Bo w p L M J base k) :
    Calls Try.prog 15 #[.pointer (some ⟨p, 0, none⟩), .agg #[.int .u64 L, .int .u64 M, .int .u64 J, .int .u64 base, .int .i64 k], .agg #[.int .i64 5, .int .u64 d]] w (Acted w p L M J base 0) := by
  have HNum := Lib.hid num_any
  have hpw := h.lt
  obtain ⟨s0, s1, s2, s3, s4⟩ := start_facts w L M J base 5 d k
  have HR := Lib.hid (refReset L M J base k (start w L M J base 5 d k))
  have HS := Lib.hid (And.intro s2 s3)
  have H0 := Lib.hid (h.below s3)
  have HZ := Lib.hid s4
  have c0 : (start w L M J base 5 d k).cell? ⟨w.heap.size + 1, 0, none⟩ = some (.int .i64 5) := cell_blk s1 0 _ rfl
  unfold start at HR
  clear h s0 s1 s2 s3 s4 c0
  go_enter Try.func15, Try.ntmps15
  go_wp2_with fail
  refine HR.out.mono ?_
  rintro e w1 ⟨rfl, hb⟩
  obtain ⟨i2, i3⟩ := HS.out
  have sz := HZ.out
  have g2 := (hb.block _ (by show _ < (start w L M J base 5 d k).heap.size; omega)).trans i2
  have B1 := Lib.hid (i3.trans (hb.mono (show w.heap.size ≤ (start w L M J base 5 d k).heap.size by omega)))
  have R1 := Lib.hid (H0.out.below hb)
  have HN := Lib.hid (Reset_bo p L M J base k _ R1.out)
  have G2 := Lib.hid g2
  have hlt : w.heap.size + 1 + 1 < w1.heap.size := blk_lt g2
  clear hb i2 i3 sz g2 HR HS H0 HZ
  go_wp2_with fail
  refine HN.out.mono ?_
  rintro e w2 ⟨rfl, hr, hm⟩
  have q7 := (hm.block _ (blk_lt G2.out) (by show ¬ w.heap.size + 1 + 1 = p; omega)).trans G2.out
  obtain ⟨k0, k1, k2, k3, k4, e0, e1, e2, e3, e4⟩ := five q7
  have hl7 := blk_lt q7
  have R3 := Lib.hid hr
  have M3 := Lib.hid ((Mod.of_below B1.out (fun q => q = p)).trans hm (fun _ _ e => e))
  clear hr hm q7 HN G2 B1 R1
  have FIN := Lib.hid (laid5 R3.out M3.out (w.heap.size + 1 + 1) (by omega) (by omega))
  go_wp2_with (go_at_call 11; refine (HNum.out _ _).mono ?_; rintro e w' ⟨rfl, rfl⟩)
  refine bodyPost_ret (v := .tuple #[.pointer (some ⟨p, 0, none⟩), .agg #[.int .u64 L, .int .u64 M, .int .u64 J, .int .u64 base, .int .i64 0], .bool true]) (by simp [results, Try.results15, go_sem, *]) rfl ⟨p, rfl, ?_, ?_, .inl rfl⟩
  · exact (FIN.out _ _ _ _ _ 0).1
  · exact (FIN.out _ _ _ _ _ 0).2
end Go.Proofs.Ytkoppmnofloefaa
