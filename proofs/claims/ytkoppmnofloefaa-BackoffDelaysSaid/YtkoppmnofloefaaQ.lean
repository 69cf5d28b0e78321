/-
  A call by both: Peek.
-/
import Derived.Test.YtkoppmnofloefaaK
namespace Go.Proofs.Ytkoppmnofloefaa
open Go.RowKit
set_option linter.unusedVariables false
set_option linter.unusedSimpArgs false

set_option maxHeartbeats 6400000 in
set_option maxRecDepth 100000 in
theorem act_peek (p : Nat) (L M J base d : Int) (k : Nat) (w : World) (h : Bo w p L M J base k) (hd : 0 ≤ d) :
    Calls Try.prog 15 #[.pointer (some ⟨p, 0, none⟩), .agg #[.int .u64 L, .int .u64 M, .int .u64 J, .int .u64 base, .int .i64 k], .agg #[.int .i64 3, .int .u64 d]] w (Acted w p L M J base k) := by
  have hpw := h.lt
  have HNum := Lib.hid num_any
  have h1 := h.l1; have h2 := h.lm; have h3 := h.m2; have h4 := h.j0; have h5 := h.j2; have h6 := h.bl; have h7 := h.bm; have h8 := h.k2
  obtain ⟨s0, s1, s2, s3, s4⟩ := start_facts w L M J base 3 d k
  have hB := h.below s3
  have hP := Peek_bo p L M J base d k _ hB hd
  have hD := fun (W : World) => refDelay L M J base d k W (by omega) h7 h3 h4 h5 hd h8
  obtain ⟨dl, hdl⟩ : ∃ dl, dl = delayOf M J base k d := ⟨_, rfl⟩
  rw [← hdl] at hP hD
  have HD := Lib.hid hD
  have HP := Lib.hid hP
  have H0 := Lib.hid hB
  have HZ := Lib.hid (And.intro s0 (And.intro s1 (And.intro s2 (And.intro s3 s4))))
  unfold start at HP
  clear h s0 s1 s2 s3 s4 hB hP hD hdl h1 h2 h3 h4 h5 h6 h7 h8
  go_enter Try.func15, Try.ntmps15
  go_wp2_with fail
  refine HP.out.mono ?_
  rintro e W ⟨rfl, n, hn⟩
  have R1 : Hid (Bo W p L M J base k) := by rw [hn]; exact Lib.hid (H0.out.drewN n)
  have Z1 : Hid (W.heap[w.heap.size]? = some (.cells #[.int .u64 L, .int .u64 M, .int .u64 J, .int .u64 base, .int .i64 k] 37 (0, 0)) ∧
    W.heap[w.heap.size + 1]? = some (.cells #[.int .i64 3, .int .u64 d] 43 (0, 0)) ∧
    W.heap[w.heap.size + 1 + 1]? = some (.cells #[.int .u64 0, .int .u64 0, .int .u64 0, .int .u64 0, .int .i64 0] 37 (0, 0)) ∧
    Below w.heap.size w W ∧ W.heap.size = w.heap.size + 3) := by
      rw [hn]; exact Lib.hid ⟨HZ.out.1, HZ.out.2.1, HZ.out.2.2.1, Below.drN HZ.out.2.2.2.1 n, HZ.out.2.2.2.2⟩
  clear hn HP H0 HZ
  obtain ⟨s0, s1, s2, s3, s4⟩ := Z1.out
  obtain ⟨l0, l1, l2, l3, l4, f0, f1, f2, f3, f4⟩ := five s0
  obtain ⟨k0, k1, k2, k3, k4, e0, e1, e2, e3, e4⟩ := five s2
  have g0 : W.cell? ⟨w.heap.size + 1, 0, none⟩ = some (.int .i64 3) := cell_blk s1 0 _ rfl
  have g1 : W.cell? ⟨w.heap.size + 1, 1, none⟩ = some (.int .u64 d) := cell_blk s1 1 _ rfl
  have hl0 := blk_lt s0
  have hl1 := blk_lt s1
  have hl2 := blk_lt s2
  clear s0 s1 s2 s3 s4
  go_upto_region 10 with fail
  go_region_with (first | (go_at_call 11; refine (HNum.out _ _).mono ?_; rintro e w' ⟨rfl, rfl⟩) | (go_at_call 30; refine (HD.out _).mono ?_; rintro e w5 ⟨rfl, hb⟩; have q0 := (hb.block (w.heap.size) hl0).trans Z1.out.1; have q1 := (hb.block (w.heap.size + 1) hl1).trans Z1.out.2.1; have q2 := (hb.block (w.heap.size + 1 + 1) hl2).trans Z1.out.2.2.1; have r0 := five q0; have r2 := five q2; have g1' := cell_blk q1 1 _ rfl; have HR := Lib.hid (R1.out.mod (S := fun _ => False) ⟨hb.os, hb.tape, hb.output, hb.size, fun k hk _ => hb.block k hk⟩ (fun h => h)); have HB := Lib.hid hb; have hl := blk_lt q2; clear hb q0 q1 q2; obtain ⟨l0, l1, l2, l3, l4, f0, f1, f2, f3, f4⟩ := r0; obtain ⟨k0, k1, k2, k3, k4, e0, e1, e2, e3, e4⟩ := r2))
  all_goals
    go_wp2
    have hs := Z1.out.2.2.2.2
    have bb := HB.out.mono (show w.heap.size ≤ W.drew.heap.size by show _ ≤ W.heap.size; omega)
    have bb2 : Below w.heap.size W _ := ⟨bb.os, bb.tape, bb.output, bb.size, bb.block⟩
    have FIN := laid5x HR.out (Mod.of_below (Z1.out.2.2.2.1.trans bb2) (fun q => q = p)) (w.heap.size + 1 + 1) (by omega) (by omega)
    have FIN := Lib.hid FIN
    clear hs bb bb2
    refine bodyPost_ret (v := .tuple #[.pointer (some ⟨p, 0, none⟩), .agg #[.int .u64 L, .int .u64 M, .int .u64 J, .int .u64 base, .int .i64 k], .bool true]) (by simp [results, Try.results15, go_sem, *]) rfl ⟨p, rfl, ?_, ?_, .inl rfl⟩
    · exact (FIN.out _ _ _ _ _).1
    · exact (FIN.out _ _ _ _ _).2
end Go.Proofs.Ytkoppmnofloefaa
