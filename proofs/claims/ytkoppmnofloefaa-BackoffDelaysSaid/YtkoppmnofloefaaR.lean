/-
  A backoff beside the reference's: is.
-/
import Derived.Test.YtkoppmnofloefaaH
namespace Go.Proofs.Ytkoppmnofloefaa
open Go.RowKit
set_option linter.unusedVariables false
set_option linter.unusedSimpArgs false

set_option maxHeartbeats 6400000 in
set_option maxRecDepth 100000 in
theorem is_bo (p : Nat) (L M J base : Int) (k : Nat) (w : World) (h : Bo w p L M J base k) :
    Calls Try.prog 16 #[.pointer (some ⟨p, 0, none⟩), .agg #[.int .u64 L, .int .u64 M, .int .u64 J, .int .u64 base, .int .i64 k]] w fun e w' => e = .returned (.bool true) ∧ Below w.heap.size w w' := by
  have hpw := h.lt
  have HNum := Lib.hid num_any
  have h1 := h.l1; have h2 := h.lm; have h3 := h.m2; have h4 := h.j0; have h5 := h.j2; have h6 := h.bl; have h7 := h.bm; have h8 := h.k2
  have hbA := (Below.refl _ w).alloc (Nat.le_refl _) (.cells #[.int .u64 L, .int .u64 M, .int .u64 J, .int .u64 base, .int .i64 k] 37)
  have hB := h.below hbA
  have hP := Peek_bo p L M J base 0 k _ hB (by omega)
  have hD := fun (W : World) => refDelay L M J base 0 k W (by omega) h7 h3 h4 h5 (by omega) h8
  obtain ⟨dl, hdl⟩ : ∃ dl, dl = delayOf M J base k 0 := ⟨_, rfl⟩
  rw [← hdl] at hP hD
  have HD := Lib.hid hD
  have HP := Lib.hid hP
  have H0 := Lib.hid hB
  have HT := Lib.hid (fun (W : World) (hW : Bo W p L M J base k) => Tries_bo p L M J base k W hW)
  have HBa := Lib.hid (fun (W : World) (hW : Bo W p L M J base k) => Base_bo p L M J base k W hW)
  have HZ := Lib.hid (And.intro (alloc_blk_new w (.cells #[.int .u64 L, .int .u64 M, .int .u64 J, .int .u64 base, .int .i64 k] 37)) hbA)
  clear h hB hP hD hdl hbA h1 h2 h3 h4 h5 h6 h7 h8
  go_enter Try.func16, Try.ntmps16
  go_wp2_with fail
  refine HP.out.mono ?_
  rintro e W ⟨rfl, n, hn⟩
  have R1 : Hid (Bo W p L M J base k) := by rw [hn]; exact Lib.hid (H0.out.drewN n)
  have Z1 : Hid (W.heap[w.heap.size]? = some (.cells #[.int .u64 L, .int .u64 M, .int .u64 J, .int .u64 base, .int .i64 k] 37 (0, 0)) ∧ Below w.heap.size w W) := by
      rw [hn]; exact Lib.hid ⟨HZ.out.1, below_drewN HZ.out.2 n⟩
  clear hn HP H0 HZ
  obtain ⟨s0, s1⟩ := Z1.out
  obtain ⟨l0, l1, l2, l3, l4, f0, f1, f2, f3, f4⟩ := five s0
  have hl0 := blk_lt s0
  have RD := Lib.hid (R1.out.drewN 1)
  clear s0 s1
  go_upto_region 2 with fail
  go_region_with (first | (go_at_call 11; refine (HNum.out _ _).mono ?_; rintro e w' ⟨rfl, rfl⟩) | (go_at_call 23; refine (HT.out _ (by first | exact RD.out | assumption)).mono ?_; rintro e w' ⟨rfl, rfl⟩) | (go_at_call 24; refine (HBa.out _ (by first | exact RD.out | assumption)).mono ?_; rintro e w' ⟨rfl, rfl⟩) | (go_at_call 30; refine (HD.out _).mono ?_; rintro e w5 ⟨rfl, hb⟩; have q0 := (hb.block (w.heap.size) hl0).trans Z1.out.1; have r0 := five q0; have HR := R1.out.mod (S := fun _ => False) ⟨hb.os, hb.tape, hb.output, hb.size, fun k hk _ => hb.block k hk⟩ (fun h => h); have HB := Lib.hid hb; have hl := blk_lt q0; clear hb q0; obtain ⟨l0, l1, l2, l3, l4, f0, f1, f2, f3, f4⟩ := r0))
  all_goals
    go_wp2
    go_ret
    have hs := Z1.out.2.size
    have bb := HB.out.mono (show w.heap.size ≤ W.drew.heap.size by show _ ≤ W.heap.size; omega)
    have bb2 : Below w.heap.size W _ := ⟨bb.os, bb.tape, bb.output, bb.size, bb.block⟩
    exact ⟨rfl, Z1.out.2.trans bb2⟩
end Go.Proofs.Ytkoppmnofloefaa
