/-
  The chapter's rows hold: works is true.
-/
import Derived.Test.YtkoppmnofloefaaD
namespace Go.Proofs.Ytkoppmnofloefaa
open Go.RowKit
set_option linter.unusedVariables false
set_option linter.unusedSimpArgs false

/-- One own block turned: old memory is as it was. -/
theorem Mod.bel {w0 w w' : World} {p : Nat} (h : Mod (fun q => q = p) w w') (hb : Below w0.heap.size w0 w) (hp : w0.heap.size ≤ p) : Below w0.heap.size w0 w' :=
  hb.trans ⟨h.os, h.tape, h.output, h.size, fun k hk => h.block k (Nat.lt_of_lt_of_le hk hb.size) (fun e => by omega)⟩
theorem Below.drN {B : Nat} {a w : World} (h : Below B a w) (n : Nat) : Below B a (w.drewN n) := ⟨h.os, h.tape, h.output, h.size, h.block⟩

set_option maxHeartbeats 3200000 in
set_option maxRecDepth 100000 in
theorem works_true (w : World) : Calls Try.prog 8 #[] w fun e w' => e = .returned (.bool true) ∧ Below w.heap.size w w' := by
  have HNum := Lib.hid num_any
  go_enter Try.func8, Try.ntmps8
  go_wp2_with fail
  refine (new_ok 2 9 0 w (by decide) (by omega)).mono ?_
  rintro e w0 ⟨p, hp, rfl, hr, hb⟩
  have hz0 := hb.size
  have R0 := Lib.hid hr
  have B0 := Lib.hid hb
  have hpw := hr.lt
  clear hr hb
  have R1 := Lib.hid (R0.out.below ((Below.refl _ w0).alloc (Nat.le_refl _) (.cells #[.int .u64 2, .int .u64 4, .int .u64 8, .int .u64 9] 22)))
  have B1 := Lib.hid (B0.out.alloc hz0 (.cells #[.int .u64 2, .int .u64 4, .int .u64 8, .int .u64 9] 22))
  have Q1 := Lib.hid (alloc_blk_new w0 (.cells #[.int .u64 2, .int .u64 4, .int .u64 8, .int .u64 9] 22))
  clear R0 B0
  go_wp2_with (go_at_call 9; fail)
  obtain ⟨w1, hw1⟩ : ∃ w1, w1 = w0.alloc (.cells #[.int .u64 2, .int .u64 4, .int .u64 8, .int .u64 9] 22) := ⟨_, rfl⟩
  obtain ⟨q, hq⟩ : ∃ q, q = w0.heap.size := ⟨_, rfl⟩
  rw [← hw1] at R1 B1 Q1 ⊢
  rw [← hq] at Q1 hpw hz0 ⊢
  clear hw1 hq
  refine wp_loop_rounds 5 ?_
  rw [rounds_succ]
  have hN := Next_bo p 2 9 0 2 5 0 w1 R1.out (by omega)
  rw [show delayOf 9 0 2 0 5 = 2 by decide, show min (0 + 1) 64 = 1 by decide] at hN
  have HN := Lib.hid hN
  clear hN
  go_wp2_with fail
  refine HN.out.mono ?_
  rintro e w2 ⟨rfl, hr, hm⟩
  have R2 := Lib.hid hr
  have B2 := Lib.hid (hm.bel B1.out hp)
  have Q2 := Lib.hid ((hm.block q (blk_lt Q1.out) (by omega)).trans Q1.out)
  have kq := cell_blk Q2.out 0 _ rfl
  clear hr hm R1 B1 Q1 HN
  go_wp2_with (go_at_call 11; refine (HNum.out _ _).mono ?_; rintro e w' ⟨rfl, rfl⟩)
  clear kq
  rw [rounds_succ]
  have hN := Next_bo p 2 9 0 2 5 1 w2 R2.out (by omega)
  rw [show delayOf 9 0 2 1 5 = 4 by decide, show min (1 + 1) 64 = 2 by decide] at hN
  have HN := Lib.hid hN
  clear hN
  go_wp2_with fail
  refine HN.out.mono ?_
  rintro e w3 ⟨rfl, hr, hm⟩
  have R3 := Lib.hid hr
  have B3 := Lib.hid (hm.bel B2.out hp)
  have Q3 := Lib.hid ((hm.block q (blk_lt Q2.out) (by omega)).trans Q2.out)
  have kq := cell_blk Q3.out 1 _ rfl
  clear hr hm R2 B2 Q2 HN
  go_wp2_with (go_at_call 11; refine (HNum.out _ _).mono ?_; rintro e w' ⟨rfl, rfl⟩)
  clear kq
  rw [rounds_succ]
  have hN := Next_bo p 2 9 0 2 5 2 w3 R3.out (by omega)
  rw [show delayOf 9 0 2 2 5 = 8 by decide, show min (2 + 1) 64 = 3 by decide] at hN
  have HN := Lib.hid hN
  clear hN
  go_wp2_with fail
  refine HN.out.mono ?_
  rintro e w4 ⟨rfl, hr, hm⟩
  have R4 := Lib.hid hr
  have B4 := Lib.hid (hm.bel B3.out hp)
  have Q4 := Lib.hid ((hm.block q (blk_lt Q3.out) (by omega)).trans Q3.out)
  have kq := cell_blk Q4.out 2 _ rfl
  clear hr hm R3 B3 Q3 HN
  go_wp2_with (go_at_call 11; refine (HNum.out _ _).mono ?_; rintro e w' ⟨rfl, rfl⟩)
  clear kq
  rw [rounds_succ]
  have hN := Next_bo p 2 9 0 2 5 3 w4 R4.out (by omega)
  rw [show delayOf 9 0 2 3 5 = 9 by decide, show min (3 + 1) 64 = 4 by decide] at hN
  have HN := Lib.hid hN
  clear hN
  go_wp2_with fail
  refine HN.out.mono ?_
  rintro e w5 ⟨rfl, hr, hm⟩
  have R5 := Lib.hid hr
  have B5 := Lib.hid (hm.bel B4.out hp)
  have Q5 := Lib.hid ((hm.block q (blk_lt Q4.out) (by omega)).trans Q4.out)
  have kq := cell_blk Q5.out 3 _ rfl
  clear hr hm R4 B4 Q4 HN
  go_wp2_with (go_at_call 11; refine (HNum.out _ _).mono ?_; rintro e w' ⟨rfl, rfl⟩)
  clear kq
  rw [rounds_succ]
  go_wp2_with fail
  refine (Tries_bo p 2 9 0 2 4 w5 R5.out).mono ?_
  rintro e w' ⟨rfl, rfl⟩
  have hN := Set_bo p 2 9 0 2 100 4 w5 R5.out
  rw [show max 2 (min 9 100) = (9 : Int) by decide] at hN
  have HN := Lib.hid hN
  clear hN
  go_wp2_with fail
  refine HN.out.mono ?_
  rintro e w6 ⟨rfl, hr, hm⟩
  have R6 := Lib.hid hr
  have B6 := Lib.hid (hm.bel B5.out hp)
  clear hr hm R5 B5 HN
  have hN := Set_bo p 2 9 0 9 0 4 w6 R6.out
  rw [show max 2 (min 9 0) = (2 : Int) by decide] at hN
  have HN := Lib.hid hN
  clear hN
  go_wp2_with fail
  refine HN.out.mono ?_
  rintro e w7 ⟨rfl, hr, hm⟩
  have R7 := Lib.hid hr
  have B7 := Lib.hid (hm.bel B6.out hp)
  clear hr hm R6 B6 HN
  have hN := Reset_bo p 2 9 0 2 4 w7 R7.out
  have HN := Lib.hid hN
  clear hN
  go_wp2_with fail
  refine HN.out.mono ?_
  rintro e w8 ⟨rfl, hr, hm⟩
  have R8 := Lib.hid hr
  have B8 := Lib.hid (hm.bel B7.out hp)
  clear hr hm R7 B7 HN
  have hN := Next_bo p 2 9 0 2 0 0 w8 R8.out (by omega)
  rw [show delayOf 9 0 2 0 0 = 2 by decide, show min (0 + 1) 64 = 1 by decide] at hN
  have HN := Lib.hid hN
  clear hN
  go_wp2_with fail
  refine HN.out.mono ?_
  rintro e w9 ⟨rfl, hr, hm⟩
  have R9 := Lib.hid hr
  have B9 := Lib.hid (hm.bel B8.out hp)
  clear hr hm R8 B8 HN
  go_wp2_with fail
  refine (new_ok 4 9 3 w9 (by decide) (by omega)).mono ?_
  rintro e w10 ⟨c, hc, rfl, hr, hb⟩
  have R10 := Lib.hid (R9.out.below hb)
  have B10 := Lib.hid (B9.out.trans (hb.mono B9.out.size))
  have C10 := Lib.hid hr
  have hpc : p < c := Nat.lt_of_lt_of_le R9.out.lt hc
  clear hr hb hc R9 B9
  have hN := Peek_bo c 4 9 3 4 7 0 w10 C10.out (by omega)
  rw [show delayOf 9 3 4 0 7 = 7 by decide] at hN
  have HN := Lib.hid hN
  clear hN
  go_wp2_with fail
  refine HN.out.mono ?_
  rintro e w11 ⟨rfl, m, hm⟩
  have R11 : Hid (Bo w11 p 2 9 0 2 1) := by rw [hm]; exact Lib.hid (R10.out.drewN m)
  have B11 : Hid (Below w.heap.size w w11) := by rw [hm]; exact Lib.hid (Below.drN B10.out m)
  have C11 : Hid (Bo w11 c 4 9 3 4 0) := by rw [hm]; exact Lib.hid (C10.out.drewN m)
  clear hm R10 B10 C10 HN
  have hN := Next_bo c 4 9 3 4 2 0 w11 C11.out (by omega)
  rw [show delayOf 9 3 4 0 2 = 6 by decide, show min (0 + 1) 64 = 1 by decide] at hN
  have HN := Lib.hid hN
  clear hN
  go_wp2_with fail
  refine HN.out.mono ?_
  rintro e w12 ⟨rfl, hr, hm⟩
  have C12 := Lib.hid hr
  have R12 := Lib.hid (R11.out.mod hm (by omega))
  have B12 := Lib.hid (hm.bel B11.out (by omega))
  clear hr hm R11 B11 C11 HN
  have hN := Next_bo c 4 9 3 4 2 1 w12 C12.out (by omega)
  rw [show delayOf 9 3 4 1 2 = 10 by decide, show min (1 + 1) 64 = 2 by decide] at hN
  have HN := Lib.hid hN
  clear hN
  go_wp2_with fail
  refine HN.out.mono ?_
  rintro e w13 ⟨rfl, hr, hm⟩
  have C13 := Lib.hid hr
  have R13 := Lib.hid (R12.out.mod hm (by omega))
  have B13 := Lib.hid (hm.bel B12.out (by omega))
  clear hr hm R12 B12 C12 HN
  go_wp2_with fail
  refine (new_bad 0 1 0 w13 (by decide)).mono ?_
  rintro e w14 ⟨rfl, hb⟩
  have R14 := Lib.hid (R13.out.below hb)
  have B14 := Lib.hid (B13.out.trans (hb.mono B13.out.size))
  have C14 := Lib.hid (C13.out.below hb)
  clear hb R13 B13 C13
  have HT := Lib.hid (Tries_bo p 2 9 0 2 1 w14 R14.out)
  have HC := Lib.hid (Base_bo c 4 9 3 4 2 w14 C14.out)
  go_wp2_with (first | (go_at_call 11; refine (HNum.out _ _).mono ?_; rintro e w' ⟨rfl, rfl⟩) | (go_at_call 23; refine HT.out.mono ?_; rintro e w' ⟨rfl, rfl⟩) | (go_at_call 24; refine HC.out.mono ?_; rintro e w' ⟨rfl, rfl⟩))
  go_ret
  exact ⟨rfl, B14.out⟩
/-- The law says yes, and keeps to new memory. -/
def Yes (w : World) (e : Ending) (w' : World) : Prop := e = .returned (.bool true) ∧ Below w.heap.size w w'

end Go.Proofs.Ytkoppmnofloefaa
