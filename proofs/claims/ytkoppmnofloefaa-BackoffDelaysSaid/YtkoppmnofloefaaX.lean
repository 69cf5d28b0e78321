/-
  BackoffCopies, walked: two that may be.
-/
import Derived.Test.YtkoppmnofloefaaW
import Derived.Deep.RegionHeld3
namespace Go.Proofs.Ytkoppmnofloefaa
open Go.RowKit
set_option linter.unusedVariables false
set_option linter.unusedSimpArgs false

attribute [local go_sem high] eql37

/-- What the last region finds. -/
structure Fin3 (w : World) (L M J L' M' J' : Int) (pb pc po r1 r2 r3 : Nat) (b1 : Int) (k1 : Nat) (b2 : Int) (k2 : Nat) (W : World) : Prop where
  b : Bo W pb L M J b1 k1
  c : Bo W pc L M J b2 k2
  o : Bo W po L' M' J' L' 0
  x : W.heap[r1]? = some (.cells #[.int .u64 L, .int .u64 M, .int .u64 J, .int .u64 b1, .int .i64 k1] 37 (0, 0))
  y : W.heap[r2]? = some (.cells #[.int .u64 L, .int .u64 M, .int .u64 J, .int .u64 b2, .int .i64 k2] 37 (0, 0))
  z : W.heap[r3]? = some (.cells #[.int .u64 L', .int .u64 M', .int .u64 J', .int .u64 L', .int .i64 0] 37 (0, 0))
  below : Below w.heap.size w W
theorem Fin3.bel {w : World} {L M J L' M' J' : Int} {pb pc po r1 r2 r3 : Nat} {b1 : Int} {k1 : Nat} {b2 : Int} {k2 : Nat} {W W' : World} (h : Fin3 w L M J L' M' J' pb pc po r1 r2 r3 b1 k1 b2 k2 W) (hb : Below W.heap.size W W') : Fin3 w L M J L' M' J' pb pc po r1 r2 r3 b1 k1 b2 k2 W' :=
  ⟨h.b.below hb, h.c.below hb, h.o.below hb, (hb.block _ (blk_lt h.x)).trans h.x, (hb.block _ (blk_lt h.y)).trans h.y, (hb.block _ (blk_lt h.z)).trans h.z, h.below.trans (hb.mono h.below.size)⟩
theorem Fin3.drewN {w : World} {L M J L' M' J' : Int} {pb pc po r1 r2 r3 : Nat} {b1 : Int} {k1 : Nat} {b2 : Int} {k2 : Nat} {W : World} (h : Fin3 w L M J L' M' J' pb pc po r1 r2 r3 b1 k1 b2 k2 W) (n : Nat) : Fin3 w L M J L' M' J' pb pc po r1 r2 r3 b1 k1 b2 k2 (W.drewN n) :=
  ⟨h.b.drewN n, h.c.drewN n, h.o.drewN n, h.x, h.y, h.z, below_drewN h.below n⟩
def Sees (w : World) (L M J L' M' J' : Int) (pb pc po r1 r2 r3 : Nat) (b1 : Int) (k1 : Nat) (b2 : Int) (k2 : Nat) (W : World) : Prop :=
  ((W.cell? ⟨r1, 0, none⟩ = some (.int .u64 L) ∧ W.cell? ⟨r1, 1, none⟩ = some (.int .u64 M) ∧ W.cell? ⟨r1, 2, none⟩ = some (.int .u64 J) ∧ W.cell? ⟨r1, 3, none⟩ = some (.int .u64 b1) ∧ W.cell? ⟨r1, 4, none⟩ = some (.int .i64 k1)) ∧ (W.cell? ⟨r2, 0, none⟩ = some (.int .u64 L) ∧ W.cell? ⟨r2, 1, none⟩ = some (.int .u64 M) ∧ W.cell? ⟨r2, 2, none⟩ = some (.int .u64 J) ∧ W.cell? ⟨r2, 3, none⟩ = some (.int .u64 b2) ∧ W.cell? ⟨r2, 4, none⟩ = some (.int .i64 k2)) ∧ (W.cell? ⟨r3, 0, none⟩ = some (.int .u64 L') ∧ W.cell? ⟨r3, 1, none⟩ = some (.int .u64 M') ∧ W.cell? ⟨r3, 2, none⟩ = some (.int .u64 J') ∧ W.cell? ⟨r3, 3, none⟩ = some (.int .u64 L') ∧ W.cell? ⟨r3, 4, none⟩ = some (.int .i64 0)) ∧ Fin3 w L M J L' M' J' pb pc po r1 r2 r3 b1 k1 b2 k2 W)
theorem Sees.of {w : World} {L M J L' M' J' : Int} {pb pc po r1 r2 r3 : Nat} {b1 : Int} {k1 : Nat} {b2 : Int} {k2 : Nat} {W : World} (h : Fin3 w L M J L' M' J' pb pc po r1 r2 r3 b1 k1 b2 k2 W) : Sees w L M J L' M' J' pb pc po r1 r2 r3 b1 k1 b2 k2 W := by
  obtain ⟨l0, l1, l2, l3, l4, f0, f1, f2, f3, f4⟩ := five h.x
  obtain ⟨m0, m1, m2, m3, m4, n0, n1, n2, n3, n4⟩ := five h.y
  obtain ⟨o0, o1, o2, o3, o4, q0, q1, q2, q3, q4⟩ := five h.z
  exact ⟨⟨l0, l1, l2, l3, l4⟩, ⟨m0, m1, m2, m3, m4⟩, ⟨o0, o1, o2, o3, o4⟩, h⟩
theorem Sees.fin {w : World} {L M J L' M' J' : Int} {pb pc po r1 r2 r3 : Nat} {b1 : Int} {k1 : Nat} {b2 : Int} {k2 : Nat} {W : World} (h : Sees w L M J L' M' J' pb pc po r1 r2 r3 b1 k1 b2 k2 W) : Fin3 w L M J L' M' J' pb pc po r1 r2 r3 b1 k1 b2 k2 W := h.2.2.2
/-- Which backoff a pointer is. -/
def Which (w : World) (L M J L' M' J' : Int) (pb pc po r1 r2 r3 : Nat) (b1 : Int) (k1 : Nat) (b2 : Int) (k2 : Nat) (p : Nat) (a b c d : Int) (k : Nat) : Prop :=
  (p = pb ∧ a = L ∧ b = M ∧ c = J ∧ d = b1 ∧ k = k1) ∨ (p = pc ∧ a = L ∧ b = M ∧ c = J ∧ d = b2 ∧ k = k2) ∨ (p = po ∧ a = L' ∧ b = M' ∧ c = J' ∧ d = L' ∧ k = 0)
theorem Which.bo {w : World} {L M J L' M' J' : Int} {pb pc po r1 r2 r3 : Nat} {b1 : Int} {k1 : Nat} {b2 : Int} {k2 : Nat} {p : Nat} {a b c d : Int} {k : Nat} {W : World} (h : Which w L M J L' M' J' pb pc po r1 r2 r3 b1 k1 b2 k2 p a b c d k) (hF : Fin3 w L M J L' M' J' pb pc po r1 r2 r3 b1 k1 b2 k2 W) : Bo W p a b c d k := by
  rcases h with ⟨rfl, rfl, rfl, rfl, rfl, rfl⟩ | ⟨rfl, rfl, rfl, rfl, rfl, rfl⟩ | ⟨rfl, rfl, rfl, rfl, rfl, rfl⟩
  · exact hF.b
  · exact hF.c
  · exact hF.o
theorem is_sees (w : World) (L M J L' M' J' : Int) (pb pc po r1 r2 r3 : Nat) (b1 : Int) (k1 : Nat) (b2 : Int) (k2 : Nat) (p : Nat) (a b c d : Int) (k : Nat) (W : World) (hS : Sees w L M J L' M' J' pb pc po r1 r2 r3 b1 k1 b2 k2 W) (hp : Which w L M J L' M' J' pb pc po r1 r2 r3 b1 k1 b2 k2 p a b c d k) :
    Calls Try.prog 16 #[.pointer (some ⟨p, 0, none⟩), .agg #[.int .u64 a, .int .u64 b, .int .u64 c, .int .u64 d, .int .i64 k]] W fun e W' => e = .returned (.bool true) ∧ Sees w L M J L' M' J' pb pc po r1 r2 r3 b1 k1 b2 k2 W' :=
  (is_bo p a b c d k W (hp.bo hS.fin)).mono fun e W' q => ⟨q.1, Sees.of (hS.fin.bel q.2)⟩
theorem same_sees (w : World) (L M J L' M' J' : Int) (pb pc po r1 r2 r3 : Nat) (b1 : Int) (k1 : Nat) (b2 : Int) (k2 : Nat) (p q : Nat) (a b c d : Int) (k : Nat) (a' b' c' d' : Int) (k' : Nat) (W : World) (hS : Sees w L M J L' M' J' pb pc po r1 r2 r3 b1 k1 b2 k2 W) (hp : Which w L M J L' M' J' pb pc po r1 r2 r3 b1 k1 b2 k2 p a b c d k) (hq : Which w L M J L' M' J' pb pc po r1 r2 r3 b1 k1 b2 k2 q a' b' c' d' k') :
    Calls Try.prog 19 #[.pointer (some ⟨p, 0, none⟩), .pointer (some ⟨q, 0, none⟩)] W fun e W' => e = .returned (.bool (eq5 a b c d k a' b' c' d' k')) ∧ Sees w L M J L' M' J' pb pc po r1 r2 r3 b1 k1 b2 k2 W' :=
  (Same_bo p q a b c d a' b' c' d' k k' W (hp.bo hS.fin) (hq.bo hS.fin)).mono fun e W' h => ⟨h.1, by obtain ⟨n, rfl⟩ := h.2; exact Sees.of (hS.fin.drewN n)⟩
theorem works_sees (w : World) (L M J L' M' J' : Int) (pb pc po r1 r2 r3 : Nat) (b1 : Int) (k1 : Nat) (b2 : Int) (k2 : Nat) (W : World) (hS : Sees w L M J L' M' J' pb pc po r1 r2 r3 b1 k1 b2 k2 W) :
    Calls Try.prog 8 #[] W fun e W' => e = .returned (.bool true) ∧ Sees w L M J L' M' J' pb pc po r1 r2 r3 b1 k1 b2 k2 W' :=
  (works_true W).mono fun e W' q => ⟨q.1, Sees.of (hS.fin.bel q.2)⟩

set_option maxHeartbeats 6400000 in
set_option maxRecDepth 100000 in
theorem copies_in (L M J L' M' J' s0 d0 s1 d1 : Int) (ao : Option Addr) (n cap : Nat) (zs : List (Int × Int)) (w : World) (hn : n ≤ 80) (ho : okW L M J = true) (ho' : okW L' M' J' = true) (hJ : 0 ≤ J) (hJ' : 0 ≤ J') (hd0 : 0 ≤ d0) (hd1 : 0 ≤ d1) (ha : Acts w ao n zs) :
    Calls Try.prog 5 (args L M J L' M' J' s0 d0 s1 d1 ao n cap) w (Yes w) := by
  unfold args
  have HNum := Lib.hid num_any
  have HW := Lib.hid works_true
  have HR1 := Lib.hid (refRight L M J)
  have HR2 := Lib.hid (refRight L' M' J')
  have HAr := Lib.hid (Arg.start w L M J L' M' J' s0 d0 s1 d1)
  have t1 : decide (80 < n) = false := by simp; omega
  have t2 : decide ((80 : Int) < n) = false := by simp; omega
  have HA := Lib.hid ha
  clear ha
  go_enter Try.func5, Try.ntmps5
  go_wp2_with fail
  refine (HR1.out _).mono ?_
  rintro e w1 ⟨rfl, hb⟩
  have A1 := Lib.hid (HAr.out.bel hb)
  obtain ⟨c0, c1, c2, c3, c4, c5, c6, c7, c8, c9⟩ := A1.out.cells
  clear hb HAr
  rw [ho]
  go_wp2_with fail
  refine (HR2.out _).mono ?_
  rintro e w2 ⟨rfl, hb⟩
  have A2 := Lib.hid (A1.out.bel hb)
  clear hb A1 c0 c1 c2 c3 c4 c5 c6 c7 c8 c9 HR1 HR2
  obtain ⟨c0, c1, c2, c3, c4, c5, c6, c7, c8, c9⟩ := A2.out.cells
  have HN := Lib.hid (new_ok L M J w2 ho hJ)
  rw [ho']
  go_wp2_with fail
  refine HN.out.mono ?_
  rintro e w3 ⟨p, hp, rfl, hr, hb⟩
  have hpw : w.heap.size + 3 ≤ p := by have := A2.out.lt; omega
  have R3 := Lib.hid hr
  have A3 := Lib.hid (A2.out.bel hb)
  clear hr hb hp A2 HN c0 c1 c2 c3 c4 c5 c6 c7 c8 c9
  obtain ⟨c0, c1, c2, c3, c4, c5, c6, c7, c8, c9⟩ := A3.out.cells
  have HR := Lib.hid (refNew L M J w3 ho)
  go_wp2_with fail
  refine HR.out.mono ?_
  rintro e w4 ⟨rfl, hb⟩
  have hbA := (Below.refl _ w4).alloc (Nat.le_refl _) (.cells #[.int .u64 L, .int .u64 M, .int .u64 J, .int .u64 L, .int .i64 0] 37)
  have A4 := Lib.hid ((A3.out.bel hb).bel hbA)
  have R4 := Lib.hid ((R3.out.below hb).below hbA)
  have K4 := Lib.hid (alloc_blk_new w4 (.cells #[.int .u64 L, .int .u64 M, .int .u64 J, .int .u64 L, .int .i64 0] 37))
  have hpb : p < w4.heap.size := Nat.lt_of_lt_of_le R3.out.lt hb.size
  obtain ⟨q, hq⟩ : ∃ q, q = w4.heap.size := ⟨_, rfl⟩
  have HQ := Lib.hid hq
  clear hb hbA HR A3 R3 c0 c1 c2 c3 c4 c5 c6 c7 c8 c9 hq
  go_wp2_with fail
  rw [← HQ.out] at K4 hpb ⊢
  go_loopg [9, 13] n (fun gk v9 v13 wr => ∃ i : Nat, ∃ pi : Nat, ∃ base : Int, ∃ k : Nat, v9 = .pointer (some ⟨pi, 0, none⟩) ∧ v13 = .int .i64 i ∧ i ≤ n ∧ gk = n - i ∧ w.heap.size + 3 ≤ pi ∧ pi ≠ q ∧ w.heap.size + 3 ≤ q ∧ Bo wr pi L M J base k ∧ Arg w L M J L' M' J' s0 d0 s1 d1 wr ∧ wr.heap[q]? = some (.cells #[.int .u64 L, .int .u64 M, .int .u64 J, .int .u64 base, .int .i64 k] 37 (0, 0)))
  case atStart => exact ⟨0, p, L, 0, rfl, rfl, by omega, rfl, by omega, by omega, by omega, R4.out, A4.out, K4.out⟩
  case round =>
    obtain ⟨i, pi, base, k, rfl, rfl, hin, hgk, g1, g2, g3, hr, hA, hK⟩ := hrel
    have HG := Lib.hid hgk
    have R := Lib.hid hr
    have A := Lib.hid hA
    have K := Lib.hid hK
    clear hgk hr hA hK A4 R4 K4
    by_cases hlt : i < n
    · obtain ⟨b, off, rfl, hbw, hcz⟩ := HA.out.2 (by omega)
      obtain ⟨what, hwhat⟩ : ∃ x, x = (zs.getD i (0, 0)).1 := ⟨_, rfl⟩
      obtain ⟨d, hd⟩ : ∃ x, x = (zs.getD i (0, 0)).2 := ⟨_, rfl⟩
      obtain ⟨z1, z2, z3⟩ := hcz i hlt
      rw [← hwhat] at z1
      rw [← hd] at z2 z3
      have y1 := (A.out.below.cell (p := ⟨b, off + i * 2, none⟩) hbw).trans z1
      have y2 := (A.out.below.cell (p := ⟨b, off + i * 2 + 1, none⟩) hbw).trans z2
      obtain ⟨l0, l1, l2, l3, l4, f0, f1, f2, f3, f4⟩ := five K.out
      have hlq := blk_lt K.out
      have hsz := A.out.lt
      have hpi := R.out.lt
      have hbr : b < wr.heap.size := by omega
      have HAct := Lib.hid (act_any pi L M J base d what k wr.drew (R.out.drewN 1) z3)
      clear hcz z1 z2 z3 hwhat hd
      go_upto_region 8 with fail
      go_region_with (go_at_call 15; refine HAct.out.mono ?_; rintro e w5 ⟨b', k', p', rfl, hr5, hm5, hp5⟩; have tt := (hm5.block q hlq (by show ¬ q = pi; omega)).trans K.out; obtain ⟨m0, m1, m2, m3, m4, n0, n1, n2, n3, n4⟩ := five tt; have TT := Lib.hid tt; have R5 := Lib.hid hr5; have M5 := Lib.hid hm5; have P5 := Lib.hid hp5; clear hr5 hm5 hp5 tt)
      all_goals
        go_wp2_with fail
        obtain ⟨s1, s2⟩ := set5 TT.out (.int .u64 L) (.int .u64 M) (.int .u64 J) (.int .u64 b') (.int .i64 k')
        have P6 : p' = pi ∨ wr.heap.size ≤ p' := P5.out
        have hA5 := A.out.mod (S := fun q => q = pi) (W' := w5) ⟨M5.out.os, M5.out.tape, M5.out.output, M5.out.size, fun k hk hn => M5.out.block k hk hn⟩ (fun k hk e => by omega)
        go_roundg (n - (i + 1))
        case measure => have := HG.out; omega
        case rel => exact ⟨i + 1, p', b', k', rfl, by go_num, by omega, rfl, by omega, by omega, g3, R5.out.mod s2 (by show ¬ p' = q; omega), hA5.mod s2 (fun k hk e => by omega), s1⟩
    · obtain rfl : i = n := by omega
      have HC := Lib.hid (Copy_bo pi L M J base k wr R.out)
      go_wp2_with fail
      refine HC.out.mono ?_
      rintro e w5 ⟨rfl, hr5, hb5⟩
      obtain ⟨pc, hpc⟩ : ∃ pc, pc = wr.heap.size := ⟨_, rfl⟩
      rw [← hpc] at hr5 ⊢
      have hs1 := R.out.lt
      have hs2 := hb5.size
      have hs3 := A.out.lt
      have hs4 := blk_lt K.out
      have hpc1 : pi < pc ∧ q < pc ∧ w.heap.size + 3 ≤ pc := by omega
      have C5 := Lib.hid hr5
      have B5 := Lib.hid (R.out.below hb5)
      have A5 := Lib.hid (A.out.bel hb5)
      have K5 := Lib.hid ((hb5.block q hs4).trans K.out)
      have hpc5 := hr5.lt
      clear hr5 hb5 R A K HC hpc
      obtain ⟨c0, c1, c2, c3, c4, c5, c6, c7, c8, c9⟩ := A5.out.cells
      obtain ⟨l0, l1, l2, l3, l4, f0, f1, f2, f3, f4⟩ := five K5.out
      have HAct := Lib.hid (act_any pi L M J base d0 s0 k w5 B5.out hd0)
      go_wp2_with fail
      refine HAct.out.mono ?_
      rintro e w6 ⟨b1, k1, pb, rfl, hr6, hm6, hp6⟩
      go_upto_region 11 with fail
      have hbA := (Below.refl _ w6).alloc (Nat.le_refl _) (.cells #[.int .u64 L, .int .u64 M, .int .u64 J, .int .u64 b1, .int .i64 k1] 37)
      have hs6 := hm6.size
      have A6 := Lib.hid ((A5.out.mod hm6 (fun k hk e => by omega)).bel hbA)
      have B6 := Lib.hid (hr6.below hbA)
      have C6 := Lib.hid ((C5.out.mod hm6 (by show ¬ pc = pi; omega)).below hbA)
      have K6 := Lib.hid ((hbA.block q (by omega)).trans ((hm6.block q (by omega) (by show ¬ q = pi; omega)).trans K5.out))
      have X6 := Lib.hid (alloc_blk_new w6 (.cells #[.int .u64 L, .int .u64 M, .int .u64 J, .int .u64 b1, .int .i64 k1] 37))
      have hpb6 := hr6.lt
      have hpbc : pb ≠ pc ∧ pb ≠ q ∧ w.heap.size + 3 ≤ pb := by omega
      obtain ⟨r1, hr1⟩ : ∃ r, r = w6.heap.size := ⟨_, rfl⟩
      have hr1c : pc < r1 ∧ pb < r1 := by omega
      obtain ⟨W6, hW6⟩ : ∃ W, W = w6.alloc (.cells #[.int .u64 L, .int .u64 M, .int .u64 J, .int .u64 b1, .int .i64 k1] 37) := ⟨_, rfl⟩
      have hz6 : W6.heap.size = r1 + 1 := by rw [hW6, hr1]; simp
      rw [← hr1, ← hW6] at X6
      rw [← hW6] at A6 B6 C6 K6
      rw [← hr1, ← hW6]
      clear hr6 hm6 hp6 A5 B5 C5 K5 HAct c0 c1 c2 c3 c4 c5 c6 c7 c8 c9 l0 l1 l2 l3 l4 f0 f1 f2 f3 f4 hbA hr1 hW6 hs6 hpb6 hs1 hs2 hs3 hs4 hpc5
      obtain ⟨c0, c1, c2, c3, c4, c5, c6, c7, c8, c9⟩ := A6.out.cells
      obtain ⟨l0, l1, l2, l3, l4, f0, f1, f2, f3, f4⟩ := five K6.out
      have HAct := Lib.hid (act_any pc L M J base d1 s1 k W6 C6.out hd1)
      have HZ6 := Lib.hid hz6
      clear hz6
      go_wp2_with fail
      refine HAct.out.mono ?_
      rintro e w7 ⟨b2, k2, pc', rfl, hr7, hm7, hp7⟩
      go_upto_region 12 with fail
      have hs7 := hm7.size
      have hz6 := HZ6.out
      have hbA := (Below.refl _ w7).alloc (Nat.le_refl _) (.cells #[.int .u64 L, .int .u64 M, .int .u64 J, .int .u64 b2, .int .i64 k2] 37)
      have A7 := Lib.hid ((A6.out.mod hm7 (fun k hk e => by omega)).bel hbA)
      have B7 := Lib.hid ((B6.out.mod hm7 (by show ¬ pb = pc; omega)).below hbA)
      have C7 := Lib.hid (hr7.below hbA)
      have X7 := Lib.hid ((hbA.block r1 (by omega)).trans ((hm7.block r1 (by omega) (by show ¬ r1 = pc; omega)).trans X6.out))
      have Y7 := Lib.hid (alloc_blk_new w7 (.cells #[.int .u64 L, .int .u64 M, .int .u64 J, .int .u64 b2, .int .i64 k2] 37))
      obtain ⟨r2, hr2⟩ : ∃ r, r = w7.heap.size := ⟨_, rfl⟩
      obtain ⟨W7, hW7⟩ : ∃ W, W = w7.alloc (.cells #[.int .u64 L, .int .u64 M, .int .u64 J, .int .u64 b2, .int .i64 k2] 37) := ⟨_, rfl⟩
      rw [← hr2, ← hW7] at Y7
      rw [← hW7] at A7 B7 C7 X7
      rw [← hr2, ← hW7]
      clear hr7 hm7 A6 B6 C6 K6 X6 HAct c0 c1 c2 c3 c4 c5 c6 c7 c8 c9 l0 l1 l2 l3 l4 f0 f1 f2 f3 f4 hbA hr2 hW7 hs7 hp7 hz6 HZ6
      obtain ⟨c0, c1, c2, c3, c4, c5, c6, c7, c8, c9⟩ := A7.out.cells
      have HN := Lib.hid (new_ok L' M' J' W7 ho' hJ')
      go_wp2_with fail
      refine HN.out.mono ?_
      rintro e w8 ⟨po, hp8, rfl, hr8, hb8⟩
      have A8 := Lib.hid (A7.out.bel hb8)
      have B8 := Lib.hid (B7.out.below hb8)
      have C8 := Lib.hid (C7.out.below hb8)
      have O8 := Lib.hid hr8
      have X8 := Lib.hid ((hb8.block r1 (blk_lt X7.out)).trans X7.out)
      have Y8 := Lib.hid ((hb8.block r2 (blk_lt Y7.out)).trans Y7.out)
      clear hr8 hb8 A7 B7 C7 X7 Y7 HN c0 c1 c2 c3 c4 c5 c6 c7 c8 c9 hp8
      obtain ⟨c0, c1, c2, c3, c4, c5, c6, c7, c8, c9⟩ := A8.out.cells
      have HR := Lib.hid (refNew L' M' J' w8 ho')
      go_wp2_with fail
      refine HR.out.mono ?_
      rintro e w9 ⟨rfl, hb9⟩
      go_upto_region 14 with fail
      have hbA := (Below.refl _ w9).alloc (Nat.le_refl _) (.cells #[.int .u64 L', .int .u64 M', .int .u64 J', .int .u64 L', .int .i64 0] 37)
      have hb10 := hb9.trans (hbA.mono hb9.size)
      have A9 := Lib.hid (A8.out.bel hb10)
      have B9 := Lib.hid (B8.out.below hb10)
      have C9 := Lib.hid (C8.out.below hb10)
      have O9 := Lib.hid (O8.out.below hb10)
      have X9 := Lib.hid ((hb10.block r1 (blk_lt X8.out)).trans X8.out)
      have Y9 := Lib.hid ((hb10.block r2 (blk_lt Y8.out)).trans Y8.out)
      have Z9 := Lib.hid (alloc_blk_new w9 (.cells #[.int .u64 L', .int .u64 M', .int .u64 J', .int .u64 L', .int .i64 0] 37))
      obtain ⟨r3, hr3⟩ : ∃ r, r = w9.heap.size := ⟨_, rfl⟩
      obtain ⟨w10, hw10⟩ : ∃ W, W = w9.alloc (.cells #[.int .u64 L', .int .u64 M', .int .u64 J', .int .u64 L', .int .i64 0] 37) := ⟨_, rfl⟩
      rw [← hr3, ← hw10] at Z9
      rw [← hw10] at A9 B9 C9 O9 X9 Y9
      rw [← hr3, ← hw10]
      clear hb9 hbA hb10 A8 B8 C8 O8 X8 Y8 HR c0 c1 c2 c3 c4 c5 c6 c7 c8 c9 hr3 hw10
      have hF0 : Fin3 w L M J L' M' J' pb pc' po r1 r2 r3 b1 k1 b2 k2 w10 := ⟨B9.out, C9.out, O9.out, X9.out, Y9.out, Z9.out, A9.out.below⟩
      have hS0 : Sees w L M J L' M' J' pb pc' po r1 r2 r3 b1 k1 b2 k2 w10.drew := Sees.of (hF0.drewN 1)
      have HIs := Lib.hid (is_sees w L M J L' M' J' pb pc' po r1 r2 r3 b1 k1 b2 k2)
      have HSm := Lib.hid (same_sees w L M J L' M' J' pb pc' po r1 r2 r3 b1 k1 b2 k2)
      have HWk := Lib.hid (works_sees w L M J L' M' J' pb pc' po r1 r2 r3 b1 k1 b2 k2)
      have hsy := eq5_symm L M J b2 k2 L M J b1 k1
      clear hF0 A9 B9 C9 O9 X9 Y9 Z9 HW HA
      go_region_held3 (fun W => ((W.cell? ⟨r1, 0, none⟩ = some (.int .u64 L) ∧ W.cell? ⟨r1, 1, none⟩ = some (.int .u64 M) ∧ W.cell? ⟨r1, 2, none⟩ = some (.int .u64 J) ∧ W.cell? ⟨r1, 3, none⟩ = some (.int .u64 b1) ∧ W.cell? ⟨r1, 4, none⟩ = some (.int .i64 k1)) ∧ (W.cell? ⟨r2, 0, none⟩ = some (.int .u64 L) ∧ W.cell? ⟨r2, 1, none⟩ = some (.int .u64 M) ∧ W.cell? ⟨r2, 2, none⟩ = some (.int .u64 J) ∧ W.cell? ⟨r2, 3, none⟩ = some (.int .u64 b2) ∧ W.cell? ⟨r2, 4, none⟩ = some (.int .i64 k2)) ∧ (W.cell? ⟨r3, 0, none⟩ = some (.int .u64 L') ∧ W.cell? ⟨r3, 1, none⟩ = some (.int .u64 M') ∧ W.cell? ⟨r3, 2, none⟩ = some (.int .u64 J') ∧ W.cell? ⟨r3, 3, none⟩ = some (.int .u64 L') ∧ W.cell? ⟨r3, 4, none⟩ = some (.int .i64 0)) ∧ Fin3 w L M J L' M' J' pb pc' po r1 r2 r3 b1 k1 b2 k2 W)) (assumption) (first | (go_at_call 11; refine (HNum.out _ _).mono ?_; rintro e w' ⟨rfl, rfl⟩) | (go_at_call 16; refine (HIs.out _ _ _ _ _ _ _ (by assumption) (by first | exact Or.inl ⟨rfl, rfl, rfl, rfl, rfl, rfl⟩ | exact Or.inr (Or.inl ⟨rfl, rfl, rfl, rfl, rfl, rfl⟩))).mono ?_; rintro e w' ⟨rfl, hS⟩) | (go_at_call 19; refine (HSm.out _ _ _ _ _ _ _ _ _ _ _ _ _ (by assumption) (by first | exact Or.inl ⟨rfl, rfl, rfl, rfl, rfl, rfl⟩ | exact Or.inr (Or.inl ⟨rfl, rfl, rfl, rfl, rfl, rfl⟩) | exact Or.inr (Or.inr ⟨rfl, rfl, rfl, rfl, rfl, rfl⟩)) (by first | exact Or.inl ⟨rfl, rfl, rfl, rfl, rfl, rfl⟩ | exact Or.inr (Or.inl ⟨rfl, rfl, rfl, rfl, rfl, rfl⟩) | exact Or.inr (Or.inr ⟨rfl, rfl, rfl, rfl, rfl, rfl⟩))).mono ?_; rintro e w' ⟨rfl, hS⟩) | (go_at_call 8; refine (HWk.out _ (by assumption)).mono ?_; rintro e w' ⟨rfl, hS⟩))
      all_goals
        go_wp2
        go_ret
        exact ⟨rfl, (show Sees w L M J L' M' J' pb pc' po r1 r2 r3 b1 k1 b2 k2 _ from by assumption).fin.below⟩
end Go.Proofs.Ytkoppmnofloefaa
