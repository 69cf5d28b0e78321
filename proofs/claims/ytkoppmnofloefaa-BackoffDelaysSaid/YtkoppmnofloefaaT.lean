/-
  BackoffPlays, walked.
-/
import Derived.Test.YtkoppmnofloefaaS
namespace Go.Proofs.Ytkoppmnofloefaa
open Go.RowKit
set_option linter.unusedVariables false
set_option linter.unusedSimpArgs false

/-- Calls that came in. -/
def Acts (w : World) (ao : Option Addr) (n : Nat) (zs : List (Int × Int)) : Prop :=
  n ≤ zs.length ∧ (0 < n → ∃ b off, ao = some ⟨b, off, none⟩ ∧ b < w.heap.size ∧ ∀ j, j < n → w.cell? ⟨b, off + j * 2, none⟩ = some (.int .i64 (zs.getD j (0, 0)).1) ∧ w.cell? ⟨b, off + j * 2 + 1, none⟩ = some (.int .u64 (zs.getD j (0, 0)).2) ∧ 0 ≤ (zs.getD j (0, 0)).2)

set_option maxHeartbeats 1600000 in
set_option maxRecDepth 100000 in
theorem plays_out (L M J : Int) (ao : Option Addr) (n cap : Nat) (w : World) (h : 100 < n) (hn : n ≤ maxLen) :
    Calls Try.prog 4 #[.agg #[.int .u64 L, .int .u64 M, .int .u64 J], .slice ao n cap] w (Yes w) := by
  unfold maxLen at hn
  have HW := Lib.hid (works_true (w.alloc (.cells #[.int .u64 L, .int .u64 M, .int .u64 J] 24)))
  have HY : ∀ w', Below (w.alloc (.cells #[.int .u64 L, .int .u64 M, .int .u64 J] 24)).heap.size (w.alloc (.cells #[.int .u64 L, .int .u64 M, .int .u64 J] 24)) w' → Below w.heap.size w w' :=
    fun w' hb => ((Below.refl _ w).alloc (Nat.le_refl _) _).trans (hb.mono (by simp))
  have HY := Lib.hid HY
  have hd1 : decide (100 < n) = true := by simpa using h
  go_enter Try.func4, Try.ntmps4
  go_wp2_with (go_at_call 8; refine HW.out.mono ?_; rintro e w' ⟨rfl, hb⟩)
  go_ret
  exact ⟨rfl, HY.out _ hb⟩

set_option maxHeartbeats 3200000 in
set_option maxRecDepth 100000 in
theorem plays_bad (L M J : Int) (ao : Option Addr) (n cap : Nat) (w : World) (hn : n ≤ 100) (ho : okW L M J = false) :
    Calls Try.prog 4 #[.agg #[.int .u64 L, .int .u64 M, .int .u64 J], .slice ao n cap] w (Yes w) := by
  have HNum := Lib.hid num_any
  have HW := Lib.hid works_true
  have hB : Below w.heap.size w (w.alloc (.cells #[.int .u64 L, .int .u64 M, .int .u64 J] 24)) := (Below.refl _ w).alloc (Nat.le_refl _) _
  have hblk := alloc_blk_new w (.cells #[.int .u64 L, .int .u64 M, .int .u64 J] 24)
  have HN := Lib.hid (new_bad L M J (w.alloc (.cells #[.int .u64 L, .int .u64 M, .int .u64 J] 24)) ho)
  have HB := Lib.hid hB
  have HK := Lib.hid hblk
  have hd1 : decide (100 < n) = false := by simp; omega
  clear hB hblk
  go_enter Try.func4, Try.ntmps4
  go_wp2_with fail
  refine HN.out.mono ?_
  rintro e w1 ⟨rfl, hb⟩
  have B1 := Lib.hid (HB.out.trans (hb.mono (by simp)))
  have K1 := (hb.block w.heap.size (by simp)).trans HK.out
  have c0 := cell_blk K1 0 _ rfl
  have c1 := cell_blk K1 1 _ rfl
  have c2 := cell_blk K1 2 _ rfl
  have HR := Lib.hid (refNewBad L M J w1 ho)
  clear hb HN HB HK K1
  go_wp2_with fail
  refine HR.out.mono ?_
  rintro e w2 ⟨rfl, hb⟩
  have B2 := Lib.hid ((B1.out.trans (hb.mono B1.out.size)).alloc (Nat.le_trans B1.out.size hb.size) (.cells #[.int .u64 0, .int .u64 0, .int .u64 0, .int .u64 0, .int .i64 0] 37))
  clear hb HR B1 c0 c1 c2
  go_wp2_with (go_at_call 11; refine (HNum.out _ _).mono ?_; rintro e w' ⟨rfl, rfl⟩)
  refine wp_loop_rounds 1 ?_
  rw [rounds_succ]
  rcases Nat.eq_zero_or_pos n with hz | hp
  · have t1 : decide ((0 : Int) < n) = false := by simp; omega
    have t2 : decide (0 < n) = false := by simp; omega
    go_wp2_with (go_at_call 8; refine (HW.out _).mono ?_; rintro e w' ⟨rfl, hb⟩)
    go_ret
    exact ⟨rfl, B2.out.trans (hb.mono B2.out.size)⟩
  · have t1 : decide ((0 : Int) < n) = true := by simp; omega
    have t2 : decide (0 < n) = true := by simp; omega
    go_wp2_with (go_at_call 8; refine (HW.out _).mono ?_; rintro e w' ⟨rfl, hb⟩)
    go_ret
    exact ⟨rfl, B2.out.trans (hb.mono B2.out.size)⟩

theorem set5 {w : World} {b : Nat} {z0 z1 z2 z3 z4 : Value} {t : TypeId} (h : w.heap[b]? = some (.cells #[z0, z1, z2, z3, z4] t (0, 0))) (a0 a1 a2 a3 a4 : Value) :
    (((((w.setCell ⟨b, 0, none⟩ a0).setCell ⟨b, 1, none⟩ a1).setCell ⟨b, 2, none⟩ a2).setCell ⟨b, 3, none⟩ a3).setCell ⟨b, 4, none⟩ a4).heap[b]? = some (.cells #[a0, a1, a2, a3, a4] t (0, 0)) ∧
    Mod (fun q => q = b) w (((((w.setCell ⟨b, 0, none⟩ a0).setCell ⟨b, 1, none⟩ a1).setCell ⟨b, 2, none⟩ a2).setCell ⟨b, 3, none⟩ a3).setCell ⟨b, 4, none⟩ a4) := by
  refine ⟨?_, ((((Mod.refl (fun q => q = b) w).setCell ⟨b, 0, none⟩ (.inl rfl) a0).setCell ⟨b, 1, none⟩ (.inl rfl) a1).setCell ⟨b, 2, none⟩ (.inl rfl) a2).setCell ⟨b, 3, none⟩ (.inl rfl) a3 |>.setCell ⟨b, 4, none⟩ (.inl rfl) a4⟩
  have e0 := setCell_blk h 0 a0
  have e1 := setCell_blk e0 1 a1
  have e2 := setCell_blk e1 2 a2
  have e3 := setCell_blk e2 3 a3
  have e4 := setCell_blk e3 4 a4
  exact e4

/-- Behind a call by both: the backoff, the reference's box, the new answer's box. -/
def Mid (w : World) (q : Nat) (L M J base : Int) (k : Nat) (wx : World) (p' r : Nat) (base' : Int) (k' : Nat) : Prop :=
  w.heap.size ≤ p' ∧ p' ≠ q ∧ p' ≠ r ∧ r ≠ q ∧ w.heap.size ≤ r ∧ Bo wx p' L M J base' k' ∧ Below w.heap.size w wx ∧ wx.heap[q]? = some (.cells #[.int .u64 L, .int .u64 M, .int .u64 J, .int .u64 base, .int .i64 k] 37 (0, 0)) ∧ wx.heap[r]? = some (.cells #[.int .u64 L, .int .u64 M, .int .u64 J, .int .u64 base', .int .i64 k'] 37 (0, 0))

theorem midA {w wr w5 : World} {q pi p' : Nat} {L M J base base' : Int} {k k' : Nat} (B : Below w.heap.size w wr) (K : wr.heap[q]? = some (.cells #[.int .u64 L, .int .u64 M, .int .u64 J, .int .u64 base, .int .i64 k] 37 (0, 0)))
    (R5 : Bo w5 p' L M J base' k') (M5 : Mod (fun q => q = pi) wr.drew w5) (P5 : p' = pi ∨ wr.drew.heap.size ≤ p') (g1 : w.heap.size ≤ pi) (g2 : pi ≠ q) (hpi : pi < wr.heap.size) :
    Mid w q L M J base k (w5.alloc (.cells #[.int .u64 L, .int .u64 M, .int .u64 J, .int .u64 base', .int .i64 k'] 37)) p' w5.heap.size base' k' := by
  have hq := blk_lt K
  have hs : wr.heap.size ≤ w5.heap.size := M5.size
  have P6 : p' = pi ∨ wr.heap.size ≤ p' := P5
  have hw := B.size
  have hp := R5.lt
  have hbA := (Below.refl _ w5).alloc (Nat.le_refl _) (.cells #[.int .u64 L, .int .u64 M, .int .u64 J, .int .u64 base', .int .i64 k'] 37)
  have b5 : Below w.heap.size w w5 := ⟨M5.os.trans B.os, M5.tape.trans B.tape, M5.output.trans B.output, by omega, fun x hx => (M5.block x (by show x < wr.heap.size; omega) (by show ¬ x = pi; omega)).trans (B.block x hx)⟩
  refine ⟨by omega, by omega, by omega, by omega, by omega, R5.below hbA, b5.trans (hbA.mono (by omega)), ?_, alloc_blk_new _ _⟩
  exact (hbA.block q (by omega)).trans ((M5.block q hq (by show ¬ q = pi; omega)).trans K)

theorem midB {w wr w5 : World} {Z : Obj} {z0 z1 z2 z3 z4 : Value} {q pi p' : Nat} {L M J base base' : Int} {k k' : Nat} (B : Below w.heap.size w wr) (K : wr.heap[q]? = some (.cells #[.int .u64 L, .int .u64 M, .int .u64 J, .int .u64 base, .int .i64 k] 37 (0, 0)))
    (R5 : Bo w5 p' L M J base' k') (M5 : Mod (fun q => q = pi) (wr.drew.alloc Z) w5) (P5 : p' = pi ∨ (wr.drew.alloc Z).heap.size ≤ p') (g1 : w.heap.size ≤ pi) (g2 : pi ≠ q) (hpi : pi < wr.heap.size)
    (T : w5.heap[wr.heap.size]? = some (.cells #[z0, z1, z2, z3, z4] 37 (0, 0))) :
    Mid w q L M J base k (((((w5.setCell ⟨wr.heap.size, 0, none⟩ (.int .u64 L)).setCell ⟨wr.heap.size, 1, none⟩ (.int .u64 M)).setCell ⟨wr.heap.size, 2, none⟩ (.int .u64 J)).setCell ⟨wr.heap.size, 3, none⟩ (.int .u64 base')).setCell ⟨wr.heap.size, 4, none⟩ (.int .i64 k')) p' wr.heap.size base' k' := by
  have hq := blk_lt K
  have hz : (wr.drew.alloc Z).heap.size = wr.heap.size + 1 := by
    have h : (wr.drew.alloc Z).heap.size = wr.drew.heap.size + 1 := by simp
    exact h
  have hs : wr.heap.size + 1 ≤ w5.heap.size := by have := M5.size; omega
  have hw := B.size
  have hp := R5.lt
  obtain ⟨s1, s2⟩ := set5 T (.int .u64 L) (.int .u64 M) (.int .u64 J) (.int .u64 base') (.int .i64 k')
  have bD : Below wr.heap.size wr wr.drew := ⟨rfl, rfl, rfl, Nat.le_refl _, fun _ _ => rfl⟩
  have bA : Below wr.heap.size wr (wr.drew.alloc Z) := bD.alloc (Nat.le_refl _) _
  have b5 : Below w.heap.size w w5 := ⟨M5.os.trans (bA.os.trans B.os), M5.tape.trans (bA.tape.trans B.tape), M5.output.trans (bA.output.trans B.output), by omega, fun x hx => (M5.block x (by omega) (by show ¬ x = pi; omega)).trans ((bA.block x (by omega)).trans (B.block x hx))⟩
  have s3 : Below w.heap.size w5 _ := ⟨s2.os, s2.tape, s2.output, s2.size, fun x hx => s2.block x (by omega) (by show ¬ x = wr.heap.size; omega)⟩
  refine ⟨by omega, by omega, by omega, by omega, by omega, R5.mod s2 (by show ¬ p' = wr.heap.size; omega), b5.trans ⟨s3.os, s3.tape, s3.output, by have := s3.size; omega, fun x hx => s3.block x hx⟩, ?_, s1⟩
  exact (s2.block q (by omega) (by show ¬ q = wr.heap.size; omega)).trans ((M5.block q (by omega) (by show ¬ q = pi; omega)).trans ((bA.block q hq).trans K))

set_option maxHeartbeats 6400000 in
set_option maxRecDepth 100000 in
theorem plays_in (L M J : Int) (ao : Option Addr) (n cap : Nat) (zs : List (Int × Int)) (w : World) (hn : n ≤ 100) (ho : okW L M J = true) (hJ : 0 ≤ J) (ha : Acts w ao n zs) :
    Calls Try.prog 4 #[.agg #[.int .u64 L, .int .u64 M, .int .u64 J], .slice ao n cap] w (Yes w) := by
  have HNum := Lib.hid num_any
  have HW := Lib.hid works_true
  have HA := Lib.hid ha
  have hB : Below w.heap.size w (w.alloc (.cells #[.int .u64 L, .int .u64 M, .int .u64 J] 24)) := (Below.refl _ w).alloc (Nat.le_refl _) _
  have hblk := alloc_blk_new w (.cells #[.int .u64 L, .int .u64 M, .int .u64 J] 24)
  have HN := Lib.hid (new_ok L M J (w.alloc (.cells #[.int .u64 L, .int .u64 M, .int .u64 J] 24)) ho hJ)
  have HB := Lib.hid hB
  have HK := Lib.hid hblk
  have hd1 : decide (100 < n) = false := by simp; omega
  clear hB hblk ha
  go_enter Try.func4, Try.ntmps4
  go_wp2_with fail
  refine HN.out.mono ?_
  rintro e w1 ⟨p, hp, rfl, hr, hb⟩
  have hpw : w.heap.size < p := by simp at hp; omega
  have R1 := Lib.hid hr
  have B1 := Lib.hid (HB.out.trans (hb.mono (by simp)))
  have K1 := (hb.block w.heap.size (by simp)).trans HK.out
  have c0 := cell_blk K1 0 _ rfl
  have c1 := cell_blk K1 1 _ rfl
  have c2 := cell_blk K1 2 _ rfl
  have HR := Lib.hid (refNew L M J w1 ho)
  clear hr hb hp HN HB HK K1
  go_wp2_with fail
  refine HR.out.mono ?_
  rintro e w2 ⟨rfl, hb⟩
  have hbA := (Below.refl _ w2).alloc (Nat.le_refl _) (.cells #[.int .u64 L, .int .u64 M, .int .u64 J, .int .u64 L, .int .i64 0] 37)
  have B2 := Lib.hid ((B1.out.trans (hb.mono B1.out.size)).trans (hbA.mono (Nat.le_trans B1.out.size hb.size)))
  have R2 := Lib.hid ((R1.out.below hb).below hbA)
  have K2 := Lib.hid (alloc_blk_new w2 (.cells #[.int .u64 L, .int .u64 M, .int .u64 J, .int .u64 L, .int .i64 0] 37))
  have hpb : p < w2.heap.size := Nat.lt_of_lt_of_le R1.out.lt hb.size
  obtain ⟨q, hq⟩ : ∃ q, q = w2.heap.size := ⟨_, rfl⟩
  have HQ := Lib.hid hq
  clear hb hbA HR B1 R1 c0 c1 c2 hq
  go_wp2_with (first | (go_at_call 11; refine (HNum.out _ _).mono ?_; rintro e w' ⟨rfl, rfl⟩) | (go_at_call 8; fail))
  rw [← HQ.out] at K2 hpb ⊢
  go_loopg [5, 9, 10, 12] n (fun gk v5 v9 v10 v12 wr => ∃ i : Nat, ∃ pi : Nat, ∃ base : Int, ∃ k : Nat, v5 = .pointer (some ⟨pi, 0, none⟩) ∧ v9 = .int .i64 i ∧ i ≤ n ∧ gk = n - i ∧ w.heap.size ≤ pi ∧ pi ≠ q ∧ w.heap.size ≤ q ∧ Bo wr pi L M J base k ∧ Below w.heap.size w wr ∧ wr.heap[q]? = some (.cells #[.int .u64 L, .int .u64 M, .int .u64 J, .int .u64 base, .int .i64 k] 37 (0, 0)))
  case atStart => exact ⟨0, p, L, 0, rfl, rfl, by omega, rfl, by omega, by omega, by omega, R2.out, B2.out, K2.out⟩
  case round =>
    obtain ⟨i, pi, base, k, rfl, rfl, hin, hgk, g1, g2, g3, hr, hb, hK⟩ := hrel
    have HG := Lib.hid hgk
    have R := Lib.hid hr
    have B := Lib.hid hb
    have K := Lib.hid hK
    clear hgk hr hb hK
    by_cases hlt : i < n
    · obtain ⟨b, off, rfl, hbw, hcz⟩ := HA.out.2 (by omega)
      obtain ⟨what, hwhat⟩ : ∃ x, x = (zs.getD i (0, 0)).1 := ⟨_, rfl⟩
      obtain ⟨d, hd⟩ : ∃ x, x = (zs.getD i (0, 0)).2 := ⟨_, rfl⟩
      obtain ⟨z1, z2, z3⟩ := hcz i hlt
      rw [← hwhat] at z1
      rw [← hd] at z2 z3
      have y1 := (B.out.cell (p := ⟨b, off + i * 2, none⟩) hbw).trans z1
      have y2 := (B.out.cell (p := ⟨b, off + i * 2 + 1, none⟩) hbw).trans z2
      obtain ⟨l0, l1, l2, l3, l4, f0, f1, f2, f3, f4⟩ := five K.out
      have hlq := blk_lt K.out
      have hsz := B.out.size
      have hpi := R.out.lt
      have hbr : b < wr.heap.size := by omega
      have HAct := Lib.hid (fun (W : World) (hW : Bo W pi L M J base k) => act_any pi L M J base d what k W hW z3)
      clear hcz z1 z2 z3 hwhat hd
      go_upto_region 10 with fail
      go_cut [10, 11, 12] (fun v10 v11 v12 wx => ∃ p' r : Nat, ∃ base' : Int, ∃ k' : Nat, v10 = .pointer (some ⟨p', 0, none⟩) ∧ v11 = .pointer (some ⟨r, 0, none⟩) ∧ v12 = .bool true ∧ Mid w q L M J base k wx p' r base' k')
      case first =>
        go_region_with (go_at_call 15; refine (HAct.out _ (by first | exact R.out.drewN 1 | exact (R.out.drewN 1).below ((Below.refl _ _).alloc (Nat.le_refl _) _))).mono ?_; rintro e w5 ⟨b', k', p', rfl, hr5, hm5, hp5⟩; (first | (have tt := (hm5.block wr.heap.size (by simp) (by show ¬ wr.heap.size = pi; omega)).trans (alloc_blk_new wr.drew _); have mm := midB B.out K.out hr5 hm5 hp5 g1 g2 hpi tt; have MM := Lib.hid mm; have htt := blk_lt tt; obtain ⟨m0, m1, m2, m3, m4, n0, n1, n2, n3, n4⟩ := five tt; clear tt mm) | (have mm := midA B.out K.out hr5 hm5 hp5 g1 g2 hpi; have MM := Lib.hid mm; clear mm)); clear hr5 hm5 hp5)
        all_goals
          go_wp2
          go_meet
          exact ⟨p', _, b', k', rfl, rfl, rfl, MM.out⟩
      case rest =>
        obtain ⟨p', r, base', k', rfl, rfl, rfl, e1, e2, e3, e4, e5, hr1, hb1, hq1, hk1⟩ := hcut
        have hpc := hr1.lt
        have R1 := Lib.hid hr1
        have B1 := Lib.hid hb1
        have Q1 := Lib.hid hq1
        have K1 := Lib.hid hk1
        have hlr := blk_lt hk1
        have hlq1 := blk_lt hq1
        obtain ⟨m0, m1, m2, m3, m4, n0, n1, n2, n3, n4⟩ := five hk1
        obtain ⟨o0, o1, o2, o3, o4, j0, j1, j2, j3, j4⟩ := five hq1
        clear hr1 hb1 hq1 hk1 y1 y2 l0 l1 l2 l3 l4 f0 f1 f2 f3 f4 HAct R B K
        obtain ⟨W1, hW1⟩ : ∃ W1, W1 = wc := ⟨_, rfl⟩
        subst hW1
        go_upto_region 11 with fail
        go_cut [5] (fun v5 wx => v5 = .pointer (some ⟨p', 0, none⟩) ∧ Bo wx p' L M J base' k' ∧ Below w.heap.size w wx ∧ wx.heap[q]? = some (.cells #[.int .u64 L, .int .u64 M, .int .u64 J, .int .u64 base', .int .i64 k'] 37 (0, 0)))
        case first =>
          go_region
          all_goals
            go_wp2
            go_meet
            obtain ⟨s1, s2⟩ := set5 Q1.out (.int .u64 L) (.int .u64 M) (.int .u64 J) (.int .u64 base') (.int .i64 k')
            have hwq := B1.out.size
            exact ⟨rfl, (R1.out.mod s2 e2).drewN 1, ⟨s2.os.trans B1.out.os, s2.tape.trans B1.out.tape, s2.output.trans B1.out.output, Nat.le_trans hwq s2.size, fun x hx => (s2.block x (by omega) (by show ¬ x = q; omega)).trans (B1.out.block x hx)⟩, s1⟩
        case rest =>
          obtain ⟨rfl, hr2, hb2, hq2⟩ := hcut
          have HIs := Lib.hid (is_bo p' L M J base' k' wc hr2)
          have R2 := Lib.hid hr2
          have B2 := Lib.hid hb2
          have Q2 := Lib.hid hq2
          obtain ⟨l0, l1, l2, l3, l4, f0, f1, f2, f3, f4⟩ := five hq2
          clear hr2 hb2 hq2
          go_wp2_with (go_at_call 16; refine HIs.out.mono ?_; rintro e w6 ⟨rfl, hb6⟩)
          have hr3 := R2.out.below hb6
          go_roundg (n - (i + 1))
          case measure => have := HG.out; omega
          case rel =>
            have hs2 := B2.out.size
            exact ⟨i + 1, p', base', k', rfl, by go_num, by omega, rfl, e1, e2, g3, hr3, B2.out.trans (hb6.mono hs2), (hb6.block q (blk_lt Q2.out)).trans Q2.out⟩
    · obtain rfl : i = n := by omega
      have HIs := Lib.hid (is_bo pi L M J base k wr R.out)
      obtain ⟨l0, l1, l2, l3, l4, f0, f1, f2, f3, f4⟩ := five K.out
      go_wp2_with (first | (go_at_call 16; refine HIs.out.mono ?_; rintro e w6 ⟨rfl, hb6⟩; have B6 := Lib.hid hb6; clear hb6) | (go_at_call 8; refine (HW.out _).mono ?_; rintro e w7 ⟨rfl, hb7⟩; have B7 := Lib.hid hb7; clear hb7))
      go_ret
      have hs2 := B.out.size
      have b6 := B.out.trans (B6.out.mono hs2)
      exact ⟨rfl, b6.trans (B7.out.mono b6.size)⟩
end Go.Proofs.Ytkoppmnofloefaa
