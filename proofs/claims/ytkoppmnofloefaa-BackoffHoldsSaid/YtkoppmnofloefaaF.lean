/-
  BackoffHolds, walked.
-/
import Derived.Test.YtkoppmnofloefaaE
namespace Go.Proofs.Ytkoppmnofloefaa
open Go.RowKit
set_option linter.unusedVariables false
set_option linter.unusedSimpArgs false

def Yes (w : World) (e : Ending) (w' : World) : Prop := e = .returned (.bool true) ∧ Below w.heap.size w w'

set_option maxHeartbeats 1600000 in
set_option maxRecDepth 100000 in
theorem holds_out (L M J base : Int) (ao : Option Addr) (n cap : Nat) (w : World) (h : 60 < n ∨ L < 1 ∨ M < L ∨ 1099511627776 < M ∨ 1099511627776 < J) (hn : n ≤ maxLen) :
    Calls Try.prog 3 #[.agg #[.int .u64 L, .int .u64 M, .int .u64 J], .int .u64 base, .slice ao n cap] w (Yes w) := by
  unfold maxLen at hn
  have HW := Lib.hid (works_true (w.alloc (.cells #[.int .u64 L, .int .u64 M, .int .u64 J] 24)))
  have HY : ∀ w', Below (w.alloc (.cells #[.int .u64 L, .int .u64 M, .int .u64 J] 24)).heap.size (w.alloc (.cells #[.int .u64 L, .int .u64 M, .int .u64 J] 24)) w' → Below w.heap.size w w' :=
    fun w' hb => ((Below.refl _ w).alloc (Nat.le_refl _) _).trans (hb.mono (by simp))
  have HY := Lib.hid HY
  by_cases h1 : 60 < n
  · have hd1 : decide (60 < n) = true := by simpa using h1
    clear h
    go_enter Try.func3, Try.ntmps3
    go_wp2_with (go_at_call 8; refine HW.out.mono ?_; rintro e w' ⟨rfl, hb⟩)
    go_ret
    exact ⟨rfl, HY.out _ hb⟩
  have hd1 : decide (60 < n) = false := by simpa using h1
  by_cases h2 : L < 1
  · have hd2 : decide (L < 1) = true := by simpa using h2
    clear h
    go_enter Try.func3, Try.ntmps3
    go_wp2_with (go_at_call 8; refine HW.out.mono ?_; rintro e w' ⟨rfl, hb⟩)
    go_ret
    exact ⟨rfl, HY.out _ hb⟩
  have hd2 : decide (L < 1) = false := by simpa using h2
  by_cases h3 : M < L
  · have hd3 : decide (M < L) = true := by simpa using h3
    clear h
    go_enter Try.func3, Try.ntmps3
    go_wp2_with (go_at_call 8; refine HW.out.mono ?_; rintro e w' ⟨rfl, hb⟩)
    go_ret
    exact ⟨rfl, HY.out _ hb⟩
  have hd3 : decide (M < L) = false := by simpa using h3
  by_cases h4 : 1099511627776 < M
  · have hd4 : decide (1099511627776 < M) = true := by simpa using h4
    clear h
    go_enter Try.func3, Try.ntmps3
    go_wp2_with (go_at_call 8; refine HW.out.mono ?_; rintro e w' ⟨rfl, hb⟩)
    go_ret
    exact ⟨rfl, HY.out _ hb⟩
  have hd4 : decide (1099511627776 < M) = false := by simpa using h4
  have h5 : 1099511627776 < J := by omega
  have hd5 : decide (1099511627776 < J) = true := by simpa using h5
  clear h
  go_enter Try.func3, Try.ntmps3
  go_wp2_with (go_at_call 8; refine HW.out.mono ?_; rintro e w' ⟨rfl, hb⟩)
  go_ret
  exact ⟨rfl, HY.out _ hb⟩

/-- Less what the draw adds. -/
def bare (M k : Int) (i : Nat) : Int := min (k * 2 ^ i) M
/-- The one ahead. -/
def was (M k : Int) (i : Nat) : Int := if i = 0 then 0 else bare M k (i - 1)
theorem bare_facts (L M k : Int) (i : Nat) (h1 : 1 ≤ L) (h2 : L ≤ k) (h3 : k ≤ M) (h4 : M ≤ 1099511627776) :
    L ≤ bare M k i ∧ bare M k i ≤ M ∧ was M k i ≤ bare M k i ∧ (0 < i → bare M k i ≤ 2 * was M k i) ∧ (i = 0 → bare M k i = k) ∧ (40 ≤ i → bare M k i = M) ∧ 0 ≤ was M k i := by
  have hp := two_pow_pos i
  have hk : k ≤ k * 2 ^ i := by
    have := Int.mul_le_mul_of_nonneg_left hp (show 0 ≤ k by omega)
    omega
  refine ⟨by unfold bare; omega, by unfold bare; omega, ?_, ?_, ?_, ?_, ?_⟩
  · unfold was
    split
    · unfold bare; omega
    · have e := Int.mul_le_mul_of_nonneg_left (two_pow_le (show i - 1 ≤ i by omega)) (show 0 ≤ k by omega)
      unfold bare; omega
  · intro hi
    unfold was
    rw [if_neg (by omega)]
    have e : (2 : Int) ^ i = 2 * 2 ^ (i - 1) := by
      rw [show i = (i - 1) + 1 by omega, Int.pow_succ, Int.mul_comm]; rfl
    have e2 : k * 2 ^ i = 2 * (k * 2 ^ (i - 1)) := by rw [e, ← Int.mul_assoc, Int.mul_comm k 2, Int.mul_assoc]
    unfold bare
    rw [e2]
    have : 0 ≤ M := by omega
    omega
  · rintro rfl
    unfold bare; simp; omega
  · intro hi
    have e := Int.mul_le_mul_of_nonneg_left (two_pow_le hi) (show 0 ≤ k by omega)
    unfold bare; omega
  · unfold was
    split
    · omega
    · have hp := two_pow_pos (i - 1)
      have := Int.mul_le_mul_of_nonneg_left hp (show 0 ≤ k by omega)
      unfold bare; omega

set_option maxHeartbeats 40000000 in
set_option maxRecDepth 100000 in
theorem holds_in (L M J base : Int) (ao : Option Addr) (n cap : Nat) (zs : List Int) (w : World) (hn : n ≤ 60) (h1 : 1 ≤ L) (h2 : L ≤ M) (h3 : M ≤ 1099511627776) (h4 : J ≤ 1099511627776) (hJ : 0 ≤ J)
    (hao : 0 < n → ∃ b off, ao = some ⟨b, off, none⟩ ∧ b < w.heap.size ∧ ∀ j, j < n → w.cell? ⟨b, off + j, none⟩ = some (.int .u64 (zs.getD j 0))) (hz : ∀ j, 0 ≤ zs.getD j 0) :
    Calls Try.prog 3 #[.agg #[.int .u64 L, .int .u64 M, .int .u64 J], .int .u64 base, .slice ao n cap] w (Yes w) := by
  have HNum := Lib.hid num_any
  have HW := Lib.hid works_true
  have HAO := Lib.hid hao
  have HZ := Lib.hid hz
  clear hao hz
  have hd1 : decide (60 < n) = false := by simp; omega
  have hd2 : decide (L < 1) = false := by simp; omega
  have hd3 : decide (M < L) = false := by simp; omega
  have hd4 : decide (1099511627776 < M) = false := by simp; omega
  have hd5 : decide (1099511627776 < J) = false := by simp; omega
  have hB : Below w.heap.size w (w.alloc (.cells #[.int .u64 L, .int .u64 M, .int .u64 J] 24)) := (Below.refl _ w).alloc (Nat.le_refl _) _
  have hblk := alloc_blk_new w (.cells #[.int .u64 L, .int .u64 M, .int .u64 J] 24)
  have HN := Lib.hid (new_ok L M J (w.alloc (.cells #[.int .u64 L, .int .u64 M, .int .u64 J] 24)) (by simp [okW]; omega) hJ)
  have HB := Lib.hid hB
  have HK := Lib.hid hblk
  clear hB hblk
  go_enter Try.func3, Try.ntmps3
  go_wp2_with fail
  refine HN.out.mono ?_
  rintro e w1 ⟨p, hp, rfl, hr, hb⟩
  have R1 := Lib.hid hr
  have B1 := Lib.hid (HB.out.trans (hb.mono (by simp)))
  have K1 := Lib.hid ((hb.block w.heap.size (by simp)).trans HK.out)
  have hpw : w.heap.size < p := by simp at hp; omega
  clear hr hb hp HN HK HB hd1 hd2 hd3 hd4 hd5
  go_wp2_with fail
  refine (Set_bo p L M J L base 0 w1 R1.out).mono ?_
  obtain ⟨k, hk⟩ : ∃ k, k = max L (min M base) := ⟨_, rfl⟩
  rw [← hk]
  rintro e w2 ⟨rfl, hr, hm⟩
  have R2 := Lib.hid hr
  have B2 := Lib.hid (hm.bel B1.out (by omega))
  have K2 := Lib.hid ((hm.block w.heap.size (blk_lt K1.out) (by omega)).trans K1.out)
  have c0 := cell_blk K2.out 0 _ rfl
  have c1 := cell_blk K2.out 1 _ rfl
  have hk1 : L ≤ k := by omega
  have hk2 : k ≤ M := by omega
  have t1 : decide (k < L) = false := by simp; omega
  have t2 : decide (M < k) = false := by simp; omega
  have key : (decide (L ≤ base) = false) ∨ (decide (L ≤ base) = true ∧ decide (base ≤ M) = false) ∨ (decide (L ≤ base) = true ∧ decide (base ≤ M) = true ∧ (k != base) = false) := by
    by_cases g1 : L ≤ base
    · by_cases g2 : base ≤ M
      · exact .inr (.inr ⟨by simpa using g1, by simpa using g2, by simp; omega⟩)
      · exact .inr (.inl ⟨by simpa using g1, by simpa using g2⟩)
    · exact .inl (by simpa using g1)
  clear hr hm R1 B1 K1 hk
  go_upto_region 5 with fail
  go_cut [89] (fun s wx => s = .bool false ∧ wx = w2)
  case first =>
    rcases key with g | ⟨g, g'⟩ | ⟨g, g', g''⟩
    all_goals
      go_wp2_with (go_at_call 11; refine (HNum.out _ _).mono ?_; rintro e w' ⟨rfl, rfl⟩)
      go_meet
      exact ⟨rfl, rfl⟩
  case rest =>
    obtain ⟨rfl, rfl⟩ := hcut
    clear key t1 t2 c0 c1
    go_wp2
    go_loopg [11, 12] n (fun gk v11 v12 wr => ∃ i : Nat, v12 = .int .i64 i ∧ v11 = .int .u64 (was M k i) ∧ i ≤ n ∧ gk = n - i ∧ Bo wr p L M J k i ∧ Below w.heap.size w wr ∧ wr.heap[w.heap.size]? = some (.cells #[.int .u64 L, .int .u64 M, .int .u64 J] 24 (0, 0)))
    case atStart => exact ⟨0, rfl, rfl, by omega, rfl, R2.out, B2.out, K2.out⟩
    case round =>
      obtain ⟨i, rfl, rfl, hin, hgk, hr, hb, hK⟩ := hrel
      have HG := Lib.hid hgk
      have R := Lib.hid hr
      have B := Lib.hid hb
      have K := Lib.hid hK
      obtain ⟨f1, f2, f3, f4, f5, f6, f7⟩ := bare_facts L M k i h1 hk1 hk2 h3
      have hwas2 : was M k (i + 1) = bare M k i := by simp [was]
      obtain ⟨WA, hWA⟩ : ∃ WA, WA = was M k i := ⟨_, rfl⟩
      obtain ⟨D, hD⟩ : ∃ D, D = bare M k i := ⟨_, rfl⟩
      rw [← hD] at f1 f2 f3 f4 f5 f6 hwas2
      rw [← hWA] at f3 f4 f7 ⊢
      have HW2 := Lib.hid hwas2
      have HDD := Lib.hid hD
      clear hgk hr hb hK hwas2 hWA hD R2 B2 K2
      by_cases hlt : i < n
      · obtain ⟨b, off, rfl, hbw, hcz⟩ := HAO.out (by omega)
        obtain ⟨d, hdz⟩ : ∃ d, d = zs.getD i 0 := ⟨_, rfl⟩
        have hd0 : 0 ≤ d := by rw [hdz]; exact HZ.out i
        have hcw := hcz i hlt
        rw [← hdz] at hcw
        have HDZ := Lib.hid hdz
        clear hcz hdz
        have kd := (B.out.cell (p := ⟨b, off + i, none⟩) hbw).trans hcw
        have HCW := Lib.hid hcw
        have c2 := cell_blk K.out 2 _ rfl
        obtain ⟨ad, had⟩ : ∃ ad, ad = d % (J + 1) := ⟨_, rfl⟩
        have a0 : 0 ≤ ad := by rw [had]; exact Int.emod_nonneg _ (by omega)
        have a1 : ad ≤ J := by have := Int.emod_lt_of_pos d (show 0 < J + 1 by omega); omega
        have hj2 : d.tmod (J + 1) = ad := by rw [Int.tmod_eq_emod_of_nonneg hd0]; exact had.symm
        have hdel : delayOf M J k i d = D + ad := by rw [HDD.out, had]; rfl
        have HDEL := Lib.hid hdel
        clear had hcw hdel
        go_wp2_with fail
        go_quiet (fail)
        obtain ⟨wq, hwq⟩ : ∃ wq, wq = wr.drewN nq := ⟨_, rfl⟩
        have R3 : Hid (Bo wq p L M J k i) := by rw [hwq]; exact Lib.hid (R.out.drewN nq)
        have B3 : Hid (Below w.heap.size w wq) := by rw [hwq]; exact Lib.hid (Below.drN B.out nq)
        have K3 : Hid (wq.heap[w.heap.size]? = some (.cells #[.int .u64 L, .int .u64 M, .int .u64 J] 24 (0, 0))) := by rw [hwq]; exact Lib.hid K.out
        rw [← hwq]
        clear hwq kd c2 hj2
        obtain ⟨X, hX⟩ : ∃ X, X = D + ad := ⟨_, rfl⟩
        have kd3 := (B3.out.cell (p := ⟨b, off + i, none⟩) hbw).trans HCW.out
        have hP := Peek_bo p L M J k d i wq R3.out hd0
        rw [HDEL.out, ← hX] at hP
        have HP := Lib.hid hP
        clear hP
        go_wp2_with fail
        refine HP.out.mono ?_
        rintro e w4 ⟨rfl, m, hm⟩
        have R4 : Hid (Bo w4 p L M J k i) := by rw [hm]; exact Lib.hid (R3.out.drewN m)
        have B4 : Hid (Below w.heap.size w w4) := by rw [hm]; exact Lib.hid (Below.drN B3.out m)
        have K4 : Hid (w4.heap[w.heap.size]? = some (.cells #[.int .u64 L, .int .u64 M, .int .u64 J] 24 (0, 0))) := by rw [hm]; exact Lib.hid K3.out
        clear hm kd3 HP R3 B3 K3 R B K
        have kd4 := (B4.out.cell (p := ⟨b, off + i, none⟩) hbw).trans HCW.out
        have hN := Next_bo p L M J k d i w4 R4.out hd0
        rw [HDEL.out, ← hX, show min (i + 1) 64 = i + 1 by omega] at hN
        have HN := Lib.hid hN
        clear hN
        go_wp2_with fail
        refine HN.out.mono ?_
        rintro e w5 ⟨rfl, hr, hm⟩
        have R5 := Lib.hid hr
        have B5 := Lib.hid (hm.bel B4.out (by omega))
        have K5 := Lib.hid ((hm.block w.heap.size (blk_lt K4.out) (by omega)).trans K4.out)
        clear hr hm kd4 HN R4 B4 K4
        have c0 := cell_blk K5.out 0 _ rfl
        have c1 := cell_blk K5.out 1 _ rfl
        have c2 := cell_blk K5.out 2 _ rfl
        have t1 : decide (X < L) = false := by simp; omega
        have t2 : decide (M + J < X) = false := by simp; omega
        have t3 : decide (X < ad) = false := by simp; omega
        have t4 : X - ad = D := by omega
        have t5 : decide (D < WA) = false := by simp; omega
        have bX : 0 ≤ X ∧ X ≤ 2199023255552 := by omega
        have HX := Lib.hid hX
        clear hX
        by_cases g1 : i = 0
        · have u1 : ((i : Int) == 0) = true := by simpa using g1
          have u2 : decide (0 < (i : Int)) = false := by simp; omega
          have u2n : decide (0 < i) = false := by simp; omega
          have u3 : decide (40 ≤ (i : Int)) = false := by simp; omega
          have u3n : decide (40 ≤ i) = false := by simp; omega
          have u4 : (D != k) = false := by simp; exact f5 g1
          clear f4 f5 f6 g1
          go_wp2_with (go_at_call 11; refine (HNum.out _ _).mono ?_; rintro e w' ⟨rfl, rfl⟩)
          go_roundg (n - (i + 1))
          case measure => have := HG.out; omega
          case rel => exact ⟨i + 1, by go_num, by rw [HW2.out], by omega, rfl, R5.out, B5.out, K5.out⟩
        · have u1 : ((i : Int) == 0) = false := by simpa using g1
          have u2 : decide (0 < (i : Int)) = true := by simp; omega
          have u2n : decide (0 < i) = true := by simp; omega
          have u5 : decide (2 * WA < D) = false := by have := f4 (by omega); simp; omega
          have bW : WA ≤ 1099511627776 := by omega
          by_cases g2 : 40 ≤ i
          · have u3 : decide (40 ≤ (i : Int)) = true := by simp; omega
            have u3n : decide (40 ≤ i) = true := by simp; omega
            have u6 : (D != M) = false := by simp; exact f6 g2
            clear f4 f5 f6 g1
            go_wp2_with (go_at_call 11; refine (HNum.out _ _).mono ?_; rintro e w' ⟨rfl, rfl⟩)
            go_roundg (n - (i + 1))
            case measure => have := HG.out; omega
            case rel => exact ⟨i + 1, by go_num, by rw [HW2.out], by omega, rfl, R5.out, B5.out, K5.out⟩
          · have u3 : decide (40 ≤ (i : Int)) = false := by simp; omega
            have u3n : decide (40 ≤ i) = false := by simp; omega
            clear f4 f5 f6 g1
            go_wp2_with (go_at_call 11; refine (HNum.out _ _).mono ?_; rintro e w' ⟨rfl, rfl⟩)
            go_roundg (n - (i + 1))
            case measure => have := HG.out; omega
            case rel => exact ⟨i + 1, by go_num, by rw [HW2.out], by omega, rfl, R5.out, B5.out, K5.out⟩
      · go_wp2_with (go_at_call 8; refine (HW.out _).mono ?_; rintro e w' ⟨rfl, hb⟩)
        go_ret
        exact ⟨rfl, B.out.trans (hb.mono B.out.size)⟩
end Go.Proofs.Ytkoppmnofloefaa
