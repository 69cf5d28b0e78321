/-
  Digits: the program's.
-/
import Derived.Test.YtfnojmkiajdoaaaJ
import Derived.Test.YtfnojmkiajdoaaaC
namespace Go.Proofs.Ytfnojmkiajdoaaa
open Go.RowKit
set_option linter.unusedVariables false
set_option linter.unusedSimpArgs false

def D10 : List Int := [48, 49, 50, 51, 52, 53, 54, 55, 56, 57]
theorem atV_D10 (c : Int) : atV c D10 = if 48 ≤ c ∧ c ≤ 57 then c - 48 else -1 := by
  by_cases h : 48 ≤ c ∧ c ≤ 57
  · rw [if_pos h]
    have : c = 48 ∨ c = 49 ∨ c = 50 ∨ c = 51 ∨ c = 52 ∨ c = 53 ∨ c = 54 ∨ c = 55 ∨ c = 56 ∨ c = 57 := by omega
    rcases this with rfl | rfl | rfl | rfl | rfl | rfl | rfl | rfl | rfl | rfl <;> decide
  · rw [if_neg h]
    have : at1 c D10 = none := at1_free fun x hx => by
      simp [D10] at hx
      omega
    unfold atV
    rw [this]
/-- What the reader of a text lays. -/
structure Rd (A Kb V : Nat) (S : ByteArray) (w : World) : Prop where
  a : w.heap[A]? = some (.cells #[.string S, .int .i64 10] 72 (0, 0))
  k : w.heap[Kb]? = some (.cells #[.string (strOfNums D10)] 9 (0, 0))
  v : w.heap[V]? = some (.cells #[.func (.func 45) #[] #[.pointer (some ⟨A, 0, none⟩), .pointer (some ⟨Kb, 0, none⟩)]] 78 (0, 0))
theorem Rd.below {A Kb V : Nat} {S : ByteArray} {w w' : World} (h : Rd A Kb V S w) (hb : Below w.heap.size w w') : Rd A Kb V S w' :=
  ⟨(hb.block _ (blk_lt h.a)).trans h.a, (hb.block _ (blk_lt h.k)).trans h.k, (hb.block _ (blk_lt h.v)).trans h.v⟩
theorem value45 (A Kb V : Nat) (S : ByteArray) (c : Int) (h0 : 0 ≤ c) (h1 : c < 256) (w : World) (h : Rd A Kb V S w) : Calls Try.prog 45 #[.int .u8 c, .pointer (some ⟨A, 0, none⟩), .pointer (some ⟨Kb, 0, none⟩)] w fun e w' => e = .returned (.int .i64 (atV c D10)) ∧ w = w' := by
  have HI := Lib.hid (indexByte46 D10 c (byt_dec rfl) h0 h1 w)
  have a1 := cell_blk h.a 1 _ rfl
  have al := blk_lt h.a
  have k0 := cell_blk h.k 0 _ rfl
  have kl := blk_lt h.k
  obtain ⟨T, hT⟩ : ∃ T, T = strOfNums D10 := ⟨_, rfl⟩
  obtain ⟨r, hr⟩ : ∃ T, T = atV c D10 := ⟨_, rfl⟩
  rw [← hT, ← hr] at HI
  rw [← hT] at k0
  rw [← hr]
  clear hT hr h
  go_enter Try.func45, Try.ntmps45
  go_wp2_with (go_at_call 46; refine HI.out.mono ?_; rintro e w' ⟨rfl, rfl⟩)
  go_ret
  exact ⟨rfl, rfl⟩
theorem is48 (A Kb V : Nat) (S : ByteArray) (c : Int) (h0 : 0 ≤ c) (h1 : c < 256) (w : World) (h : Rd A Kb V S w) : Calls Try.prog 48 #[.int .u8 c, .pointer (some ⟨V, 0, none⟩)] w fun e w' => e = .returned (.bool (decide (48 ≤ c ∧ c ≤ 57))) ∧ w = w' := by
  have HI := Lib.hid (value45 A Kb V S c h0 h1 w h)
  have v0 := cell_blk h.v 0 _ rfl
  have vl := blk_lt h.v
  have hd : decide (0 ≤ atV c D10) = decide (48 ≤ c ∧ c ≤ 57) := by
    rw [atV_D10]
    by_cases hc : 48 ≤ c ∧ c ≤ 57
    · rw [if_pos hc]; simp [hc]
    · rw [if_neg hc]; simp [hc]
  obtain ⟨b, hb⟩ : ∃ T, T = decide (48 ≤ c ∧ c ≤ 57) := ⟨_, rfl⟩
  obtain ⟨r, hr⟩ : ∃ T, T = atV c D10 := ⟨_, rfl⟩
  rw [← hr] at HI hd
  rw [← hb] at hd ⊢
  clear hb hr h h0 h1
  go_enter Try.func48, Try.ntmps48
  go_wp2_with (go_at_call 45; refine HI.out.mono ?_; rintro e w' ⟨rfl, rfl⟩)
  go_ret
  exact ⟨rfl, rfl⟩
theorem mul51 (a : Int) (h0 : 0 ≤ a) (h1 : a ≤ 18446744073709551615) (w : World) : Calls Try.prog 51 #[.int .u64 a, .int .u64 10] w fun e w' => e = .returned (.tuple #[.int .u64 (mulE a).1, .int .i64 (mulE a).2]) ∧ w = w' := by
  by_cases hz : a = 0
  · subst hz
    go_enter Try.func51, Try.ntmps51
    go_wp2
    go_ret2
    exact ⟨rfl, rfl⟩
  · have dz : (a != 0) = true := by simpa using hz
    obtain ⟨m, hm⟩ : ∃ m, IntKind.u64.wrap (a * 10) = m := ⟨_, rfl⟩
    have hmv : m = (a * 10) % 18446744073709551616 := by rw [← hm]; simp [IntKind.wrap, IntKind.bits, IntKind.signed]
    have hm0 : 0 ≤ m := by omega
    have hq : Int.tdiv m a = m / a := Int.tdiv_eq_ediv_of_nonneg hm0
    obtain ⟨q, hqq⟩ : ∃ q, m / a = q := ⟨_, rfl⟩
    have hq0 : 0 ≤ q := by rw [← hqq]; exact Int.ediv_nonneg hm0 h0
    have hq1 : q ≤ 18446744073709551615 := by rw [← hqq]; exact Int.le_trans (Int.ediv_le_self _ hm0) (by omega)
    have hw : IntKind.u64.wrap q = q := by simp [IntKind.wrap, IntKind.bits, IntKind.signed]; omega
    rw [hqq] at hq
    by_cases hb : 18446744073709551615 < a * 10
    · have e : mulE a = (0, 111) := by unfold mulE; rw [if_pos hb]
      have hlt : q < 10 := by
        rw [← hqq, Int.ediv_lt_iff_lt_mul (by omega)]
        rw [Int.mul_comm]
        omega
      have d : (q != 10) = true := by simp; omega
      rw [e]
      clear e hlt hb hqq hmv
      go_enter Try.func51, Try.ntmps51
      go_wp2
      go_ret2
      exact ⟨rfl, rfl⟩
    · have e : mulE a = (a * 10, 0) := by unfold mulE; rw [if_neg hb]
      have hma : m = a * 10 := by omega
      have hq10 : q = 10 := by rw [← hqq, hma, Int.mul_comm]; exact Int.mul_ediv_cancel _ hz
      have d : (q != 10) = false := by simp [hq10]
      rw [e, ← hma]
      clear e hb hqq hmv hma hq10
      go_enter Try.func51, Try.ntmps51
      go_wp2
      go_ret2
      exact ⟨rfl, rfl⟩
theorem add52 (a b : Int) (h0 : 0 ≤ a) (h1 : a ≤ 18446744073709551615) (g0 : 0 ≤ b) (g1 : b ≤ 20) (w : World) : Calls Try.prog 52 #[.int .u64 a, .int .u64 b] w fun e w' => e = .returned (.tuple #[.int .u64 (addE a b).1, .int .i64 (addE a b).2]) ∧ w = w' := by
  obtain ⟨m, hm⟩ : ∃ m, IntKind.u64.wrap (a + b) = m := ⟨_, rfl⟩
  have hmv : m = (a + b) % 18446744073709551616 := by rw [← hm]; simp [IntKind.wrap, IntKind.bits, IntKind.signed]
  by_cases hb : 18446744073709551615 < a + b
  · have e : addE a b = (0, 111) := by unfold addE; rw [if_pos hb]
    have d : decide (m < a) = true := by simp; omega
    rw [e]
    clear e hb hmv
    go_enter Try.func52, Try.ntmps52
    go_wp2
    go_ret2
    exact ⟨rfl, rfl⟩
  · have e : addE a b = (a + b, 0) := by unfold addE; rw [if_neg hb]
    have d : decide (m < a) = false := by simp; omega
    have hma : m = a + b := by omega
    rw [e, ← hma]
    clear e hb hmv hma
    go_enter Try.func52, Try.ntmps52
    go_wp2
    go_ret2
    exact ⟨rfl, rfl⟩
theorem bases36 (w : World) : Calls Try.prog 36 #[] w fun e w' => e = .returned (.agg #[.int .i64 10, .int .i64 16]) ∧ Below w.heap.size w w' := by
  go_enter Try.func36, Try.ntmps36
  go_wp2
  exact bodyPost_ret (v := .agg #[.int .i64 10, .int .i64 16]) (by simp [results, Try.results36, go_sem]) rfl ⟨rfl, (Below.refl _ w).alloc (Nat.le_refl _) _⟩
/-- One digit more. -/
def stepE (n c : Int) : Int × Int := if 18446744073709551615 < n * 10 + (c - 48) then (0, 111) else (n * 10 + (c - 48), 0)
theorem step50 (A Kb V : Nat) (S : ByteArray) (n c : Int) (h0 : 0 ≤ n) (h1 : n ≤ 18446744073709551615) (c0 : 48 ≤ c) (c1 : c ≤ 57) (w : World) (h : Rd A Kb V S w) : Calls Try.prog 50 #[.int .u64 n, .int .u8 c, .pointer (some ⟨A, 0, none⟩), .pointer (some ⟨V, 0, none⟩)] w fun e w' => e = .returned (.tuple #[.int .u64 (stepE n c).1, .int .i64 (stepE n c).2]) ∧ w = w' := by
  have HI := Lib.hid (value45 A Kb V S c (by omega) (by omega) w h)
  have HM := Lib.hid (mul51 n h0 h1 w)
  have a1 := cell_blk h.a 1 _ rfl
  have al := blk_lt h.a
  have v0 := cell_blk h.v 0 _ rfl
  have vl := blk_lt h.v
  have k10 : IntKind.u64.wrap 10 = 10 := by decide
  rw [atV_D10, if_pos ⟨c0, c1⟩] at HI
  by_cases ho : 18446744073709551615 < n * 10
  · have em : mulE n = (0, 111) := by unfold mulE; rw [if_pos ho]
    have es : stepE n c = (0, 111) := by unfold stepE; rw [if_pos (by omega)]
    rw [em] at HM
    rw [es]
    clear em es ho h
    go_enter Try.func50, Try.ntmps50
    go_wp2_with (go_at_call 51; refine HM.out.mono ?_; rintro e w' ⟨rfl, rfl⟩)
    go_ret2
    exact ⟨rfl, rfl⟩
  · have em : mulE n = (n * 10, 0) := by unfold mulE; rw [if_neg ho]
    have HA := Lib.hid (add52 (n * 10) (c - 48) (by omega) (by omega) (by omega) (by omega) w)
    have ea : addE (n * 10) (c - 48) = stepE n c := rfl
    rw [ea] at HA
    rw [em] at HM
    obtain ⟨d, hd⟩ : ∃ d, d = c - 48 := ⟨_, rfl⟩
    obtain ⟨t, ht⟩ : ∃ t, t = n * 10 := ⟨_, rfl⟩
    obtain ⟨x, hx⟩ : ∃ t, t = (stepE n c).1 := ⟨_, rfl⟩
    obtain ⟨y, hy⟩ : ∃ t, t = (stepE n c).2 := ⟨_, rfl⟩
    rw [← hd] at HI
    rw [← hd, ← ht, ← hx, ← hy] at HA
    rw [← ht] at HM
    rw [← hx, ← hy]
    have kd : IntKind.u64.wrap d = d := by simp [IntKind.wrap, IntKind.bits, IntKind.signed]; omega
    clear em ho h ea hd ht hx hy
    go_enter Try.func50, Try.ntmps50
    go_wp2_with (first | (go_at_call 51; refine HM.out.mono ?_; rintro e w' ⟨rfl, rfl⟩) | (go_at_call 45; refine HI.out.mono ?_; rintro e w' ⟨rfl, rfl⟩) | (go_at_call 52; refine HA.out.mono ?_; rintro e w' ⟨rfl, rfl⟩))
    go_ret2
    exact ⟨rfl, rfl⟩
end Go.Proofs.Ytfnojmkiajdoaaa
