/-
  Digits: the document's.
-/
import Derived.Test.YtfnojmkiajdoaaaB
import Derived.Test.YtfnojmkiajdoaaaOrd
namespace Go.Proofs.Ytfnojmkiajdoaaa
open Go.RowKit
set_option linter.unusedVariables false
set_option linter.unusedSimpArgs false

/-- A byte's value, as a digit. -/
def dgV (x : Int) : Int := if 48 ≤ x ∧ x ≤ 57 then x - 48 else if 97 ≤ x ∧ x ≤ 102 then x - 87 else if 65 ≤ x ∧ x ≤ 70 then x - 55 else 16
theorem dgV_range {x : Int} (h0 : 0 ≤ x) : 0 ≤ dgV x ∧ dgV x ≤ 16 ∧ (dgV x < 10 ↔ (48 ≤ x ∧ x ≤ 57)) := by
  unfold dgV
  split
  · omega
  split
  · omega
  split <;> omega
theorem refDigit53 (x : Int) (h0 : 0 ≤ x) (h1 : x < 256) (w : World) : Calls Try.prog 53 #[.int .u8 x] w fun e w' => e = .returned (.int .u64 (dgV x)) ∧ w = w' := by
  by_cases hd : 48 ≤ x ∧ x ≤ 57
  · have e : dgV x = x - 48 := by unfold dgV; rw [if_pos hd]
    obtain ⟨a, b⟩ := hd
    have d1 : decide (48 ≤ x) = true := by simpa using a
    have d2 : decide (x ≤ 57) = true := by simpa using b
    have k1 : IntKind.u8.wrap (x - 48) = x - 48 := by simp [IntKind.wrap, IntKind.bits, IntKind.signed]; omega
    have k2 : IntKind.u64.wrap (x - 48) = x - 48 := by simp [IntKind.wrap, IntKind.bits, IntKind.signed]; omega
    rw [e]
    clear e
    go_enter Try.func53, Try.ntmps53
    go_wp2
    go_ret
    exact ⟨rfl, rfl⟩
  by_cases he : 97 ≤ x ∧ x ≤ 102
  · have e : dgV x = x - 87 := by unfold dgV; rw [if_neg hd, if_pos he]
    obtain ⟨a, b⟩ := he
    have d1 : decide (48 ≤ x) = true := by simp; omega
    have d2 : decide (x ≤ 57) = false := by simp; omega
    have d3 : decide (97 ≤ x) = true := by simp; omega
    have d4 : decide (x ≤ 102) = true := by simp; omega
    have k1 : IntKind.u8.wrap (x - 97) = x - 97 := by simp [IntKind.wrap, IntKind.bits, IntKind.signed]; omega
    have k2 : IntKind.u64.wrap (x - 97) = x - 97 := by simp [IntKind.wrap, IntKind.bits, IntKind.signed]; omega
    have k3 : IntKind.u64.wrap (x - 97 + 10) = x - 87 := by simp [IntKind.wrap, IntKind.bits, IntKind.signed]; omega
    rw [e]
    clear e hd a b
    go_enter Try.func53, Try.ntmps53
    go_wp2
    go_ret
    exact ⟨rfl, rfl⟩
  by_cases hg : 65 ≤ x ∧ x ≤ 70
  · have e : dgV x = x - 55 := by unfold dgV; rw [if_neg hd, if_neg he, if_pos hg]
    obtain ⟨a, b⟩ := hg
    have d1 : decide (48 ≤ x) = true := by simp; omega
    have d2 : decide (x ≤ 57) = false := by simp; omega
    have d3 : decide (97 ≤ x) = false := by simp; omega
    have d5 : decide (65 ≤ x) = true := by simp; omega
    have d6 : decide (x ≤ 70) = true := by simp; omega
    have k1 : IntKind.u8.wrap (x - 65) = x - 65 := by simp [IntKind.wrap, IntKind.bits, IntKind.signed]; omega
    have k2 : IntKind.u64.wrap (x - 65) = x - 65 := by simp [IntKind.wrap, IntKind.bits, IntKind.signed]; omega
    have k3 : IntKind.u64.wrap (x - 65 + 10) = x - 55 := by simp [IntKind.wrap, IntKind.bits, IntKind.signed]; omega
    rw [e]
    clear e hd he a b
    go_enter Try.func53, Try.ntmps53
    go_wp2
    go_ret
    exact ⟨rfl, rfl⟩
  · have e : dgV x = 16 := by unfold dgV; rw [if_neg hd, if_neg he, if_neg hg]
    obtain ⟨b1, hb1⟩ : ∃ b, decide (48 ≤ x) = b := ⟨_, rfl⟩
    obtain ⟨b2, hb2⟩ : ∃ b, decide (x ≤ 57) = b := ⟨_, rfl⟩
    obtain ⟨b3, hb3⟩ : ∃ b, decide (97 ≤ x) = b := ⟨_, rfl⟩
    obtain ⟨b4, hb4⟩ : ∃ b, decide (x ≤ 102) = b := ⟨_, rfl⟩
    obtain ⟨b5, hb5⟩ : ∃ b, decide (65 ≤ x) = b := ⟨_, rfl⟩
    obtain ⟨b6, hb6⟩ : ∃ b, decide (x ≤ 70) = b := ⟨_, rfl⟩
    have c1 : b1 = false ∨ b2 = false := by rw [← hb1, ← hb2]; simp; omega
    have c2 : b3 = false ∨ b4 = false := by rw [← hb3, ← hb4]; simp; omega
    have c3 : b5 = false ∨ b6 = false := by rw [← hb5, ← hb6]; simp; omega
    rw [e]
    clear e hd he hg h0 h1
    rcases c1 with rfl | rfl <;> rcases c2 with rfl | rfl <;> rcases c3 with rfl | rfl <;>
    · go_enter Try.func53, Try.ntmps53
      go_wp2
      all_goals (go_ret; exact ⟨rfl, rfl⟩)
/-- a * 10, or too much. -/
def mulE (a : Int) : Int × Int := if 18446744073709551615 < a * 10 then (0, 111) else (a * 10, 0)
def addE (a b : Int) : Int × Int := if 18446744073709551615 < a + b then (0, 111) else (a + b, 0)
theorem refMul54 (a : Int) (h0 : 0 ≤ a) (h1 : a ≤ 18446744073709551615) (w : World) : Calls Try.prog 54 #[.int .u64 a, .int .u64 10] w fun e w' => e = .returned (.tuple #[.int .u64 (mulE a).1, .int .i64 (mulE a).2]) ∧ w = w' := by
  by_cases hz : a = 0
  · subst hz
    go_enter Try.func54, Try.ntmps54
    go_wp2
    go_ret2
    exact ⟨rfl, rfl⟩
  · have dz : (a != 0) = true := by simpa using hz
    have hq : Int.tdiv 18446744073709551615 a = 18446744073709551615 / a := Int.tdiv_eq_ediv_of_nonneg (by decide)
    obtain ⟨q, hqq⟩ : ∃ q, 18446744073709551615 / a = q := ⟨_, rfl⟩
    have hlt : q < 10 ↔ 18446744073709551615 < a * 10 := by
      rw [← hqq, Int.ediv_lt_iff_lt_mul (by omega)]
      rw [Int.mul_comm]
    have hq0 : 0 ≤ q := by rw [← hqq]; exact Int.ediv_nonneg (by decide) h0
    have hq1 : q ≤ 18446744073709551615 := by rw [← hqq]; exact Int.ediv_le_self _ (by decide)
    have hw : IntKind.u64.wrap q = q := by simp [IntKind.wrap, IntKind.bits, IntKind.signed]; omega
    rw [hqq] at hq
    by_cases hb : 18446744073709551615 < a * 10
    · have e : mulE a = (0, 111) := by unfold mulE; rw [if_pos hb]
      have d : decide (q < 10) = true := by simpa using hlt.2 hb
      rw [e]
      clear e hlt hb hqq
      go_enter Try.func54, Try.ntmps54
      go_wp2
      go_ret2
      exact ⟨rfl, rfl⟩
    · have e : mulE a = (a * 10, 0) := by unfold mulE; rw [if_neg hb]
      have d : decide (q < 10) = false := by simp; have := mt hlt.1 hb; omega
      have hw2 : IntKind.u64.wrap (a * 10) = a * 10 := by simp [IntKind.wrap, IntKind.bits, IntKind.signed]; omega
      rw [e]
      clear e hlt hb hqq
      go_enter Try.func54, Try.ntmps54
      go_wp2
      go_ret2
      exact ⟨rfl, rfl⟩
theorem refAdd55 (a b : Int) (h0 : 0 ≤ a) (h1 : a ≤ 18446744073709551615) (g0 : 0 ≤ b) (g1 : b ≤ 20) (w : World) : Calls Try.prog 55 #[.int .u64 a, .int .u64 b] w fun e w' => e = .returned (.tuple #[.int .u64 (addE a b).1, .int .i64 (addE a b).2]) ∧ w = w' := by
  have hw : IntKind.u64.wrap (18446744073709551615 - a) = 18446744073709551615 - a := by simp [IntKind.wrap, IntKind.bits, IntKind.signed]; omega
  by_cases hb : 18446744073709551615 < a + b
  · have e : addE a b = (0, 111) := by unfold addE; rw [if_pos hb]
    have d : decide (18446744073709551615 - a < b) = true := by simp; omega
    rw [e]
    clear e hb
    go_enter Try.func55, Try.ntmps55
    go_wp2
    go_ret2
    exact ⟨rfl, rfl⟩
  · have e : addE a b = (a + b, 0) := by unfold addE; rw [if_neg hb]
    have d : decide (18446744073709551615 - a < b) = false := by simp; omega
    have hw2 : IntKind.u64.wrap (a + b) = a + b := by simp [IntKind.wrap, IntKind.bits, IntKind.signed]; omega
    rw [e]
    clear e hb
    go_enter Try.func55, Try.ntmps55
    go_wp2
    go_ret2
    exact ⟨rfl, rfl⟩
/-- What is told of a number. -/
def resN : Option Int → Int × Int
  | none => (0, 111)
  | some n => (n, 0)
theorem numF_drop {xs : List Int} {i : Nat} {x : Int} (h : xs[i]? = some x) (v : Int) : numF v (xs.drop i) = if 18446744073709551615 < v * 10 + (x - 48) then none else numF (v * 10 + (x - 48)) (xs.drop (i + 1)) := by
  obtain ⟨hl, hx⟩ := List.getElem?_eq_some_iff.1 h
  rw [List.drop_eq_getElem_cons hl, hx]
  rfl
theorem allD_iff (xs : List Int) : allD xs = true ↔ ∀ (i : Nat) (x : Int), xs[i]? = some x → 48 ≤ x ∧ x ≤ 57 := by
  unfold allD
  rw [List.all_eq_true]
  constructor
  · intro h i x hx
    simpa using h x (List.mem_of_getElem? hx)
  · intro h x hx
    obtain ⟨i, hi⟩ := List.getElem?_of_mem hx
    simpa using h i x hi
set_option maxHeartbeats 3200000 in
theorem refRead38 (xs : List Int) (hb : Byt xs) (hl : xs.length ≤ 100000) (w : World) : Calls Try.prog 38 #[.string (strOfNums xs), .int .u64 10] w fun e w' => e = .returned (.tuple #[.int .u64 (digF xs).1, .int .i64 (digF xs).2]) ∧ w = w' := by
  obtain ⟨S, hS⟩ : ∃ S, S = strOfNums xs := ⟨_, rfl⟩
  obtain ⟨n, hn⟩ : ∃ n, n = xs.length := ⟨_, rfl⟩
  have hsz : S.size = n := by rw [hS, strOfNums_size, hn]
  have HG : Hid (∀ i, i < n → ∃ x : Int, xs[i]? = some x ∧ (∀ h : i < S.size, ((S[i]'h).toNat : Int) = x) ∧ 0 ≤ x ∧ x < 256) := Lib.hid fun i hi => by
    have hx : xs[i]? = some xs[i] := List.getElem?_eq_getElem (by omega)
    have hm := List.getElem_mem (l := xs) (n := i) (by omega)
    exact ⟨xs[i], hx, by intro h; subst hS; exact str_get xs i _ hx (hb _ hm).1 (hb _ hm).2 h, (hb _ hm).1, (hb _ hm).2⟩
  have hl2 : n ≤ 100000 := by omega
  obtain ⟨r1, hr1⟩ : ∃ r, r = (digF xs).1 := ⟨_, rfl⟩
  obtain ⟨r2, hr2⟩ : ∃ r, r = (digF xs).2 := ⟨_, rfl⟩
  have HR : Hid ((r1, r2) = digF xs) := Lib.hid (by rw [hr1, hr2])
  have HN := Lib.hid hn
  have HD := Lib.hid (fun x (h0 : 0 ≤ x) (h1 : x < 256) => refDigit53 x h0 h1 w)
  have HM := Lib.hid (fun a (h0 : 0 ≤ a) (h1 : a ≤ 18446744073709551615) => refMul54 a h0 h1 w)
  have HA := Lib.hid (fun a b (h0 : 0 ≤ a) (h1 : a ≤ 18446744073709551615) (g0 : 0 ≤ b) (g1 : b ≤ 20) => refAdd55 a b h0 h1 g0 g1 w)
  rw [← hS, ← hr1, ← hr2]
  clear hS hr1 hr2 hb hl
  by_cases hn0 : n = 0
  · have e : digF xs = (0, 110) := by
      have : xs = [] := List.eq_nil_of_length_eq_zero (by omega)
      subst this; rfl
    have h2 := HR.out.trans e
    injection h2 with h3 h4
    subst h3 h4 hn0
    clear hn
    go_enter Try.func38, Try.ntmps38
    go_wp2
    go_ret2
    exact ⟨rfl, rfl⟩
  have d0 : ((n : Int) == 0) = false := by simpa using hn0
  clear hn
  go_enter Try.func38, Try.ntmps38
  go_upto_region 4 with fail
  go_loopg [6] n (fun gk v6 wr => ∃ i : Nat, v6 = .int .i64 i ∧ i ≤ n ∧ gk = n - i ∧ wr = w ∧ ∀ (j : Nat) (x : Int), j < i → xs[j]? = some x → 48 ≤ x ∧ x ≤ 57)
  case atStart => exact ⟨0, rfl, by omega, rfl, rfl, fun j x hj => by omega⟩
  case round =>
    obtain ⟨i, rfl, hin, hgk, rfl, hall⟩ := hrel
    have HAll := Lib.hid hall
    have HGK := Lib.hid hgk
    clear hall hgk
    by_cases hi : i < n
    · obtain ⟨x, hx, hg, h0, h1⟩ := HG.out i hi
      have hi2 : (i : Int) < n := by omega
      have hr := dgV_range h0
      have HX := Lib.hid hx
      obtain ⟨d, hd⟩ : ∃ d, d = dgV x := ⟨_, rfl⟩
      have HC := Lib.hid (HD.out x h0 h1)
      rw [← hd] at HC hr
      clear hx hd
      by_cases hdig : 48 ≤ x ∧ x ≤ 57
      · have hlt := hr.2.2.2 hdig
        have dd : decide (10 ≤ d) = false := by simp; omega
        have HDg := Lib.hid hdig
        clear hr hlt hdig
        go_wp2_with (go_at_call 53; refine HC.out.mono ?_; rintro e w' ⟨rfl, rfl⟩)
        go_roundg (n - (i + 1))
        case measure => have := HGK.out; omega
        case rel => exact ⟨i + 1, by go_num, by omega, rfl, rfl, fun j y hj hy => by
          rcases Nat.lt_or_ge j i with h | h
          · exact HAll.out j y h hy
          · obtain rfl : j = i := by omega
            rw [HX.out] at hy
            cases hy
            exact HDg.out⟩
      · have hge : 10 ≤ d := by
          rcases Int.lt_or_le d 10 with h | h
          · exact absurd (hr.2.2.1 h) hdig
          · exact h
        have dd : decide (10 ≤ d) = true := by simpa using hge
        have e : digF xs = (0, 110) := by
          have ha : allD xs = false := by
            cases ha : allD xs with
            | false => rfl
            | true => exact absurd ((allD_iff xs).1 ha i x HX.out) hdig
          unfold digF
          rw [if_pos (.inr ha)]
        have h2 := HR.out.trans e
        injection h2 with h3 h4
        subst h3 h4
        clear hr hge hdig e
        go_wp2_with (go_at_call 53; refine HC.out.mono ?_; rintro e w' ⟨rfl, rfl⟩)
        go_ret2
        exact ⟨rfl, rfl⟩
    · obtain rfl : i = n := by omega
      have hD : allD xs = true := (allD_iff xs).2 fun j y hy => HAll.out j y (by rw [HN.out]; exact (List.getElem?_eq_some_iff.1 hy).1) hy
      have HAD := Lib.hid hD
      have e : digF xs = resN (numF 0 xs) := by
        have hno : ¬ (xs = [] ∨ allD xs = false) := by
          rintro (h | h)
          · apply hn0; rw [HN.out, h]; rfl
          · rw [hD] at h; cases h
        unfold digF
        rw [if_neg hno]
        cases numF 0 xs <;> rfl
      have HE := Lib.hid e
      clear hD e HGK HAll
      go_upto_region 10 with fail
      go_loopg [7, 8] i (fun gk v7 v8 wq => ∃ (j : Nat) (v : Int), v7 = .int .u64 v ∧ v8 = .int .i64 j ∧ j ≤ i ∧ gk = i - j ∧ wq = wr ∧ 0 ≤ v ∧ v ≤ 18446744073709551615 ∧ numF 0 xs = numF v (xs.drop j))
      case atStart => exact ⟨0, 0, rfl, rfl, by omega, rfl, rfl, by omega, by omega, rfl⟩
      case round =>
        obtain ⟨j, v, rfl, rfl, hjn, hgk, rfl, hv0, hv1, hnum⟩ := hrel
        have HNum := Lib.hid hnum
        have HGK := Lib.hid hgk
        clear hnum hgk
        by_cases hj : j < i
        · obtain ⟨x, hx, hg, h0, h1⟩ := HG.out j hj
          have hj2 : (j : Int) < i := by omega
          have hdig := (allD_iff xs).1 HAD.out j x hx
          have hdv : dgV x = x - 48 := by unfold dgV; rw [if_pos hdig]
          have hstep := numF_drop hx v
          rw [← HNum.out] at hstep
          have HC := Lib.hid (HD.out x h0 h1)
          have HMu := Lib.hid (HM.out v hv0 hv1)
          rw [hdv] at HC
          by_cases ho : 18446744073709551615 < v * 10
          · have em : mulE v = (0, 111) := by unfold mulE; rw [if_pos ho]
            rw [em] at HMu
            rw [if_pos (by omega)] at hstep
            have e2 := HE.out
            rw [hstep] at e2
            have h2 := HR.out.trans e2
            injection h2 with h3 h4
            subst h3 h4
            clear hstep e2 em ho hdv hx hdig
            go_wp2_with (go_at_call 54; refine HMu.out.mono ?_; rintro e w' ⟨rfl, rfl⟩)
            go_ret2
            exact ⟨rfl, rfl⟩
          · have em : mulE v = (v * 10, 0) := by unfold mulE; rw [if_neg ho]
            rw [em] at HMu
            obtain ⟨d, hd⟩ : ∃ d, d = x - 48 := ⟨_, rfl⟩
            rw [← hd] at HC hstep
            obtain ⟨t, ht⟩ : ∃ t, t = v * 10 := ⟨_, rfl⟩
            rw [← ht] at HMu hstep
            have HAd := Lib.hid (HA.out t d (by omega) (by omega) (by omega) (by omega))
            by_cases ho2 : 18446744073709551615 < t + d
            · have ea : addE t d = (0, 111) := by unfold addE; rw [if_pos ho2]
              rw [ea] at HAd
              rw [if_pos ho2] at hstep
              have e2 := HE.out
              rw [hstep] at e2
              have h2 := HR.out.trans e2
              injection h2 with h3 h4
              subst h3 h4
              clear hstep e2 em ho ho2 ea hdv hx hdig hd ht
              go_wp2_with (first | (go_at_call 54; refine HMu.out.mono ?_; rintro e w' ⟨rfl, rfl⟩) | (go_at_call 53; refine HC.out.mono ?_; rintro e w' ⟨rfl, rfl⟩) | (go_at_call 55; refine HAd.out.mono ?_; rintro e w' ⟨rfl, rfl⟩))
              go_ret2
              exact ⟨rfl, rfl⟩
            · have ea : addE t d = (t + d, 0) := by unfold addE; rw [if_neg ho2]
              rw [ea] at HAd
              rw [if_neg ho2] at hstep
              obtain ⟨u, hu⟩ : ∃ u, u = t + d := ⟨_, rfl⟩
              rw [← hu] at HAd hstep
              have hu0 : 0 ≤ u := by omega
              have hu1 : u ≤ 18446744073709551615 := by omega
              have HS := Lib.hid hstep
              clear hstep em ho ho2 ea hdv hx hdig hd ht hu
              go_wp2_with (first | (go_at_call 54; refine HMu.out.mono ?_; rintro e w' ⟨rfl, rfl⟩) | (go_at_call 53; refine HC.out.mono ?_; rintro e w' ⟨rfl, rfl⟩) | (go_at_call 55; refine HAd.out.mono ?_; rintro e w' ⟨rfl, rfl⟩))
              go_roundg (i - (j + 1))
              case measure => have := HGK.out; omega
              case rel => exact ⟨j + 1, u, rfl, by go_num, by omega, rfl, rfl, hu0, hu1, HS.out⟩
        · obtain rfl : j = i := by omega
          have hd : xs.drop j = [] := List.drop_eq_nil_of_le (by rw [HN.out]; exact Nat.le_refl _)
          have e2 := HE.out
          rw [HNum.out, hd] at e2
          have h2 := HR.out.trans e2
          injection h2 with h3 h4
          subst h3 h4
          clear hd e2
          go_wp2
          go_ret2
          exact ⟨rfl, rfl⟩
theorem refDigits26 (xs : List Int) (hb : Byt xs) (hl : xs.length ≤ 100000) (w : World) : Calls Try.prog 26 #[.string (strOfNums xs)] w fun e w' => e = .returned (.tuple #[.int .u64 (digF xs).1, .int .i64 (digF xs).2]) ∧ w = w' := by
  have HR := Lib.hid (refRead38 xs hb hl w)
  clear hb hl
  go_enter Try.func26, Try.ntmps26
  go_wp2_with (go_at_call 38; refine HR.out.mono ?_; rintro e w' ⟨rfl, rfl⟩)
  go_ret2
  exact ⟨rfl, rfl⟩
end Go.Proofs.Ytfnojmkiajdoaaa
