/-
  WindowHolds, walked.
-/
import Derived.Test.YtagdenhcbafblaaI
namespace Go.Proofs.Ytagdenhcbafblaa
open Go.RowKit
set_option linter.unusedVariables false
set_option linter.unusedSimpArgs false

set_option maxHeartbeats 6400000 in
set_option maxRecDepth 100000 in
theorem holds_in (ao bo co : Option Addr) (na nb nc ca cb cc : Nat) (za zb zc : List Int) (w : World) (h1 : na ≤ 40) (h2 : nb ≤ 40) (h3 : nc ≤ 20) (ha : Arg w ao na za) (hb : Arg w bo nb zb) (hc : Arg w co nc zc) :
    Calls Try.prog 3 #[.slice ao na ca, .slice bo nb cb, .slice co nc cc] w (Yes w) := by
  have HNum := Lib.hid num_any
  have HW := Lib.hid works_true
  have HA := Lib.hid ha
  have HB := Lib.hid hb
  have HC := Lib.hid hc
  clear ha hb hc
  have hd1 : decide (40 < na) = false := by simp; omega
  have hd2 : decide (40 < nb) = false := by simp; omega
  have hd3 : decide (20 < nc) = false := by simp; omega
  go_enter Try.func3, Try.ntmps3
  go_wp2_with fail
  refine (New_wi w).mono ?_
  rintro e w0 ⟨rfl, hr, hb⟩
  obtain ⟨p, hp⟩ : ∃ p, p = w.heap.size := ⟨_, rfl⟩
  rw [← hp] at hr ⊢
  have hp2 : w.heap.size ≤ p := by omega
  have R0 := Lib.hid hr
  have B0 := Lib.hid hb
  clear hr hb hp hd1 hd2 hd3
  obtain ⟨mx, hmx⟩ : ∃ mx, mx = max na nb := ⟨_, rfl⟩
  have HMX := Lib.hid hmx
  clear hmx
  go_wp2
  go_loopg [8, 9, 10] mx (fun gk v8 v9 v10 wr => ∃ i : Nat, ∃ G T : Int, v8 = .int .u64 G ∧ v9 = .int .u64 T ∧ v10 = .int .i64 i ∧ i ≤ mx ∧ gk = mx - i ∧ 0 ≤ T ∧ T ≤ G ∧ G ≤ 100000 * i ∧ Wi wr p (G - T) T false ∧ Below w.heap.size w wr)
  case atStart => exact ⟨0, 0, 0, rfl, rfl, rfl, by omega, rfl, by omega, by omega, by omega, R0.out, B0.out⟩
  case round =>
    obtain ⟨i, G, T, rfl, rfl, rfl, hin, hgk, g1, g2, g3, hr, hb⟩ := hrel
    have HG := Lib.hid hgk
    have R := Lib.hid hr
    have B := Lib.hid hb
    clear hgk hr hb R0 B0
    by_cases hlt : i < mx
    · have hmx' := HMX.out
      have hi40 : i < 40 := by omega
      go_upto_region 6 with fail
      go_cut [43] (fun s wx => s = .bool true ∧ wx = wr)
      case first =>
        by_cases hab : na < nb
        · have q1 : i < nb := by omega
          have q2 : decide ((i : Int) < nb) = true := by simpa using q1
          have q3 : decide (i < nb) = true := by simpa using q1
          go_wp2
          go_meet
          exact ⟨rfl, rfl⟩
        · have q1 : i < na := by omega
          have q2 : decide ((i : Int) < na) = true := by simpa using q1
          have q3 : decide (i < na) = true := by simpa using q1
          go_wp2
          go_meet
          exact ⟨rfl, rfl⟩
      obtain ⟨rfl, hwc⟩ := hcut
      obtain rfl : wr = wc := hwc.symm
      go_upto_region 8 with fail
      clear hmx'
      obtain ⟨z, hz⟩ : ∃ z, z = za.getD i 0 := ⟨_, rfl⟩
      have HZ := Lib.hid hz
      obtain ⟨b, hbd⟩ : ∃ b, b = decide (i < na ∧ 0 ≤ z ∧ z ≤ 100000) := ⟨_, rfl⟩
      have HBD := Lib.hid hbd
      clear hz hbd
      go_cut [63] (fun s wx => s = .bool b ∧ wx = wr)
      case first =>
        by_cases c1 : i < na
        · obtain ⟨bk, off, rfl, hbk, hcell⟩ := HA.out.2 (by omega)
          have hci := (B.out.cell (p := ⟨bk, off + i, none⟩) hbk).trans (hcell i c1)
          rw [← HZ.out] at hci
          have t1 : decide ((i : Int) < na) = true := by simpa using c1
          have t1n : decide (i < na) = true := by simpa using c1
          clear hcell
          by_cases c2 : 0 ≤ z
          · have t2 : decide (0 ≤ z) = true := by simpa using c2
            by_cases c3 : z ≤ 100000
            · have t3 : decide (z ≤ 100000) = true := by simpa using c3
              go_wp2
              go_meet
              exact ⟨by rw [HBD.out]; simp; omega, rfl⟩
            · have t3 : decide (z ≤ 100000) = false := by simpa using c3
              go_wp2
              go_meet
              exact ⟨by rw [HBD.out]; simp; omega, rfl⟩
          · have t2 : decide (0 ≤ z) = false := by simpa using c2
            go_wp2
            go_meet
            exact ⟨by rw [HBD.out]; simp; omega, rfl⟩
        · have t1 : decide ((i : Int) < na) = false := by simpa using c1
          have t1n : decide (i < na) = false := by simpa using c1
          go_wp2
          go_meet
          exact ⟨by rw [HBD.out]; simp; omega, rfl⟩
      case rest =>
        obtain ⟨rfl, hwc⟩ := hcut
        obtain rfl : wr = wc := hwc.symm
        go_upto_if 63 with fail
        go_cut [8] (fun s wx => ∃ G', s = .int .u64 G' ∧ T ≤ G' ∧ G' ≤ 100000 * i + 100000 ∧ Wi wx p (G' - T) T false ∧ Below w.heap.size w wx)
        case first =>
          cases b with
          | false =>
            go_wp2
            go_meet
            exact ⟨G, rfl, by omega, by omega, R.out, B.out⟩
          | true =>
            have hall := of_decide_eq_true HBD.out.symm
            obtain ⟨c1, c2, c3⟩ := hall
            obtain ⟨bk, off, rfl, hbk, hcell⟩ := HA.out.2 (by omega)
            have hci := (B.out.cell (p := ⟨bk, off + i, none⟩) hbk).trans (hcell i c1)
            rw [← HZ.out] at hci
            obtain ⟨X, hX⟩ : ∃ X, X = G - T + z := ⟨_, rfl⟩
            have hN := Grant_small p (G - T) T z _ R.out c2 (by omega) (by omega)
            rw [← hX] at hN
            have HN := Lib.hid hN
            have e4 : G + z - T = X := by omega
            have HX := Lib.hid hX
            clear hN hX
            clear hcell
            go_wp2_with fail
            refine HN.out.mono ?_
            rintro e w1 ⟨rfl, hr, hm⟩
            have R1 := Lib.hid hr
            have B1 := Lib.hid (Wi.bel hm B.out hp2)
            clear hr hm hci HN
            go_wp2_with (go_at_call 10; refine (HNum.out _ _).mono ?_; rintro e w' ⟨rfl, rfl⟩)
            go_meet
            exact ⟨G + z, rfl, by omega, by omega, by rw [e4]; exact R1.out, B1.out⟩
        case rest =>
          obtain ⟨G', rfl, e1, e2, hr, hb⟩ := hcut
          have R1 := Lib.hid hr
          have B1 := Lib.hid hb
          clear hr hb R B HZ HBD
          go_upto_region 13 with fail
          obtain ⟨y, hy⟩ : ∃ y, y = zb.getD i 0 := ⟨_, rfl⟩
          have HY := Lib.hid hy
          obtain ⟨c, hcd⟩ : ∃ c, c = decide (i < nb ∧ 0 ≤ y ∧ y ≤ 100000) := ⟨_, rfl⟩
          have HCD := Lib.hid hcd
          clear hy hcd
          obtain ⟨W1, hW1⟩ : ∃ W1, W1 = wc := ⟨_, rfl⟩
          subst hW1
          go_cut [108] (fun s wx => s = .bool c ∧ wx = W1)
          case first =>
            by_cases c1 : i < nb
            · obtain ⟨bk, off, rfl, hbk, hcell⟩ := HB.out.2 (by omega)
              have hci := (B1.out.cell (p := ⟨bk, off + i, none⟩) hbk).trans (hcell i c1)
              rw [← HY.out] at hci
              have t1 : decide ((i : Int) < nb) = true := by simpa using c1
              have t1n : decide (i < nb) = true := by simpa using c1
              clear hcell
              by_cases c2 : 0 ≤ y
              · have t2 : decide (0 ≤ y) = true := by simpa using c2
                by_cases c3 : y ≤ 100000
                · have t3 : decide (y ≤ 100000) = true := by simpa using c3
                  go_wp2
                  go_meet
                  exact ⟨by rw [HCD.out]; simp; omega, rfl⟩
                · have t3 : decide (y ≤ 100000) = false := by simpa using c3
                  go_wp2
                  go_meet
                  exact ⟨by rw [HCD.out]; simp; omega, rfl⟩
              · have t2 : decide (0 ≤ y) = false := by simpa using c2
                go_wp2
                go_meet
                exact ⟨by rw [HCD.out]; simp; omega, rfl⟩
            · have t1 : decide ((i : Int) < nb) = false := by simpa using c1
              have t1n : decide (i < nb) = false := by simpa using c1
              go_wp2
              go_meet
              exact ⟨by rw [HCD.out]; simp; omega, rfl⟩
          case rest =>
            obtain ⟨rfl, hwc⟩ := hcut
            obtain rfl : W1 = wc := hwc.symm
            go_upto_if 108 with fail
            go_cut [9] (fun s wx => ∃ T', s = .int .u64 T' ∧ 0 ≤ T' ∧ T' ≤ G' ∧ Wi wx p (G' - T') T' false ∧ Below w.heap.size w wx)
            case first =>
              cases c with
              | false =>
                go_wp2
                go_meet
                exact ⟨T, rfl, by omega, by omega, R1.out, B1.out⟩
              | true =>
                obtain ⟨c1, c2, c3⟩ := of_decide_eq_true HCD.out.symm
                obtain ⟨bk, off, rfl, hbk, hcell⟩ := HB.out.2 (by omega)
                have hci := (B1.out.cell (p := ⟨bk, off + i, none⟩) hbk).trans (hcell i c1)
                rw [← HY.out] at hci
                obtain ⟨k, hk⟩ : ∃ k, k = min y (G' - T) := ⟨_, rfl⟩
                have hk1 : 0 ≤ k := by omega
                have hk2 : k ≤ y := by omega
                have hk3 : k ≤ G' - T := by omega
                have hN := Take_small p (G' - T) T y false _ R1.out c2 (by omega) (by omega)
                rw [← hk] at hN
                have HN := Lib.hid hN
                have t2 : decide (k < 0) = false := by simp; omega
                have t3 : decide (y < k) = false := by simp; omega
                clear hcell hk hN
                go_wp2_with fail
                refine HN.out.mono ?_
                rintro e w1 ⟨rfl, hr, hm⟩
                have hci2 := (hm.cell (p := ⟨bk, off + i, none⟩) (Nat.lt_of_lt_of_le hbk B1.out.size) (by show ¬ bk = p; omega)).trans hci
                have R2 := Lib.hid hr
                have B2 := Lib.hid (Wi.bel hm B1.out hp2)
                clear hr hm hci HN
                go_wp2_with (go_at_call 10; refine (HNum.out _ _).mono ?_; rintro e w' ⟨rfl, rfl⟩)
                go_meet
                exact ⟨T + k, rfl, by omega, by omega, by rw [show G' - (T + k) = G' - T - k by omega]; exact R2.out, B2.out⟩
            case rest =>
              obtain ⟨T', rfl, e3, e4, hr, hb⟩ := hcut
              obtain ⟨W2, hW2⟩ : ∃ W2, W2 = wc := ⟨_, rfl⟩
              subst hW2
              obtain ⟨X, hX⟩ : ∃ X, X = G' - T' := ⟨_, rfl⟩
              have hX2 : G' - T' = X := hX.symm
              have hr2 := hr
              rw [← hX] at hr
              have R2 := Lib.hid hr2
              have B2 := Lib.hid hb
              have HGo := Lib.hid (Gone_wi p _ _ _ _ hr)
              have HLe := Lib.hid (Left_wi p _ _ _ _ hr)
              have t1 : decide (G' < T') = false := by simp; omega
              have HX := Lib.hid hX
              clear hr hr2 hb R1 B1 HY HCD hX
              go_wp2_with (first | (go_at_call 12; refine HGo.out.mono ?_; rintro e w' ⟨rfl, rfl⟩) | (go_at_call 13; refine HLe.out.mono ?_; rintro e w' ⟨rfl, rfl⟩))
              go_roundg (mx - (i + 1))
              case measure => have := HG.out; omega
              case rel => exact ⟨i + 1, G', T', rfl, rfl, by go_num, by omega, rfl, by omega, by omega, by omega, R2.out, B2.out⟩
    · obtain rfl : i = mx := by omega
      go_upto_region 6 with fail
      go_cut [43] (fun s wx => s = .bool false ∧ wx = wr)
      case first =>
        have hmx' := HMX.out
        by_cases hab : na < nb
        · have q1 : i = nb := by omega
          clear hmx'
          subst q1
          go_wp2
          go_meet
          exact ⟨rfl, rfl⟩
        · have q1 : i = na := by omega
          clear hmx'
          subst q1
          go_wp2
          go_meet
          exact ⟨rfl, rfl⟩
      obtain ⟨rfl, hwc⟩ := hcut
      obtain rfl : wr = wc := hwc.symm
      obtain ⟨l, hl⟩ : ∃ l, l = G - T := ⟨_, rfl⟩
      have hr := R.out
      rw [← hl] at hr
      have R1 := Lib.hid hr
      have l0 : 0 ≤ l := by omega
      have l1 : l ≤ 4000000 := by have := HMX.out; omega
      have HCr := Lib.hid (HC.out.below B.out)
      clear hr R hl HA HB g1 g2 g3 HMX hin hlt HG
      go_wp2
      go_loopg [15, 18] nc (fun gk v15 v18 wx => ∃ j : Nat, ∃ A : Int, v15 = .int .u64 A ∧ v18 = .int .i64 j ∧ j ≤ nc ∧ gk = nc - j ∧ A = tot (zc.take j) ∧ 0 ≤ A ∧ A ≤ 100000 * j ∧ (∀ q, q < j → 0 ≤ zc.getD q 0 ∧ zc.getD q 0 ≤ 100000) ∧ wx = wr)
      case atStart => exact ⟨0, 0, rfl, rfl, by omega, rfl, rfl, by omega, by omega, fun q hq => by omega, rfl⟩
      case round =>
        obtain ⟨j, A, rfl, rfl, hjn, hgk, hA, A0, A1, hall, hwx⟩ := hrel
        subst hwx
        obtain ⟨W, hWW⟩ : ∃ W, W = wr := ⟨_, rfl⟩
        subst hWW
        have HG := Lib.hid hgk
        have HAA := Lib.hid hA
        have HAL := Lib.hid hall
        clear hgk hA hall
        by_cases hlt : j < nc
        · obtain ⟨bk, off, rfl, hbk, hcell⟩ := HCr.out.2 (by omega)
          obtain ⟨z, hz⟩ : ∃ z, z = zc.getD j 0 := ⟨_, rfl⟩
          have hci := hcell j hlt
          rw [← hz] at hci
          have HZ := Lib.hid hz
          clear hcell hz
          by_cases c1 : z < 0
          · have t1 : decide (z < 0) = true := by simpa using c1
            go_wp2_with (go_at_call 7; refine (HW.out _).mono ?_; rintro e w' ⟨rfl, hb⟩)
            go_ret
            exact ⟨rfl, B.out.trans (hb.mono B.out.size)⟩
          · have t1 : decide (z < 0) = false := by simpa using c1
            by_cases c2 : 100000 < z
            · have t2 : decide (100000 < z) = true := by simpa using c2
              go_wp2_with (go_at_call 7; refine (HW.out _).mono ?_; rintro e w' ⟨rfl, hb⟩)
              go_ret
              exact ⟨rfl, B.out.trans (hb.mono B.out.size)⟩
            · have t2 : decide (100000 < z) = false := by simpa using c2
              go_wp2
              go_roundg (nc - (j + 1))
              case measure => have := HG.out; omega
              case rel =>
                refine ⟨j + 1, A + z, rfl, by go_num, by omega, rfl, ?_, by omega, by omega, ?_, rfl⟩
                · rw [take_snoc zc j (by have := HC.out.1; omega), tot_snoc, ← HAA.out, ← HZ.out]
                · intro q hq
                  rcases Nat.lt_or_ge q j with h | h
                  · exact HAL.out q h
                  · obtain rfl : q = j := by omega
                    rw [← HZ.out]; omega
        · obtain rfl : j = nc := by omega
          have hS := Share_ok p l T false co j cc zc _ R1.out HCr.out (by omega) (fun q hq => ⟨(HAL.out q hq).1, by have := (HAL.out q hq).2; omega⟩)
          have HS := Lib.hid hS
          have Hn : Hid (∀ x ∈ zc.take j, (0 : Int) ≤ x) := Lib.hid (fun x hx => by
            obtain ⟨q, hq, rfl⟩ := List.mem_iff_getElem.1 hx
            have hq2 : q < j := by simp at hq; omega
            have := (HAL.out q hq2).1
            simpa [List.getD, show q < zc.length by have := HC.out.1; omega] using this)
          clear hS
          go_wp2_with fail
          refine HS.out.mono ?_
          rintro e w3 ⟨v, rfl, hown, hb⟩
          obtain ⟨ao4, cap4, rfl⟩ := row_slice hown
          have HV := Lib.hid (Arg.row hown)
          have HC3 := Lib.hid (HCr.out.below hb)
          have R3 := Lib.hid (R1.out.below hb)
          have B3 := Lib.hid (B.out.trans (hb.mono B.out.size))
          clear hown hb HS HCr R1 B
          go_wp2_with (go_at_call 10; refine (HNum.out _ _).mono ?_; rintro e w' ⟨rfl, rfl⟩)
          go_loopg [16, 17, 21] j (fun gk v16 v17 v21 wx => ∃ q : Nat, ∃ D : Int, ∃ b : Bool, v16 = .int .u64 D ∧ v17 = .bool b ∧ v21 = .int .i64 q ∧ q ≤ j ∧ gk = j - q ∧ D = l - restOf l (zc.take q) ∧ (b = true → restOf l (zc.take q) = 0) ∧ ∃ m, wx = w3.drewN m)
          case atStart => exact ⟨0, 0, false, rfl, rfl, rfl, by omega, rfl, by simp [restOf], (fun h => by cases h), 0, rfl⟩
          case round =>
            obtain ⟨q, D, b, rfl, rfl, rfl, hqj, hgk, hD, hb, m, hwx⟩ := hrel
            have HG2 := Lib.hid hgk
            obtain ⟨rs, hrs⟩ : ∃ rs, rs = restOf l (zc.take q) := ⟨_, rfl⟩
            have hrb : 0 ≤ rs ∧ rs ≤ l := by
              rw [hrs]
              exact restOf_le l _ l (fun x hx => by
                refine Hn.out x ?_
                have : zc.take q = (zc.take j).take q := by rw [List.take_take]; congr 1; omega
                rw [this] at hx
                exact List.mem_of_mem_take hx) l0 (Int.le_refl _)
            rw [← hrs] at hD hb
            have HRS := Lib.hid hrs
            have HW3 := Lib.hid hwx
            have D0 : 0 ≤ D := by omega
            have D1 : D ≤ 4000000 := by omega
            have HD := Lib.hid hD
            have HBZ := Lib.hid hb
            have HV2 : Hid (Arg wr ao4 j (shareOf l (zc.take j))) := by rw [hwx]; exact HV
            have HC2 : Hid (Arg wr co j zc) := by rw [hwx]; exact HC3
            have R4 : Hid (Wi wr p l T false) := by rw [hwx]; exact Lib.hid (R3.out.drewN m)
            have B4 : Hid (Below w.heap.size w wr) := by rw [hwx]; exact Lib.hid (Below.drN B3.out m)
            clear hgk hrs hwx hD hb
            by_cases hq : q < j
            · obtain ⟨bk, off, rfl, hbk, hcell⟩ := HC2.out.2 (by omega)
              obtain ⟨bk2, off2, rfl, hbk2, hcell2⟩ := HV2.out.2 (by omega)
              obtain ⟨z, hz⟩ : ∃ z, z = zc.getD q 0 := ⟨_, rfl⟩
              obtain ⟨y, hy⟩ : ∃ y, y = min z rs := ⟨_, rfl⟩
              have hci := hcell q hq
              have hci2 := hcell2 q hq
              rw [shareOf_get zc l j q hq HC.out.1, ← hz, ← HRS.out, ← hy] at hci2
              rw [← hz] at hci
              have z0 : 0 ≤ z := by rw [hz]; exact (HAL.out q hq).1
              have y0 : 0 ≤ y := by omega
              have y1 : y ≤ z := by omega
              have y2 : y ≤ rs := by omega
              have t1 : decide (y < 0) = false := by simp; omega
              have t2 : decide (z < y) = false := by simp; omega
              have HY := Lib.hid hy
              have HZ := Lib.hid hz
              have hnext : restOf l (zc.take (q + 1)) = rs - y := by
                rw [take_snoc zc q (by have := HC.out.1; omega), (shareOf_snoc _ _ _).2, ← HRS.out, ← HZ.out, ← HY.out]
              have HNX := Lib.hid hnext
              clear hcell hcell2 hy hz hnext
              cases b with
              | true =>
                have hrz := HBZ.out rfl
                have t3 : decide (0 < y) = false := by simp; omega
                go_wp2
                go_quiet (fail)
                go_wp2
                go_quiet (fail)
                go_wp2
                go_roundg (j - (q + 1))
                case measure => have := HG2.out; omega
                case rel => exact ⟨q + 1, D + y, true, rfl, rfl, by go_num, by omega, rfl, by rw [HNX.out, HD.out]; omega, fun _ => by rw [HNX.out]; omega, _, by rw [HW3.out]; first | exact World.drewN_drewN _ _ _ | rw [World.drewN_drewN, World.drewN_drewN]⟩
              | false =>
                by_cases hyz : y < z
                · have t3 : decide (y < z) = true := by simpa using hyz
                  go_wp2
                  go_quiet (fail)
                  go_wp2
                  go_quiet (fail)
                  go_wp2
                  go_roundg (j - (q + 1))
                  case measure => have := HG2.out; omega
                  case rel => exact ⟨q + 1, D + y, true, rfl, rfl, by go_num, by omega, rfl, by rw [HNX.out, HD.out]; omega, fun _ => by rw [HNX.out]; have := HY.out; omega, _, by rw [HW3.out]; first | exact World.drewN_drewN _ _ _ | rw [World.drewN_drewN, World.drewN_drewN]⟩
                · have t3 : decide (y < z) = false := by simpa using hyz
                  go_wp2
                  go_quiet (fail)
                  go_wp2
                  go_quiet (fail)
                  go_wp2
                  go_roundg (j - (q + 1))
                  case measure => have := HG2.out; omega
                  case rel => exact ⟨q + 1, D + y, false, rfl, rfl, by go_num, by omega, rfl, by rw [HNX.out, HD.out]; omega, (fun h => by cases h), _, by rw [HW3.out]; first | exact World.drewN_drewN _ _ _ | rw [World.drewN_drewN, World.drewN_drewN]⟩
            · obtain rfl : q = j := by omega
              have key := restOf_tot (zc.take q) l Hn.out l0
              rw [← HRS.out, ← HD.out, ← HAA.out] at key
              have HL := Lib.hid (Left_wi p _ _ _ _ R4.out)
              rcases (show (A < l ∧ D = A) ∨ (l < A ∧ D = l) ∨ (A = l ∧ D = l) by omega) with ⟨k1, k2⟩ | ⟨k1, k2⟩ | ⟨k1, k2⟩
              all_goals
                clear key HAA HD
                subst k2
                try subst k1
                go_wp2_with (first | (go_at_call 13; refine HL.out.mono ?_; rintro e w' ⟨rfl, rfl⟩) | (go_at_call 7; refine (HW.out _).mono ?_; rintro e w' ⟨rfl, hb⟩))
                go_ret
                exact ⟨rfl, B4.out.trans (hb.mono B4.out.size)⟩
end Go.Proofs.Ytagdenhcbafblaa
