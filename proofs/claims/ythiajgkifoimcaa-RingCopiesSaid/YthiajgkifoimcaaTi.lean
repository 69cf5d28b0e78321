/-
  A call by both: Drop, Set, Copy.
-/
import Derived.Test.YthiajgkifoimcaaTh
namespace Go.Proofs.Ythiajgkifoimcaa
open Go.RowKit
set_option linter.unusedVariables false
set_option linter.unusedSimpArgs false

/-- A drop, by both. -/
theorem drop_both (F m : Int) (L : List Int) (n : Nat) (hL : L.length = n) (hb : 0 ≤ F ∧ F + n ≤ 18446744073709551615 ∧ (n : Int) ≤ m ∧ 1 ≤ m ∧ m ≤ 4096) :
    ∃ (F' y : Int) (b : Bool) (L' : List Int),
      (∀ (base p : Nat) (sv : Value) (w : World), Ring w base p F m sv L → base ≤ w.heap.size → Calls Try.prog 12 #[.pointer (some ⟨p, 0, none⟩)] w fun e w' => e = .returned (.tuple #[.int .i64 y, .bool b]) ∧ ∃ sv', Ring w' base p F' m sv' L' ∧ Step p sv sv' w w') ∧
      (∀ (lo : Nat) (ao : Option Addr) (cap : Nat) (w : World), lo ≤ w.heap.size → RL w lo ao n cap L → Calls Try.prog 31 #[ragg ao n cap F m] w fun e w' => ∃ ao' n' cap', e = .returned (.tuple #[ragg ao' n' cap' F' m, .int .i64 y, .bool b]) ∧ RL w' lo ao' n' cap' L' ∧ Fr ao n ao' n' w.heap.size ∧ Below w.heap.size w w') := by
  obtain ⟨h0, h1, h2, h3, h4⟩ := hb
  cases L with
  | nil =>
    obtain rfl : n = 0 := by simpa using hL.symm
    refine ⟨F, 0, false, [], fun base p sv w h hbw => ?_, fun lo ao cap w hlo h => ?_⟩
    · refine (Drop_ring_none base p F m sv w h).mono ?_
      rintro e w' ⟨rfl, hb⟩
      exact ⟨rfl, sv, h.below hb, Step.of_below hb⟩
    · refine (refDrop_none ao cap F m w).mono ?_
      rintro e w' ⟨rfl, hb⟩
      exact ⟨ao, 0, cap, rfl, h.below hb, fun b off hp e => by omega, hb⟩
  | cons y L0 =>
    obtain ⟨k, rfl⟩ : ∃ k, n = k + 1 := ⟨L0.length, by simpa using hL.symm⟩
    refine ⟨F + 1, y, true, L0, fun base p sv w h hbw => Drop_ring_some base p F m y sv L0 w h hbw, fun lo ao cap w hlo h => ?_⟩
    refine (refDrop_some lo ao k cap F m y L0 w h (by omega) h0 (by omega)).mono ?_
    rintro e w' ⟨ao', cap', rfl, hr', hbk, hb⟩
    exact ⟨ao', k, cap', rfl, hr', fun b off hp e => .inl ⟨by omega, hbk b off e⟩, hb⟩

/-- A set, by both. -/
theorem set_both (F m at' val : Int) (L : List Int) (n : Nat) (hL : L.length = n) (hb : 0 ≤ F ∧ F + n ≤ 18446744073709551615 ∧ (n : Int) ≤ m ∧ 1 ≤ m ∧ m ≤ 4096) (ha0 : 0 ≤ at') (ha1 : at' ≤ 18446744073709551615) :
    ∃ (y : Int) (b : Bool) (L' : List Int),
      (∀ (base p : Nat) (sv : Value) (w : World), Ring w base p F m sv L → base ≤ w.heap.size → Calls Try.prog 22 #[.pointer (some ⟨p, 0, none⟩), .int .u64 at', .int .i64 val] w fun e w' => e = .returned (.tuple #[.int .i64 y, .bool b]) ∧ ∃ sv', Ring w' base p F m sv' L' ∧ Step p sv sv' w w') ∧
      (∀ (lo : Nat) (ao : Option Addr) (cap : Nat) (w : World), lo ≤ w.heap.size → RL w lo ao n cap L → Calls Try.prog 32 #[ragg ao n cap F m, .int .u64 at', .int .i64 val] w fun e w' => ∃ ao' n' cap', e = .returned (.tuple #[ragg ao' n' cap' F m, .int .i64 y, .bool b]) ∧ RL w' lo ao' n' cap' L' ∧ Fr ao n ao' n' w.heap.size ∧ Below w.heap.size w w') := by
  obtain ⟨h0, h1, h2, h3, h4⟩ := hb
  by_cases hin : F ≤ at' ∧ at' < F + n
  · obtain ⟨j, hj⟩ : ∃ j : Nat, at' = F + j := ⟨(at' - F).toNat, by omega⟩
    have hjn : j < n := by omega
    refine ⟨L.getD j 0, true, L.set j val, fun base p sv w h hbw => ?_, fun lo ao cap w hlo h => ?_⟩
    · refine (Set_ring_in base p F m val sv L w h at' j (by omega) hj).mono ?_
      rintro e w' ⟨he, hr, hs⟩
      exact ⟨he, sv, hr, hs⟩
    · refine (refSet_in lo ao n cap j F m at' val L w h (by omega) h0 h1 hjn hj).mono ?_
      rintro e w' ⟨ao', cap', he, hr', hb⟩
      refine ⟨ao', n, cap', he, hr'.mono hlo, fun b off hp e => .inr ?_, hb⟩
      obtain ⟨b', off', e', hl, _⟩ := hr'.at_ hp
      rw [e] at e'; cases e'; exact hl
  · refine ⟨0, false, L, fun base p sv w h hbw => ?_, fun lo ao cap w hlo h => ?_⟩
    · refine (Set_ring_out base p F m val sv L w h at' (by rw [hL]; omega)).mono ?_
      rintro e w' ⟨he, hb⟩
      exact ⟨he, sv, h.below hb, Step.of_below hb⟩
    · refine (refSet_out ao n cap F m at' val w (by omega) h0 h1 ha0 ha1 (by omega)).mono ?_
      rintro e w' ⟨he, hb⟩
      exact ⟨ao, n, cap, he, h.below hb, fun b off hp e => .inl ⟨hp, off, e⟩, hb⟩

set_option maxHeartbeats 6400000 in
set_option maxRecDepth 100000 in
theorem act_drop (base lo p : Nat) (F m what val far : Int) (sv : Value) (L : List Int) (ao : Option Addr) (n cap : Nat) (w : World) (h : Ring w base p F m sv L) (hr : RL w lo ao n cap L) (hap : Apart p sv ao n) (hbw : base ≤ w.heap.size) (hlw : lo ≤ w.heap.size) (hw : what = 4) :
    Calls Try.prog 17 #[.pointer (some ⟨p, 0, none⟩), ragg ao n cap F m, .agg #[.int .i64 what, .int .i64 val, .int .u64 far]] w (Acted w base lo p sv m ao n) := by
  have hbd := h.b
  have hlen := hr.len
  obtain ⟨F', y, bb, L', hP, hQ⟩ := drop_both F m L n hlen (by rw [hlen] at hbd; exact hbd)
  have HQ := Lib.hid hQ
  have HP := Lib.hid hP
  clear hP hQ
  have A0 := Lib.hid (At.start w p sv (.slice ao n cap) F m what val far (fun k hk => (h.fplt hk).2))
  have HB0 := Lib.hid (At.start_below w (.slice ao n cap) F m what val far)
  have HRg := Lib.hid h
  have HRl := Lib.hid hr
  have HAp := Lib.hid hap
  have HOld : Hid (∀ b off, 0 < n → ao = some ⟨b, off, none⟩ → b < w.heap.size) := Lib.hid (fun b off hp e => by
    obtain ⟨b', off', e', _, hb, _⟩ := hr.at_ hp
    rw [e] at e'; cases e'; exact hb)
  have HBw := Lib.hid hbw
  have HLw := Lib.hid hlw
  obtain ⟨W0, hW0⟩ : ∃ W, W = (((w.alloc (.cells #[.slice ao n cap, .int .u64 F, .int .i64 m] 40)).alloc (.cells #[.int .i64 what, .int .i64 val, .int .u64 far] 46)).alloc (.cells #[.slice none 0 0, .int .u64 0, .int .i64 0] 40)) := ⟨_, rfl⟩
  rw [← hW0] at A0 HB0
  have HW0 := Lib.hid hW0
  clear hW0
  unfold ragg at HQ ⊢
  clear h hr hap hbd hlen hbw hlw
  subst hw
  go_enter Try.func17, Try.ntmps17
  go_wp2_with fail
  rw [← HW0.out]
  have hlt0 := A0.out.lt
  refine (HQ.out lo ao cap W0 (by have := HLw.out; omega) (HRl.out.below HB0.out)).mono ?_
  rintro e W1 ⟨ao', n', cap', rfl, hrl, hfr, hb⟩
  have A1 := Lib.hid (A0.out.bel hb)
  have HB1 := Lib.hid (HB0.out.trans (hb.mono (by omega)))
  have HRL := Lib.hid hrl
  have HFR := Lib.hid hfr
  have hs1 := hb.size
  clear hrl hfr hb A0 HB0 HQ
  obtain ⟨a, b, c, ⟨x0, x1, x2⟩, ⟨y0, y1, y2⟩, ⟨z0, z1, z2⟩, ⟨f0, f1, f2⟩, l0, l1, l2⟩ := A1.out.unpack
  go_upto_region 11 with fail
  have Z1 := Lib.hid (alloc_blk_new W1 (.cells #[.slice ao' n' cap', .int .u64 F', .int .i64 m] 40))
  have hbA := (Below.refl _ W1).alloc (Nat.le_refl _) (.cells #[.slice ao' n' cap', .int .u64 F', .int .i64 m] 40)
  obtain ⟨r, hr⟩ : ∃ r, r = W1.heap.size := ⟨_, rfl⟩
  obtain ⟨W2, hW2⟩ : ∃ W, W = W1.alloc (.cells #[.slice ao' n' cap', .int .u64 F', .int .i64 m] 40) := ⟨_, rfl⟩
  have hrr : w.heap.size + 1 + 1 < r := by omega
  rw [← hr, ← hW2] at Z1
  rw [← hW2] at hbA
  rw [← hr, ← hW2]
  have A2 := Lib.hid (A1.out.bel hbA)
  have HB2 := Lib.hid (HB1.out.trans (hbA.mono (by omega)))
  have HRL2 := Lib.hid (HRL.out.below hbA)
  have hs2 := hbA.size
  clear x0 x1 x2 y0 y1 y2 z0 z1 z2 f0 f1 f2 l0 l1 l2 A1 HB1 HRL hr hW2 hbA
  obtain ⟨a, b, c, ⟨x0, x1, x2⟩, ⟨y0, y1, y2⟩, ⟨z0, z1, z2⟩, ⟨f0, f1, f2⟩, l0, l1, l2⟩ := A2.out.unpack
  have HG1 := Lib.hid (HP.out base p sv W2 (HRg.out.below HB2.out) (by have := HBw.out; omega))
  go_wp2_with fail
  refine HG1.out.mono ?_
  rintro e W3 ⟨rfl, sv', hr3, hst⟩
  have hnr : ¬ FP p sv r := fun h => by have := (HRg.out.fplt h).2; omega
  have hz := (hst.mod.block r (blk_lt Z1.out) hnr).trans Z1.out
  have A3 := Lib.hid (A2.out.mod hst.mod (fun _ _ h => h))
  have HR3 := Lib.hid hr3
  have HST := Lib.hid hst
  obtain ⟨r0, r1, r2, _⟩ := three hz
  clear x0 x1 x2 y0 y1 y2 z0 z1 z2 f0 f1 f2 l0 l1 l2 hr3 hst HG1 hz Z1
  obtain ⟨a, b, c, ⟨x0, x1, x2⟩, ⟨y0, y1, y2⟩, ⟨z0, z1, z2⟩, ⟨f0, f1, f2⟩, l0, l1, l2⟩ := A3.out.unpack
  have hne : w.heap.size + 1 + 1 ≠ r := by omega
  have e1 : (y == y) = true := by simp
  have e2 : (bb == bb) = true := by simp
  go_upto_region 12 with fail
  go_region_held3 (fun W => W.cell? ⟨r, 0, none⟩ = some (.slice ao' n' cap') ∧ W.cell? ⟨r, 1, none⟩ = some (.int .u64 F') ∧ W.cell? ⟨r, 2, none⟩ = some (.int .i64 m)) (first | assumption | go_keep) (fail)
  all_goals
    go_wp2
    have FIN := Lib.hid (A3.out.put (.slice ao' n' cap') (.int .u64 F') (.int .i64 m) 1)
    refine bodyPost_ret (v := .tuple #[.pointer (some ⟨p, 0, none⟩), .agg #[.slice ao' n' cap', .int .u64 F', .int .i64 m], .bool true]) (by simp [results, Try.results17, go_sem, *]) rfl ?_
    exact acted (S := fun q => q = w.heap.size + 2) (fun _ h => h) A2.out HOld.out HAp.out HFR.out (by omega) HRL2.out HR3.out HST.out FIN.out.2 FIN.out.1

set_option maxHeartbeats 6400000 in
set_option maxRecDepth 100000 in
theorem act_set (base lo p : Nat) (F m what val far : Int) (sv : Value) (L : List Int) (ao : Option Addr) (n cap : Nat) (w : World) (h : Ring w base p F m sv L) (hr : RL w lo ao n cap L) (hap : Apart p sv ao n) (hbw : base ≤ w.heap.size) (hlw : lo ≤ w.heap.size) (hw : what = 5) (hfar : 0 ≤ far) (hfar2 : far ≤ 18446744073709551615) :
    Calls Try.prog 17 #[.pointer (some ⟨p, 0, none⟩), ragg ao n cap F m, .agg #[.int .i64 what, .int .i64 val, .int .u64 far]] w (Acted w base lo p sv m ao n) := by
  have hbd := h.b
  have hlen := hr.len
  have A0 := Lib.hid (At.start w p sv (.slice ao n cap) F m what val far (fun k hk => (h.fplt hk).2))
  have HB0 := Lib.hid (At.start_below w (.slice ao n cap) F m what val far)
  have HRg := Lib.hid h
  have HRl := Lib.hid hr
  have HAp := Lib.hid hap
  have HOld : Hid (∀ b off, 0 < n → ao = some ⟨b, off, none⟩ → b < w.heap.size) := Lib.hid (fun b off hp e => by
    obtain ⟨b', off', e', _, hb, _⟩ := hr.at_ hp
    rw [e] at e'; cases e'; exact hb)
  have HBw := Lib.hid hbw
  have HLw := Lib.hid hlw
  obtain ⟨W0, hW0⟩ : ∃ W, W = (((w.alloc (.cells #[.slice ao n cap, .int .u64 F, .int .i64 m] 40)).alloc (.cells #[.int .i64 what, .int .i64 val, .int .u64 far] 46)).alloc (.cells #[.slice none 0 0, .int .u64 0, .int .i64 0] 40)) := ⟨_, rfl⟩
  rw [← hW0] at A0 HB0
  have HW0 := Lib.hid hW0
  clear hW0
  have HBD : Hid (0 ≤ F ∧ F + n ≤ 18446744073709551615 ∧ (n : Int) ≤ m ∧ 1 ≤ m ∧ m ≤ 4096) := Lib.hid (by rw [hlen] at hbd; exact hbd)
  have HLen := Lib.hid hlen
  have hF0 := hbd.1
  have hF1 : F ≤ 18446744073709551615 := by omega
  unfold ragg
  clear h hr hap hbd hlen hbw hlw
  subst hw
  go_enter Try.func17, Try.ntmps17
  go_upto_region 14 with fail
  rw [← HW0.out]
  obtain ⟨a, b, c, ⟨x0, x1, x2⟩, ⟨y0, y1, y2⟩, ⟨z0, z1, z2⟩, ⟨f0, f1, f2⟩, l0, l1, l2⟩ := A0.out.unpack
  go_upto_region 15 with fail
  go_cut [110] from 103 to 110 (fun v110 wx => ∃ b : Bool, v110 = .bool b ∧ (b = true → far < 100 ∧ F < 9223372036854775808) ∧ wx = W0)
  case first =>
    by_cases c1 : far < 100
    · have d1 : decide (far < 100) = true := by simpa using c1
      by_cases c2 : F < 9223372036854775808
      · have d2 : decide (F < 9223372036854775808) = true := by simpa using c2
        go_wp2
        go_meet
        exact ⟨true, rfl, fun _ => ⟨c1, c2⟩, rfl⟩
      · have d2 : decide (F < 9223372036854775808) = false := by simpa using c2
        go_wp2
        go_meet
        exact ⟨false, rfl, (fun h => by cases h), rfl⟩
    · have d1 : decide (far < 100) = false := by simpa using c1
      go_wp2
      go_meet
      exact ⟨false, rfl, (fun h => by cases h), rfl⟩
  case rest =>
    obtain ⟨bq, rfl, hbq, hwc⟩ := hcut
    obtain rfl : W0 = wc := hwc.symm
    have HBQ := Lib.hid hbq
    clear hbq
    go_upto_if 110 with fail
    go_cut [23] (fun v23 wx => ∃ at' : Int, v23 = .int .u64 at' ∧ 0 ≤ at' ∧ at' ≤ 18446744073709551615 ∧ wx = W0)
    case first =>
      cases bq with
      | false =>
        go_wp2
        go_meet
        exact ⟨F, rfl, hF0, hF1, rfl⟩
      | true =>
        obtain ⟨c1, c2⟩ := HBQ.out rfl
        obtain ⟨g, hg⟩ : ∃ g, g = F - min F 2 := ⟨_, rfl⟩
        have key : (F < 2 ∧ g = 0) ∨ (2 < F ∧ g = F - 2) ∨ (F = 2 ∧ g = 0) := by omega
        clear hg
        rcases key with ⟨k1, rfl⟩ | ⟨k1, hg⟩ | ⟨rfl, rfl⟩
        · have e0 : F - F = 0 := by omega
          go_wp2
          go_meet
          exact ⟨far, by simp, by omega, by omega, rfl⟩
        · have e0 : F - 2 = g := hg.symm
          have g0 : 0 ≤ g := by omega
          have hw2 : IntKind.u64.wrap (F - 2) = g := by rw [IntKind.wrap_u64]; omega
          have k1' : 2 ≤ F := by omega
          have g1 : g + far ≤ 18446744073709551615 := by omega
          clear e0 hg
          go_wp2
          go_meet
          exact ⟨g + far, rfl, by omega, by omega, rfl⟩
        · go_wp2
          go_meet
          exact ⟨far, by simp, by omega, by omega, rfl⟩
    case rest =>
      obtain ⟨at', rfl, ha0, ha1, hwc⟩ := hcut
      obtain rfl : W0 = wc := hwc.symm
      obtain ⟨y, bb, L', hP, hQ⟩ := set_both F m at' val L n HLen.out HBD.out ha0 ha1
      have HQ := Lib.hid hQ
      have HP := Lib.hid hP
      unfold ragg at HQ
      clear hP hQ
      go_wp2_with fail
      have hlt0 := A0.out.lt
      refine (HQ.out lo ao cap W0 (by have := HLw.out; omega) (HRl.out.below HB0.out)).mono ?_
      rintro e W1 ⟨ao', n', cap', rfl, hrl, hfr, hb⟩
      have A1 := Lib.hid (A0.out.bel hb)
      have HB1 := Lib.hid (HB0.out.trans (hb.mono (by omega)))
      have HRL := Lib.hid hrl
      have HFR := Lib.hid hfr
      have hs1 := hb.size
      clear hrl hfr hb A0 HB0 HQ
      obtain ⟨a, b, c, ⟨x0, x1, x2⟩, ⟨y0, y1, y2⟩, ⟨z0, z1, z2⟩, ⟨f0, f1, f2⟩, l0, l1, l2⟩ := A1.out.unpack
      go_upto_region 18 with fail
      have Z1 := Lib.hid (alloc_blk_new W1 (.cells #[.slice ao' n' cap', .int .u64 F, .int .i64 m] 40))
      have hbA := (Below.refl _ W1).alloc (Nat.le_refl _) (.cells #[.slice ao' n' cap', .int .u64 F, .int .i64 m] 40)
      obtain ⟨r, hr⟩ : ∃ r, r = W1.heap.size := ⟨_, rfl⟩
      obtain ⟨W2, hW2⟩ : ∃ W, W = W1.alloc (.cells #[.slice ao' n' cap', .int .u64 F, .int .i64 m] 40) := ⟨_, rfl⟩
      have hrr : w.heap.size + 1 + 1 < r := by omega
      rw [← hr, ← hW2] at Z1
      rw [← hW2] at hbA
      rw [← hr, ← hW2]
      have A2 := Lib.hid (A1.out.bel hbA)
      have HB2 := Lib.hid (HB1.out.trans (hbA.mono (by omega)))
      have HRL2 := Lib.hid (HRL.out.below hbA)
      have hs2 := hbA.size
      clear x0 x1 x2 y0 y1 y2 z0 z1 z2 f0 f1 f2 l0 l1 l2 A1 HB1 HRL hr hW2 hbA
      obtain ⟨a, b, c, ⟨x0, x1, x2⟩, ⟨y0, y1, y2⟩, ⟨z0, z1, z2⟩, ⟨f0, f1, f2⟩, l0, l1, l2⟩ := A2.out.unpack
      have HG1 := Lib.hid (HP.out base p sv W2 (HRg.out.below HB2.out) (by have := HBw.out; omega))
      go_wp2_with fail
      refine HG1.out.mono ?_
      rintro e W3 ⟨rfl, sv', hr3, hst⟩
      have hnr : ¬ FP p sv r := fun h => by have := (HRg.out.fplt h).2; omega
      have hz := (hst.mod.block r (blk_lt Z1.out) hnr).trans Z1.out
      have A3 := Lib.hid (A2.out.mod hst.mod (fun _ _ h => h))
      have HR3 := Lib.hid hr3
      have HST := Lib.hid hst
      obtain ⟨r0, r1, r2, _⟩ := three hz
      clear x0 x1 x2 y0 y1 y2 z0 z1 z2 f0 f1 f2 l0 l1 l2 hr3 hst HG1 hz Z1
      obtain ⟨a, b, c, ⟨x0, x1, x2⟩, ⟨y0, y1, y2⟩, ⟨z0, z1, z2⟩, ⟨f0, f1, f2⟩, l0, l1, l2⟩ := A3.out.unpack
      have hne : w.heap.size + 1 + 1 ≠ r := by omega
      have e1 : (y == y) = true := by simp
      have e2 : (bb == bb) = true := by simp
      go_upto_region 19 with fail
      go_region_held3 (fun W => W.cell? ⟨r, 0, none⟩ = some (.slice ao' n' cap') ∧ W.cell? ⟨r, 1, none⟩ = some (.int .u64 F) ∧ W.cell? ⟨r, 2, none⟩ = some (.int .i64 m)) (first | assumption | go_keep) (fail)
      all_goals
        go_wp2
        have FIN := Lib.hid (A3.out.put (.slice ao' n' cap') (.int .u64 F) (.int .i64 m) 1)
        refine bodyPost_ret (v := .tuple #[.pointer (some ⟨p, 0, none⟩), .agg #[.slice ao' n' cap', .int .u64 F, .int .i64 m], .bool true]) (by simp [results, Try.results17, go_sem, *]) rfl ?_
        exact acted (S := fun q => q = w.heap.size + 2) (fun _ h => h) A2.out HOld.out HAp.out HFR.out (by omega) HRL2.out HR3.out HST.out FIN.out.2 FIN.out.1

theorem Ring.mono {w : World} {base B p : Nat} {F m : Int} {sv : Value} {L : List Int} (h : Ring w B p F m sv L) (hb : base ≤ B) : Ring w base p F m sv L := by
  obtain ⟨vs, hr, hl⟩ := h
  exact ⟨vs, ⟨hr.blk, ⟨hr.row.1, hr.row.2.imp (fun h => h) (fun ⟨g, cap, cur, e, hg, r⟩ => ⟨g, cap, cur, e, Nat.le_trans hb hg, r⟩)⟩, hr.ne, Nat.le_trans hb hr.lo⟩, hl⟩

set_option maxHeartbeats 6400000 in
set_option maxRecDepth 100000 in
theorem act_copy (base lo p : Nat) (F m what val far : Int) (sv : Value) (L : List Int) (ao : Option Addr) (n cap : Nat) (w : World) (h : Ring w base p F m sv L) (hr : RL w lo ao n cap L) (hap : Apart p sv ao n) (hbw : base ≤ w.heap.size) (hlw : lo ≤ w.heap.size) (hw : what < 0 ∨ 6 ≤ what) :
    Calls Try.prog 17 #[.pointer (some ⟨p, 0, none⟩), ragg ao n cap F m, .agg #[.int .i64 what, .int .i64 val, .int .u64 far]] w (Acted w base lo p sv m ao n) := by
  have hbd := h.b
  have hlen := hr.len
  have A0 := Lib.hid (At.start w p sv (.slice ao n cap) F m what val far (fun k hk => (h.fplt hk).2))
  have HB0 := Lib.hid (At.start_below w (.slice ao n cap) F m what val far)
  have HRg := Lib.hid h
  have HRl := Lib.hid hr
  have HAp := Lib.hid hap
  have HOld : Hid (∀ b off, 0 < n → ao = some ⟨b, off, none⟩ → b < w.heap.size) := Lib.hid (fun b off hp e => by
    obtain ⟨b', off', e', _, hb, _⟩ := hr.at_ hp
    rw [e] at e'; cases e'; exact hb)
  have HBw := Lib.hid hbw
  have HLw := Lib.hid hlw
  obtain ⟨W0, hW0⟩ : ∃ W, W = (((w.alloc (.cells #[.slice ao n cap, .int .u64 F, .int .i64 m] 40)).alloc (.cells #[.int .i64 what, .int .i64 val, .int .u64 far] 46)).alloc (.cells #[.slice none 0 0, .int .u64 0, .int .i64 0] 40)) := ⟨_, rfl⟩
  rw [← hW0] at A0 HB0
  have HW0 := Lib.hid hW0
  clear hW0
  have q0 : (what == 0) = false := by simp; omega
  have q1 : (what == 1) = false := by simp; omega
  have q2 : (what == 2) = false := by simp; omega
  have q3 : (what == 3) = false := by simp; omega
  have q4 : (what == 4) = false := by simp; omega
  have q5 : (what == 5) = false := by simp; omega
  have HC := Lib.hid (fun (W : World) (hW : Ring W base p F m sv L) => Copy_ring base p F m sv L W hW)
  unfold ragg
  clear h hr hap hbd hlen hbw hlw hw
  go_enter Try.func17, Try.ntmps17
  go_upto_region 20 with fail
  rw [← HW0.out]
  have hA0 : At w p sv (.slice ao n cap) F m what val far W0.drew := A0.out.drewN 1
  have hR0 : Hid (Ring W0.drew base p F m sv L) := Lib.hid ((HRg.out.below HB0.out).mod ((Mod.refl (fun _ => False) W0).drew) (fun _ _ h => h))
  obtain ⟨a, b, c, ⟨x0, x1, x2⟩, ⟨y0, y1, y2⟩, ⟨z0, z1, z2⟩, ⟨f0, f1, f2⟩, l0, l1, l2⟩ := A0.out.unpack
  have far' : ∀ (W : World) (i j : Nat) (v : Value), (W.setCell ⟨w.heap.size + 1 + 1, i, none⟩ v).cell? ⟨w.heap.size, j, none⟩ = W.cell? ⟨w.heap.size, j, none⟩ := fun W i j v => World.cell?_setCell_far _ _ _ _ (by show w.heap.size + 1 + 1 ≠ w.heap.size; omega)
  go_region_held3 (fun W => W.cell? ⟨w.heap.size, 0, none⟩ = some (.slice ao n cap) ∧ W.cell? ⟨w.heap.size, 1, none⟩ = some (.int .u64 F) ∧ W.cell? ⟨w.heap.size, 2, none⟩ = some (.int .i64 m)) (first | assumption | exact ⟨by assumption, by assumption, by assumption⟩ | (simp only [far']; exact ⟨by assumption, by assumption, by assumption⟩))
    ((go_at_call 19; refine (HC.out _ hR0.out).mono ?_; rintro e w5 ⟨sv', rfl, hr5, hb5⟩; have hA5 := hA0.bel hb5; obtain ⟨a, b, c, ⟨x0, x1, x2⟩, ⟨y0, y1, y2⟩, ⟨z0, z1, z2⟩, ⟨f0, f1, f2⟩, l0, l1, l2⟩ := hA5.unpack; have hS5 := And.intro x0 (And.intro x1 x2)))
  all_goals
    go_wp2
    have FIN := Lib.hid (hA5.put (.slice ao n cap) (.int .u64 F) (.int .i64 m) 0)
    have hlt0 := A0.out.lt
    refine bodyPost_ret (v := .tuple #[.pointer (some ⟨W0.heap.size, 0, none⟩), .agg #[.slice ao n cap, .int .u64 F, .int .i64 m], .bool true]) (by simp [results, Try.results17, go_sem, *]) rfl ?_
    have hrl : RL W0.drew lo ao n cap L := (HRl.out.below HB0.out).drewN 1
    have hfp : ∀ k, FP W0.heap.size sv' k → W0.heap.size ≤ k := fun k hk => (hr5.fplt hk).1
    refine ⟨W0.heap.size, sv', F, L, ao, n, cap, rfl, (hr5.mod FIN.out.2 (fun k hk e => by have := hfp k hk; omega)).mono (by show base ≤ W0.heap.size; have := HBw.out; omega), (hrl.below hb5).mod FIN.out.2 (fun b off hp e hb => by have := HOld.out b off hp e; omega), FIN.out.1, fun k hk => .inr (by have := hfp k hk; omega), fun b off hp e => .inl ⟨hp, off, e⟩, fun b off hp e hk => by have := hfp b hk; have := HOld.out b off hp e; omega⟩

theorem act_any (base lo p : Nat) (F m what val far : Int) (sv : Value) (L : List Int) (ao : Option Addr) (n cap : Nat) (w : World) (h : Ring w base p F m sv L) (hr : RL w lo ao n cap L) (hap : Apart p sv ao n) (hbw : base ≤ w.heap.size) (hlw : lo ≤ w.heap.size) (hfar : 0 ≤ far) (hfar2 : far ≤ 18446744073709551615) :
    Calls Try.prog 17 #[.pointer (some ⟨p, 0, none⟩), ragg ao n cap F m, .agg #[.int .i64 what, .int .i64 val, .int .u64 far]] w (Acted w base lo p sv m ao n) := by
  rcases (show (what = 0 ∨ what = 1 ∨ what = 2 ∨ what = 3) ∨ what = 4 ∨ what = 5 ∨ (what < 0 ∨ 6 ≤ what) by omega) with c | c | c | c
  · exact act_put base lo p F m what val far sv L ao n cap w h hr hap hbw hlw c
  · exact act_drop base lo p F m what val far sv L ao n cap w h hr hap hbw hlw c
  · exact act_set base lo p F m what val far sv L ao n cap w h hr hap hbw hlw c hfar hfar2
  · exact act_copy base lo p F m what val far sv L ao n cap w h hr hap hbw hlw c
end Go.Proofs.Ythiajgkifoimcaa
