/-
  The document's span, walked.
-/
import Derived.Test.YtfkfooclapogjaaH
import Derived.Deep.CutBlock
namespace Go.Proofs.Ytfkfooclapogjaa
open Go.RowKit
set_option linter.unusedVariables false
set_option linter.unusedSimpArgs false

def spanV (zs : List Int) : Value :=
  match spanL zs with
  | none => .tuple #[.int .i64 0, .int .i64 0, .int .i64 0, .bool false]
  | some (m, l, t) => .tuple #[.int .i64 (m : Nat), .int .i64 l, .int .i64 t, .bool true]
theorem spanV_none {zs : List Int} (h : spanL zs = none) : spanV zs = .tuple #[.int .i64 0, .int .i64 0, .int .i64 0, .bool false] := by rw [spanV, h]
theorem spanV_some {zs : List Int} {m : Nat} {l t : Int} (h : spanL zs = some (m, l, t)) : spanV zs = .tuple #[.int .i64 (m : Nat), .int .i64 l, .int .i64 t, .bool true] := by rw [spanV, h]
/-- The sizes of what a span has got. -/
def Spb (i : Nat) (L T : Int) : Prop := 0 ≤ L ∧ 0 ≤ T ∧ ((i = 1 ∧ L ≤ 255 ∧ T ≤ 255) ∨ (i = 2 ∧ L ≤ 20000 ∧ T ≤ 20000) ∨ (i = 3 ∧ L ≤ 2000000 ∧ T ≤ 2000000) ∨ (i = 4 ∧ L ≤ 200000000 ∧ T ≤ 200000000))

set_option maxHeartbeats 3200000 in
set_option maxRecDepth 100000 in
theorem span_any {T : Nat → Prop} (ao : Option Addr) (n cap : Nat) (zs : List Int) (w : World) (h : Arg T w ao n zs) (hn : 0 < n) (hby : Byt zs) :
    Calls Try.prog 56 #[.slice ao n cap] w fun e w' => e = .returned (spanV zs) ∧ ∃ q, w' = w.drewN q := by
  obtain ⟨b, off, rfl, hb, _, hc⟩ := h.2 hn
  have hzl := h.1
  have hc0 := hc 0 hn
  have hb0 := byt_getD hby (k := 0) (by omega)
  obtain ⟨b0, hb0e⟩ : ∃ b0, b0 = zs.getD 0 0 := ⟨_, rfl⟩
  rw [← hb0e] at hc0 hb0
  have HB0 := Lib.hid hb0e
  have HC := Lib.hid hc
  have HBy := Lib.hid hby
  obtain ⟨hb1, hb2⟩ := hb0
  rw [Nat.add_zero] at hc0
  clear hc hby h hb0e
  go_enter Try.func56, Try.ntmps56
  go_upto_block 0 with fail
  go_cut [7, 8] from 15 to 45 (fun v7 v8 wx => ∃ (m : Nat) (l : Int), Hid (cls b0 = some (m, l)) ∧ v7 = .int .i64 (m : Nat) ∧ v8 = .int .i64 l ∧ 1 ≤ m ∧ m ≤ 4 ∧ 0 ≤ l ∧ l ≤ 255 ∧ w = wx)
  case first =>
    by_cases h1 : b0 < 128
    · have d1 : decide (b0 < 128) = true := by simpa using h1
      have HH : Hid (cls b0 = some (1, b0)) := Lib.hid (by unfold cls; rw [if_pos h1])
      clear h1
      go_wp2
      go_meet
      exact ⟨1, b0, HH, rfl, rfl, by omega, by omega, hb1, by omega, rfl⟩
    have d1 : decide (b0 < 128) = false := by simpa using h1
    by_cases h2 : 192 ≤ b0
    case neg =>
      have d2 : decide (192 ≤ b0) = false := by simpa using h2
      have d3 : decide (224 ≤ b0) = false := by simp; omega
      have d4 : decide (240 ≤ b0) = false := by simp; omega
      have HH : Hid (spanV zs = .tuple #[.int .i64 0, .int .i64 0, .int .i64 0, .bool false]) := Lib.hid (spanV_none (by unfold spanL cls; rw [← HB0.out, if_neg (by omega), if_neg (by omega), if_neg (by omega), if_neg (by omega)]))
      clear h1 h2
      go_wp2
      refine bodyPost_ret (results_tmp4 rfl _ _ _) rfl ?_
      exact ⟨by rw [HH.out]; rfl, 0, rfl⟩
    have d2 : decide (192 ≤ b0) = true := by simpa using h2
    by_cases h3 : b0 < 224
    · have d3 : decide (b0 < 224) = true := by simpa using h3
      have HH : Hid (cls b0 = some (2, b0 % 32)) := Lib.hid (by unfold cls; rw [if_neg (by omega), if_pos (by omega)])
      clear h1 h2 h3
      go_wp2
      go_meet
      exact ⟨2, b0 % 32, HH, rfl, rfl, by omega, by omega, by omega, by omega, rfl⟩
    have d3 : decide (b0 < 224) = false := by simpa using h3
    have d4 : decide (224 ≤ b0) = true := by simp; omega
    by_cases h4 : b0 < 240
    · have d5 : decide (b0 < 240) = true := by simpa using h4
      have HH : Hid (cls b0 = some (3, b0 % 16)) := Lib.hid (by unfold cls; rw [if_neg (by omega), if_neg (by omega), if_pos (by omega)])
      clear h1 h2 h3 h4
      go_wp2
      go_meet
      exact ⟨3, b0 % 16, HH, rfl, rfl, by omega, by omega, by omega, by omega, rfl⟩
    have d5 : decide (b0 < 240) = false := by simpa using h4
    have d6 : decide (240 ≤ b0) = true := by simp; omega
    by_cases h5 : b0 < 248
    · have d7 : decide (b0 < 248) = true := by simpa using h5
      have HH : Hid (cls b0 = some (4, b0 % 8)) := Lib.hid (by unfold cls; rw [if_neg (by omega), if_neg (by omega), if_neg (by omega), if_pos (by omega)])
      clear h1 h2 h3 h4 h5
      go_wp2
      go_meet
      exact ⟨4, b0 % 8, HH, rfl, rfl, by omega, by omega, by omega, by omega, rfl⟩
    · have d7 : decide (b0 < 248) = false := by simpa using h5
      have HH : Hid (spanV zs = .tuple #[.int .i64 0, .int .i64 0, .int .i64 0, .bool false]) := Lib.hid (spanV_none (by unfold spanL cls; rw [← HB0.out, if_neg (by omega), if_neg (by omega), if_neg (by omega), if_neg (by omega)]))
      clear h1 h2 h3 h4 h5
      go_wp2
      refine bodyPost_ret (results_tmp4 rfl _ _ _) rfl ?_
      exact ⟨by rw [HH.out]; rfl, 0, rfl⟩
  case rest =>
    obtain ⟨m, l, HH, rfl, rfl, hm1, hm4, hl0, hl1, rfl⟩ := hcut
    go_wp2_with fail
    go_loopg [8, 9, 10] (m - 1) (fun gk v8 v9 v10 wr => ∃ (i : Nat) (L U : Int) (q : Nat), v8 = .int .i64 L ∧ v9 = .int .i64 U ∧ v10 = .int .i64 (i : Nat) ∧ 1 ≤ i ∧ i ≤ m ∧ gk = m - i ∧ Hid (spanF zs (m - 1) 1 l l = spanF zs (m - i) i L U) ∧ Spb i L U ∧ wr = w.drewN q)
    case atStart => exact ⟨1, l, l, 0, rfl, rfl, rfl, by omega, by omega, by omega, Lib.hid rfl, ⟨hl0, hl0, .inl ⟨rfl, hl1, hl1⟩⟩, rfl⟩
    case round =>
      obtain ⟨i, L, U, q, rfl, rfl, rfl, hi1, him, hgk, HS, hsp, rfl⟩ := hrel
      have HG := Lib.hid hgk
      have HSP := Lib.hid hsp
      obtain ⟨hL0, hU0, hb3⟩ := hsp
      have hL1 : L ≤ 200000000 := by omega
      have hU1 : U ≤ 200000000 := by omega
      clear hgk hb3
      by_cases hlt : i < m
      · obtain ⟨f, hf⟩ : ∃ f, m - i = f + 1 := ⟨m - i - 1, by omega⟩
        by_cases hin : n ≤ i
        · have e1 : decide ((n : Int) ≤ i) = true := by simp; omega
          have e2 : decide (n ≤ i) = true := by simp; omega
          have HS2 : Hid (spanF zs (m - 1) 1 l l = spanF zs (m - (i + 1)) (i + 1) (64 * L) (64 * U + 63)) := Lib.hid (by rw [HS.out, hf, show m - (i + 1) = f by omega, spanF, if_pos (by omega)])
          have HP2 : Hid (Spb (i + 1) (64 * L) (64 * U + 63)) := Lib.hid (by have := HSP.out; unfold Spb at this ⊢; omega)
          clear hin hf HS HSP
          go_wp2
          go_roundg (m - (i + 1))
          case measure => have := HG.out; omega
          case rel => exact ⟨i + 1, _, _, q, rfl, rfl, by go_num, by omega, by omega, rfl, HS2, HP2.out, rfl⟩
        · have e1 : decide ((n : Int) ≤ i) = false := by simp; omega
          have e2 : decide (n ≤ i) = false := by simp; omega
          have hin2 : i < n := by omega
          have hbi := byt_getD HBy.out (k := i) (by omega)
          have ci := HC.out i (by omega)
          obtain ⟨bi, hbie⟩ : ∃ bi, bi = zs.getD i 0 := ⟨_, rfl⟩
          rw [← hbie] at hbi ci
          obtain ⟨hbi0, hbi1⟩ := hbi
          by_cases g1 : bi < 128
          · have d1 : decide (bi < 128) = true := by simpa using g1
            have HV : Hid (spanV zs = .tuple #[.int .i64 0, .int .i64 0, .int .i64 0, .bool false]) := Lib.hid (spanV_none (by unfold spanL; rw [← HB0.out, HH.out]; simp only []; rw [HS.out, hf, spanF, if_neg (by omega), if_pos (by rw [← hbie]; omega)]; rfl))
            clear g1 hf hbie HS HSP hin
            go_wp2
            refine bodyPost_ret (results_tmp4 rfl _ _ _) rfl ?_
            exact ⟨by rw [HV.out]; rfl, _, rfl⟩
          have d1 : decide (bi < 128) = false := by simpa using g1
          by_cases g2 : 191 < bi
          · have d2 : decide (191 < bi) = true := by simpa using g2
            have HV : Hid (spanV zs = .tuple #[.int .i64 0, .int .i64 0, .int .i64 0, .bool false]) := Lib.hid (spanV_none (by unfold spanL; rw [← HB0.out, HH.out]; simp only []; rw [HS.out, hf, spanF, if_neg (by omega), if_pos (by rw [← hbie]; omega)]; rfl))
            clear g1 g2 hf hbie HS HSP hin
            go_wp2
            refine bodyPost_ret (results_tmp4 rfl _ _ _) rfl ?_
            exact ⟨by rw [HV.out]; rfl, _, rfl⟩
          have d2 : decide (191 < bi) = false := by simpa using g2
          have HS2 : Hid (spanF zs (m - 1) 1 l l = spanF zs (m - (i + 1)) (i + 1) (64 * L + bi % 64) (64 * U + bi % 64)) := Lib.hid (by rw [HS.out, hf, show m - (i + 1) = f by omega, spanF, if_neg (by omega), if_neg (by rw [← hbie]; omega), ← hbie])
          have HP2 : Hid (Spb (i + 1) (64 * L + bi % 64) (64 * U + bi % 64)) := Lib.hid (by have := HSP.out; unfold Spb at this ⊢; omega)
          clear g1 g2 hf hbie HS HSP hin
          go_wp2
          go_quiet (fail)
          go_wp2
          go_roundg (m - (i + 1))
          case measure => have := HG.out; omega
          case rel => exact ⟨i + 1, _, _, _, rfl, rfl, by go_num, by omega, by omega, rfl, HS2, HP2.out, rfl⟩
      · obtain rfl : i = m := by omega
        have HV : Hid (spanV zs = .tuple #[.int .i64 (i : Nat), .int .i64 L, .int .i64 U, .bool true]) := Lib.hid (spanV_some (by unfold spanL; rw [← HB0.out, HH.out]; simp only []; rw [HS.out, Nat.sub_self]; rfl))
        clear HS HSP
        go_wp2
        refine bodyPost_ret (results_tmp4 rfl _ _ _) rfl ?_
        exact ⟨by rw [HV.out]; rfl, _, rfl⟩
end Go.Proofs.Ytfkfooclapogjaa
