/-
  WindowPlays, walked.
-/
import Derived.Test.YtagdenhcbafblaaM
import Derived.Test.YtagdenhcbafblaaH
namespace Go.Proofs.Ytagdenhcbafblaa
open Go.RowKit
set_option linter.unusedVariables false
set_option linter.unusedSimpArgs false

/-- The law says yes, and keeps to new memory. -/
def Yes (w : World) (e : Ending) (w' : World) : Prop := e = .returned (.bool true) ∧ Below w.heap.size w w'

/-- Calls that came in. -/
def Acts (w : World) (ao : Option Addr) (n : Nat) (zs : List (Int × Int × Int)) : Prop :=
  n ≤ zs.length ∧ (0 < n → ∃ b off, ao = some ⟨b, off, none⟩ ∧ b < w.heap.size ∧ ∀ j, j < n → w.cell? ⟨b, off + j * 3, none⟩ = some (.int .i64 (zs.getD j (0, 0, 0)).1) ∧ w.cell? ⟨b, off + j * 3 + 1, none⟩ = some (.int .i64 (zs.getD j (0, 0, 0)).2.1) ∧
    w.cell? ⟨b, off + j * 3 + 2, none⟩ = some (.int .u64 (zs.getD j (0, 0, 0)).2.2) ∧ (zs.getD j (0, 0, 0)).2.1 ≤ 9223372036854775807 ∧ 0 ≤ (zs.getD j (0, 0, 0)).2.2)

theorem set3 {w : World} {b : Nat} {z0 z1 z2 : Value} {t : TypeId} (h : w.heap[b]? = some (.cells #[z0, z1, z2] t (0, 0))) (a0 a1 a2 : Value) :
    (((w.setCell ⟨b, 0, none⟩ a0).setCell ⟨b, 1, none⟩ a1).setCell ⟨b, 2, none⟩ a2).heap[b]? = some (.cells #[a0, a1, a2] t (0, 0)) ∧
    Mod (fun q => q = b) w (((w.setCell ⟨b, 0, none⟩ a0).setCell ⟨b, 1, none⟩ a1).setCell ⟨b, 2, none⟩ a2) := by
  refine ⟨?_, (((Mod.refl (fun q => q = b) w).setCell ⟨b, 0, none⟩ (.inl rfl) a0).setCell ⟨b, 1, none⟩ (.inl rfl) a1).setCell ⟨b, 2, none⟩ (.inl rfl) a2⟩
  have e0 := setCell_blk h 0 a0
  have e1 := setCell_blk e0 1 a1
  have e2 := setCell_blk e1 2 a2
  exact e2

set_option maxHeartbeats 1600000 in
set_option maxRecDepth 100000 in
theorem plays_out (ao : Option Addr) (n cap : Nat) (w : World) (h : 60 < n) (hn : n ≤ maxLen) :
    Calls Try.prog 4 #[.slice ao n cap] w (Yes w) := by
  unfold maxLen at hn
  have HW := Lib.hid (works_true w)
  have hd1 : decide (60 < n) = true := by simpa using h
  go_enter Try.func4, Try.ntmps4
  go_wp2_with (go_at_call 7; refine HW.out.mono ?_; rintro e w' ⟨rfl, hb⟩)
  go_ret
  exact ⟨rfl, hb⟩

set_option maxHeartbeats 6400000 in
set_option maxRecDepth 100000 in
theorem plays_in (ao : Option Addr) (n cap : Nat) (zs : List (Int × Int × Int)) (w : World) (hn : n ≤ 60) (ha : Acts w ao n zs) :
    Calls Try.prog 4 #[.slice ao n cap] w (Yes w) := by
  have HW := Lib.hid works_true
  have HA := Lib.hid ha
  have HN := Lib.hid (New_wi w)
  have hd1 : decide (60 < n) = false := by simp; omega
  clear ha
  go_enter Try.func4, Try.ntmps4
  go_wp2_with fail
  refine HN.out.mono ?_
  rintro e w2 ⟨rfl, hr, hb⟩
  obtain ⟨p, hp⟩ : ∃ p, p = w.heap.size := ⟨_, rfl⟩
  rw [← hp] at hr ⊢
  have hbA := (Below.refl _ w2).alloc (Nat.le_refl _) (.cells #[.int .u64 0, .int .u64 0, .bool false] 39)
  have B2 := Lib.hid (hb.trans (hbA.mono hb.size))
  have R2 := Lib.hid (hr.below hbA)
  have K2 := Lib.hid (alloc_blk_new w2 (.cells #[.int .u64 0, .int .u64 0, .bool false] 39))
  have hpb : p < w2.heap.size := hr.lt
  have HP := Lib.hid hp
  obtain ⟨q, hq⟩ : ∃ q, q = w2.heap.size := ⟨_, rfl⟩
  have HQ := Lib.hid hq
  clear hb hbA HN hr hp hq
  go_wp2_with fail
  rw [← HQ.out] at K2 hpb ⊢
  have hpp := HP.out
  go_loopg [3, 5, 6] n (fun gk v3 v5 v6 wr => ∃ i : Nat, ∃ pi : Nat, ∃ l g : Int, ∃ s : Bool, v3 = .pointer (some ⟨pi, 0, none⟩) ∧ v5 = .bool true ∧ v6 = .int .i64 i ∧ i ≤ n ∧ gk = n - i ∧ w.heap.size ≤ pi ∧ pi ≠ q ∧ w.heap.size ≤ q ∧ Wi wr pi l g s ∧ Below w.heap.size w wr ∧ wr.heap[q]? = some (.cells #[.int .u64 l, .int .u64 g, .bool s] 39 (0, 0)))
  case atStart => exact ⟨0, p, 0, 0, false, rfl, rfl, rfl, by omega, rfl, by omega, by omega, by omega, R2.out, B2.out, K2.out⟩
  case round =>
    obtain ⟨i, pi, l, g, s, rfl, rfl, rfl, hin, hgk, g1, g2, g3, hr, hb, hK⟩ := hrel
    have HG := Lib.hid hgk
    have R := Lib.hid hr
    have B := Lib.hid hb
    have K := Lib.hid hK
    clear hgk hr hb hK hpp
    by_cases hlt : i < n
    · obtain ⟨b, off, rfl, hbw, hcz⟩ := HA.out.2 (by omega)
      obtain ⟨what, hwhat⟩ : ∃ x, x = (zs.getD i (0, 0, 0)).1 := ⟨_, rfl⟩
      obtain ⟨m, hm⟩ : ∃ x, x = (zs.getD i (0, 0, 0)).2.1 := ⟨_, rfl⟩
      obtain ⟨d, hd⟩ : ∃ x, x = (zs.getD i (0, 0, 0)).2.2 := ⟨_, rfl⟩
      obtain ⟨z1, z2, z3, z4, z5⟩ := hcz i hlt
      rw [← hwhat] at z1
      rw [← hm] at z2 z4
      rw [← hd] at z3 z5
      have y1 := (B.out.cell (p := ⟨b, off + i * 3, none⟩) hbw).trans z1
      have y2 := (B.out.cell (p := ⟨b, off + i * 3 + 1, none⟩) hbw).trans z2
      have y3 := (B.out.cell (p := ⟨b, off + i * 3 + 2, none⟩) hbw).trans z3
      obtain ⟨l0, l1, l2, f0, f1, f2⟩ := three K.out
      have hlq := blk_lt K.out
      have hsz := B.out.size
      have hpi := R.out.lt
      have hbr : b < wr.heap.size := by omega
      have HAct := Lib.hid (act_any pi l g what m d s wr.drew (R.out.drewN 1) z5 z4)
      clear hcz z1 z2 z3 z4 z5 hwhat hm hd
      go_upto_region 7 with fail
      go_cut [3, 5] (fun v3 v5 wx => ∃ p' : Nat, ∃ l' g' : Int, ∃ s' : Bool, v3 = .pointer (some ⟨p', 0, none⟩) ∧ v5 = .bool true ∧ w.heap.size ≤ p' ∧ p' ≠ q ∧ Wi wx p' l' g' s' ∧ Below w.heap.size w wx ∧ wx.heap[q]? = some (.cells #[.int .u64 l', .int .u64 g', .bool s'] 39 (0, 0)))
      case first =>
        go_region_with (go_at_call 15; refine HAct.out.mono ?_; rintro e w5 ⟨l', g', s', p', rfl, hr5, hm5, hp5⟩; have tt := (hm5.block q hlq (by show ¬ q = pi; omega)).trans K.out; obtain ⟨m0, m1, m2, n0, n1, n2⟩ := three tt; have TT := Lib.hid tt; have R5 := Lib.hid hr5; have M5 := Lib.hid hm5; have P5 := Lib.hid hp5; clear hr5 hm5 hp5 tt)
        all_goals
          go_wp2
          go_meet
          obtain ⟨s1, s2⟩ := set3 TT.out (.int .u64 l') (.int .u64 g') (.bool s')
          have P6 : p' = pi ∨ wr.heap.size ≤ p' := P5.out
          have hs5 : wr.heap.size ≤ w5.heap.size := M5.out.size
          exact ⟨p', l', g', s', rfl, rfl, by omega, by omega, R5.out.mod s2 (by show ¬ p' = q; omega),
            ⟨s2.os.trans (M5.out.os.trans B.out.os), s2.tape.trans (M5.out.tape.trans B.out.tape), s2.output.trans (M5.out.output.trans B.out.output), by have := s2.size; omega, fun x hx => (s2.block x (by omega) (by show ¬ x = q; omega)).trans ((M5.out.block x (by show x < wr.heap.size; omega) (by show ¬ x = pi; omega)).trans (B.out.block x hx))⟩, s1⟩
      case rest =>
        obtain ⟨p', l', g', s', rfl, rfl, e1, e2, hr2, hb2, hq2⟩ := hcut
        have HIs := Lib.hid (is_wi p' l' g' s' wc hr2)
        have R2 := Lib.hid hr2
        have B2 := Lib.hid hb2
        have Q2 := Lib.hid hq2
        have hlq2 := blk_lt hq2
        clear l0 l1 l2 f0 f1 f2 y1 y2 y3 HAct
        obtain ⟨l0, l1, l2, f0, f1, f2⟩ := three hq2
        clear hr2 hb2 hq2
        go_wp2_with (go_at_call 16; refine HIs.out.mono ?_; rintro e w6 ⟨rfl, hb6⟩)
        have hr3 := R2.out.below hb6
        go_roundg (n - (i + 1))
        case measure => have := HG.out; omega
        case rel =>
          have hs2 := B2.out.size
          exact ⟨i + 1, p', l', g', s', rfl, rfl, by go_num, by omega, rfl, e1, e2, g3, hr3, B2.out.trans (hb6.mono hs2), (hb6.block q (blk_lt Q2.out)).trans Q2.out⟩
    · obtain rfl : i = n := by omega
      have HIs := Lib.hid (is_wi pi l g s wr R.out)
      obtain ⟨l0, l1, l2, f0, f1, f2⟩ := three K.out
      have hlq := blk_lt K.out
      go_wp2_with (first | (go_at_call 16; refine HIs.out.mono ?_; rintro e w6 ⟨rfl, hb6⟩; have B6 := Lib.hid hb6; clear hb6) | (go_at_call 7; refine (HW.out _).mono ?_; rintro e w7 ⟨rfl, hb7⟩; have B7 := Lib.hid hb7; clear hb7))
      go_ret
      have hs2 := B.out.size
      have b6 := B.out.trans (B6.out.mono hs2)
      exact ⟨rfl, b6.trans (B7.out.mono b6.size)⟩
end Go.Proofs.Ytagdenhcbafblaa
