/-
  The document's First, walked.
-/
import Derived.Test.YtfkfooclapogjaaSh
import Derived.Deep.CutBlock
namespace Go.Proofs.Ytfkfooclapogjaa
open Go.RowKit
set_option linter.unusedVariables false
set_option linter.unusedSimpArgs false

def rfEnd (n k : Nat) : Int × Nat × Bool := (65533, max 1 k, decide (k = 0 ∨ k < n))
theorem rf_end {zs : List Int} {f k : Nat} (h : f = 0 ∨ zs.length ≤ k ∨ begL (zs.take (k + 1)) = none) : rf zs f k = rfEnd zs.length k := by
  cases f with
  | zero => rfl
  | succ f =>
    unfold rf rfEnd
    by_cases hk : k < zs.length
    · rw [if_pos hk]
      have hb : begL (zs.take (k + 1)) = none := by
        rcases h with h | h | h
        · cases h
        · omega
        · exact h
      rw [hb]
    · rw [if_neg hk]
theorem rf_hit {zs : List Int} {f k : Nat} {l t : Int} (hk : k < zs.length) (hb : begL (zs.take (k + 1)) = some (k + 1)) (hs : spanL (zs.take (k + 1)) = some (k + 1, l, t)) : rf zs (f + 1) k = (l, k + 1, true) := by
  unfold rf
  rw [if_pos hk, hb]
  simp [hs]
theorem rf_next {zs : List Int} {f k m : Nat} (hk : k < zs.length) (hb : begL (zs.take (k + 1)) = some m) (hm : k + 1 ≠ m) : rf zs (f + 1) k = rf zs f (k + 1) := by
  conv => lhs; unfold rf
  rw [if_pos hk, hb]
  simp only []
  rw [if_neg hm]
theorem begL_span {zs : List Int} {m : Nat} (h : begL zs = some m) : ∃ l t, spanL zs = some (m, l, t) := by
  unfold begL at h
  cases hs : spanL zs with
  | none => rw [hs] at h; cases h
  | some p =>
    obtain ⟨m', l, t⟩ := p
    rw [hs] at h
    simp only [] at h
    refine ⟨l, t, ?_⟩
    repeat' split at h
    all_goals first | (cases h; rfl) | cases h

set_option maxHeartbeats 3200000 in
set_option maxRecDepth 100000 in
theorem refFirst_any {T : Nat → Prop} (ao : Option Addr) (n cap : Nat) (zs : List Int) (w : World) (h : Arg T w ao n zs) (hn : 0 < n) (hn2 : n ≤ 1000000) (hcap : n ≤ cap) (hby : Byt zs) :
    Calls Try.prog 50 #[.slice ao n cap] w fun e w' => e = .returned (.tuple #[.int .i64 (F zs).1, .int .i64 ((F zs).2.1 : Nat), .bool (F zs).2.2]) ∧ Below w.heap.size w w' := by
  obtain ⟨b, off, rfl, hb, _, hc⟩ := h.2 hn
  have hzl := h.1
  have HBg : Hid (∀ k wr, k < n → Below w.heap.size w wr → Calls Try.prog 55 #[.slice (some ⟨b, off, none⟩) (k + 1) cap] wr fun e w' => ∃ (x : Int) (b : Bool), e = .returned (.tuple #[.int .i64 x, .bool b]) ∧ ((b = false ∧ begL (zs.take (k + 1)) = none) ∨ (∃ m : Nat, b = true ∧ x = m ∧ begL (zs.take (k + 1)) = some m)) ∧ Below wr.heap.size wr w') :=
    Lib.hid fun k wr hk hw => begins_any (T := T) _ (k + 1) cap _ wr ((h.below hw).take (k + 1) (by omega)) (by omega) (by omega) (hby.take _)
  have HSp : Hid (∀ k wr, k < n → Below w.heap.size w wr → Calls Try.prog 56 #[.slice (some ⟨b, off, none⟩) (k + 1) cap] wr fun e w' => e = .returned (spanV (zs.take (k + 1))) ∧ ∃ q, w' = wr.drewN q) :=
    Lib.hid fun k wr hk hw => span_any (T := T) _ (k + 1) cap _ wr ((h.below hw).take (k + 1) (by omega)) (by omega) (hby.take _)
  have HF := Lib.hid (rf_F zs hby (by omega))
  clear h hc hby
  go_enter Try.func50, Try.ntmps50
  go_upto_block 0 with fail
  go_cut [5] from 6 to 45 (fun v5 wx => ∃ k : Nat, v5 = .int .i64 (k : Nat) ∧ k ≤ n ∧ k ≤ 4 ∧ Hid (F zs = rfEnd n k) ∧ Below w.heap.size w wx)
  case first =>
    go_wp2_with fail
    go_loopg [5] 4 (fun gk v5 wr => ∃ k : Nat, v5 = .int .i64 (k : Nat) ∧ k ≤ n ∧ k ≤ 4 ∧ gk = 4 - k ∧ Hid (rf zs (4 - k) k = F zs) ∧ Below w.heap.size w wr)
    case atStart => exact ⟨0, rfl, by omega, by omega, rfl, HF, Below.refl _ _⟩
    case round =>
      obtain ⟨k, rfl, hkn, hk4, hgk, HK, hbw⟩ := hrel
      have HG := Lib.hid hgk
      have HB := Lib.hid hbw
      have hZ := Lib.hid hzl
      clear hgk hbw
      by_cases h1 : k < n
      case neg =>
        have d1 : decide (k < n) = false := by simpa using h1
        have d2 : decide ((k : Int) < n) = false := by simpa using h1
        have HE : Hid (F zs = rfEnd n k) := Lib.hid (by rw [← HK.out, rf_end (.inr (.inl (by omega))), hzl])
        clear h1 hzl
        go_wp2
        go_meet
        exact ⟨k, rfl, hkn, hk4, HE, HB.out⟩
      have d1 : decide (k < n) = true := by simpa using h1
      have d2 : decide ((k : Int) < n) = true := by simpa using h1
      by_cases h4 : k = 4
      · have d3 : decide (k < 4) = false := by simp; omega
        have d4 : decide ((k : Int) < 4) = false := by simp; omega
        have HE : Hid (F zs = rfEnd n k) := Lib.hid (by rw [← HK.out, rf_end (.inl (by omega)), hzl])
        clear h4 h1 hzl
        go_wp2
        go_meet
        exact ⟨k, rfl, hkn, hk4, HE, HB.out⟩
      have d3 : decide (k < 4) = true := by simp; omega
      have d4 : decide ((k : Int) < 4) = true := by simp; omega
      have hk3 : k < 4 := by omega
      have hcc : k + 1 ≤ cap := by omega
      have hcc2 : (k : Int) + 1 ≤ cap := by omega
      have HBk := Lib.hid (HBg.out k wr h1 HB.out)
      obtain ⟨f, hf⟩ : ∃ f, 4 - k = f + 1 := ⟨4 - k - 1, by omega⟩
      have HFF := Lib.hid hf
      clear h4 hf hzl
      go_wp2_with (go_at_call 55; fail)
      refine HBk.out.mono ?_
      rintro e w1 ⟨x, bb, rfl, hx, hb1⟩
      have HB1 := Lib.hid (HB.out.trans (hb1.mono HB.out.size))
      clear hb1 HBk
      rcases hx with ⟨rfl, hx⟩ | ⟨m, rfl, rfl, hx⟩
      · have HE : Hid (F zs = rfEnd n k) := Lib.hid (by rw [← HK.out, rf_end (.inr (.inr hx)), hZ.out])
        clear hx
        go_wp2
        go_meet
        exact ⟨k, rfl, hkn, hk4, HE, HB1.out⟩
      · obtain ⟨l, t, hs⟩ := begL_span hx
        by_cases hm : k + 1 = m
        · subst hm
          have e1 : (((k : Int) + 1) == ((k + 1 : Nat) : Int)) = true := by simp
          have HE : Hid (F zs = (l, k + 1, true)) := Lib.hid (by rw [← HK.out, HFF.out, rf_hit (by rw [hZ.out]; exact h1) hx hs])
          have HS1 := Lib.hid (HSp.out k w1 h1 HB1.out)
          rw [spanV_some hs] at HS1
          clear hx hs
          go_wp2_with (go_at_call 56; refine HS1.out.mono ?_; rintro e w' ⟨rfl, q, rfl⟩)
          refine bodyPost_ret (results_tmp3 rfl _ _ _) rfl ?_
          refine ⟨?_, HB1.out.trans ((Below.drewN' w1 q).mono HB1.out.size)⟩
          rw [HE.out]
          rfl
        · have e1 : (((k : Int) + 1) == (m : Int)) = false := by simp; omega
          have HN : Hid (rf zs (4 - (k + 1)) (k + 1) = F zs) := Lib.hid (by rw [← HK.out, HFF.out, rf_next (by rw [hZ.out]; exact h1) hx hm, show 4 - (k + 1) = f by have := HFF.out; omega])
          clear hx hs hm
          go_wp2
          go_roundg (4 - (k + 1))
          case measure => have := HG.out; omega
          case rel => exact ⟨k + 1, by go_num, by omega, by omega, rfl, HN, HB1.out⟩
  case rest =>
    obtain ⟨k, rfl, hkn, hk4, HE, hbw⟩ := hcut
    have HB := Lib.hid hbw
    obtain ⟨M, hM⟩ : ∃ M : Int, (if 1 < (k : Int) then (k : Int) else 1) = M := ⟨_, rfl⟩
    have HMM : Hid (M = ((max 1 k : Nat) : Int)) := Lib.hid (by rw [← hM]; omega)
    clear hbw
    by_cases h0 : k = 0
    · have z0 : ((k : Int) == 0) = true := by simpa using h0
      have z0' : (k == 0) = true := by simpa using h0
      have HZ : Hid (decide (k = 0 ∨ k < n) = true) := Lib.hid (by simp [h0])
      clear h0
      go_wp2
      refine bodyPost_ret (results_tmp3 rfl _ _ _) rfl ?_
      refine ⟨?_, HB.out⟩
      rw [HE.out, rfEnd, HZ.out, ← HMM.out]
      rfl
    · have z0 : ((k : Int) == 0) = false := by simpa using h0
      have z0' : (k == 0) = false := by simpa using h0
      obtain ⟨z1, hz1⟩ : ∃ z1, decide ((k : Int) < n) = z1 := ⟨_, rfl⟩
      have hz2 : decide (k < n) = z1 := by rw [← hz1]; simp
      have HZ : Hid (decide (k = 0 ∨ k < n) = z1) := Lib.hid (by rw [← hz2]; simp [h0])
      clear h0
      go_wp2
      refine bodyPost_ret (results_tmp3 rfl _ _ _) rfl ?_
      refine ⟨?_, HB.out⟩
      rw [HE.out, rfEnd, HZ.out, ← HMM.out]
      rfl
end Go.Proofs.Ytfkfooclapogjaa
