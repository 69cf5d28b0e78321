/-
  The ring: what is there is told, and nothing turns; Set.
-/
import Derived.Test.YthiajgkifoimcaaTc
namespace Go.Proofs.Ythiajgkifoimcaa
open Go.RowKit
set_option linter.unusedVariables false
set_option linter.unusedSimpArgs false

set_option maxHeartbeats 800000 in
set_option maxRecDepth 100000 in
theorem place_in (base p : Nat) (F N at' m : Int) (sv : Value) (vs : List Int) (w : World) (h : RingAt w base p F N m sv vs)
    (h1 : 1 ≤ m) (h2 : m ≤ 4096) (h3 : (vs.length : Int) ≤ 4096) (ha : 0 ≤ at') (ha2 : at' ≤ 18446744073709551615) (i : Nat) (him : at' % m = i) (hi : i < vs.length) :
    Calls Try.prog 26 #[.pointer (some ⟨p, 0, none⟩), .int .u64 at'] w fun e w' => ∃ q cap, sv = .slice (some ⟨q, 0, none⟩) vs.length cap ∧ e = .returned (.pointer (some ⟨q, i, none⟩)) ∧ w = w' := by
  obtain ⟨q, cap, cur, hv, hbq, hgq, hnc, hcm, hcs, htk⟩ := row_some h.row (by omega)
  have hm0 := Int.emod_nonneg at' (show m ≠ 0 by omega)
  have hm1 := Int.emod_lt_of_pos at' (show 0 < m by omega)
  have hm2 : (i : Int) < 4096 := by omega
  have c3 := h.c3
  have c2 := h.c2
  subst hv
  have hil : (i : Int) < (vs.length : Int) := by omega
  obtain ⟨n, hn⟩ : ∃ n, n = vs.length := ⟨_, rfl⟩
  rw [← hn] at c2 hil h3 hi hnc ⊢
  have hd : decide (n ≤ i) = false := by simp; omega
  have hd2 : decide ((n : Int) ≤ i) = false := by simp; omega
  clear h hm0 hm1 htk hcs hcm hgq hbq hn
  go_enter Try.func26, Try.ntmps26
  go_wp2
  refine wp_loop_rounds 1 ?_
  rw [rounds_succ]
  go_wp2
  go_ret
  exact ⟨q, cap, rfl, rfl, rfl⟩

set_option maxHeartbeats 400000 in
set_option maxRecDepth 100000 in
theorem value_in (base p : Nat) (F N at' m : Int) (sv : Value) (vs : List Int) (w : World) (h : RingAt w base p F N m sv vs)
    (h1 : 1 ≤ m) (h2 : m ≤ 4096) (h3 : (vs.length : Int) ≤ 4096) (ha : 0 ≤ at') (ha2 : at' ≤ 18446744073709551615) (i : Nat) (him : at' % m = i) (hi : i < vs.length) :
    Calls Try.prog 28 #[.pointer (some ⟨p, 0, none⟩), .int .u64 at'] w fun e w' => e = .returned (.int .i64 (vs.getD i 0)) ∧ w = w' := by
  have HC := Lib.hid (place_in base p F N at' m sv vs w h h1 h2 h3 ha ha2 i him hi)
  have hcell : ∀ q cap, sv = .slice (some ⟨q, 0, none⟩) vs.length cap → w.cell? ⟨q, i, none⟩ = some (.int .i64 (vs.getD i 0)) := by
    rintro q cap rfl
    rw [h.row.cellAt i (by omega), List.getElem?_map]
    simp [List.getD, hi]
  obtain ⟨y, hy⟩ : ∃ y, y = vs.getD i 0 := ⟨_, rfl⟩
  rw [← hy] at hcell ⊢
  have HCL := Lib.hid hcell
  clear h him hy hcell
  go_enter Try.func28, Try.ntmps28
  go_wp2_with fail
  refine HC.out.mono ?_
  rintro e w1 ⟨q, cap, hv, rfl, rfl⟩
  have hc := HCL.out q cap hv
  have HV := Lib.hid hv
  clear hv
  go_wp2
  go_ret
  exact ⟨rfl, rfl⟩

set_option maxHeartbeats 400000 in
set_option maxRecDepth 100000 in
theorem told_in' (base p : Nat) (F N at' m : Int) (sv : Value) (vs : List Int) (w : World) (h : RingAt w base p F N m sv vs) (ho : outB at' F N = false)
    (h1 : 1 ≤ m) (h2 : m ≤ 4096) (h3 : (vs.length : Int) ≤ 4096) (ha : 0 ≤ at') (ha2 : at' ≤ 18446744073709551615) (i : Nat) (him : at' % m = i) (hi : i < vs.length) :
    Calls Try.prog 27 #[.pointer (some ⟨p, 0, none⟩), .int .u64 at', .func (.func 28) #[.pointer (some ⟨p, 0, none⟩)] #[]] w fun e w' => e = .returned (.tuple #[.int .i64 (vs.getD i 0), .bool true]) ∧ Below w.heap.size w w' := by
  have hp := h.lt
  have hm : (m == 0) = false := by simp; omega
  have HN := Lib.hid (none_ring p m w hm h.c3)
  have k0 : (w.alloc (.cells #[.int .u64 at'] 22)).cell? ⟨p, 0, none⟩ = some (.int .u64 F) := by rw [World.cell?_alloc_past _ _ _ hp]; exact h.c0
  have k1 : (w.alloc (.cells #[.int .u64 at'] 22)).cell? ⟨p, 1, none⟩ = some (.int .u64 N) := by rw [World.cell?_alloc_past _ _ _ hp]; exact h.c1
  have k2 : (w.alloc (.cells #[.int .u64 at'] 22)).cell? ⟨w.heap.size, 0, none⟩ = some (.int .u64 at') := by rw [World.cell?_alloc_at _ _ _ _ rfl]; rfl
  have HH := Lib.hid (hasOne w.heap.size p at' F N _ (by simp) (by simp; omega) k2 k0 k1)
  rw [ho] at HH
  have HV := Lib.hid (fun (w1 : World) (hr : RingAt w1 base p F N m sv vs) => value_in base p F N at' m sv vs w1 hr h1 h2 h3 ha ha2 i him hi)
  have HR := Lib.hid h
  obtain ⟨y, hy⟩ : ∃ y, y = vs.getD i 0 := ⟨_, rfl⟩
  rw [← hy] at HV ⊢
  clear k0 k1 k2 h hm ho him hy
  go_enter Try.func27, Try.ntmps27
  go_wp2_with (first | (go_at_call 24; refine HN.out.mono ?_; rintro e w' ⟨rfl, rfl⟩) | (go_at_call 39; refine HH.out.mono ?_; rintro e w1 ⟨rfl, hb1⟩))
  have hB : Below w.heap.size w w1 := ((Below.refl _ _).alloc (Nat.le_refl _) _).trans (hb1.mono (by simp))
  have hR := HR.out.mod (Mod.of_below hB (fun _ => False)) (fun _ _ h => h)
  refine (HV.out w1 hR).mono ?_
  rintro e w2 ⟨rfl, rfl⟩
  have HB := Lib.hid hB
  clear hR hB hb1
  go_wp2
  go_ret2
  exact ⟨rfl, HB.out⟩

theorem Ring.at_ {w : World} {base p : Nat} {F m : Int} {sv : Value} {L : List Int} (h : Ring w base p F m sv L) {j : Nat} (hj : j < L.length) :
    ∃ vs i, RingAt w base p F (F + L.length) m sv vs ∧ Lies F m L vs ∧ (F + (j : Int)) % m = (i : Nat) ∧ i < vs.length ∧ vs.getD i 0 = L.getD j 0 ∧ outB (F + j) F (F + L.length) = false := by
  obtain ⟨vs, hr, hl⟩ := h
  obtain ⟨i, h1, h2, h3⟩ := hl.at_ j hj
  exact ⟨vs, i, hr, hl, h1, h2, h3, by simp [outB]; omega⟩

theorem Get_ring (base p : Nat) (F m : Int) (sv : Value) (L : List Int) (w : World) (h : Ring w base p F m sv L) (at' : Int) (j : Nat) (hj : j < L.length) (ha : at' = F + j) :
    Calls Try.prog 15 #[.pointer (some ⟨p, 0, none⟩), .int .u64 at'] w fun e w' => e = .returned (.tuple #[.int .i64 (L.getD j 0), .bool true]) ∧ Below w.heap.size w w' := by
  obtain ⟨vs, i, hr, hl, h1, h2, h3, h4⟩ := h.at_ hj
  subst ha
  have g1 := hl.le; have g2 := hl.m2; have g3 := hl.F0; have g4 := hl.FN
  have HT := Lib.hid (told_in' base p F _ _ m sv vs w hr h4 hl.m1 hl.m2 (by omega) (by omega) (by omega) i h1 h2)
  rw [h3] at HT
  obtain ⟨a, ha⟩ : ∃ a, a = F + (j : Int) := ⟨_, rfl⟩
  rw [← ha] at HT ⊢
  obtain ⟨y, hy⟩ : ∃ y, y = L.getD j 0 := ⟨_, rfl⟩
  rw [← hy] at HT ⊢
  clear h hr hl h1 h2 h3 h4 ha hy
  go_enter Try.func15, Try.ntmps15
  go_wp2_with (go_at_call 27; refine HT.out.mono ?_; rintro e w1 ⟨rfl, hb1⟩)
  go_ret2
  exact ⟨rfl, hb1⟩
theorem value_ring (base p : Nat) (F m : Int) (sv : Value) (L : List Int) (w : World) (h : Ring w base p F m sv L) (at' : Int) (j : Nat) (hj : j < L.length) (ha : at' = F + j) :
    Calls Try.prog 28 #[.pointer (some ⟨p, 0, none⟩), .int .u64 at'] w fun e w' => e = .returned (.int .i64 (L.getD j 0)) ∧ w = w' := by
  obtain ⟨vs, i, hr, hl, h1, h2, h3, h4⟩ := h.at_ hj
  subst ha
  have g1 := hl.le; have g2 := hl.m2; have g3 := hl.F0; have g4 := hl.FN
  rw [← h3]
  exact value_in base p F _ _ m sv vs w hr hl.m1 hl.m2 (by omega) (by omega) (by omega) i h1 h2

theorem Lies.set {F m : Int} {L vs : List Int} (h : Lies F m L vs) {j i : Nat} (hj : j < L.length) (hi : (F + (j : Int)) % m = i) (x : Int) : Lies F m (L.set j x) (vs.set i x) := by
  refine ⟨by simpa using h.le, ?_, h.F0, by simpa using h.FN, by simpa using h.Lm, h.m1, h.m2⟩
  intro t ht
  rw [List.length_set] at ht
  obtain ⟨k, hk, hk2, hk3⟩ := h.at_ t ht
  refine ⟨k, hk, by simpa using hk2, ?_⟩
  by_cases e : t = j
  · subst e
    obtain rfl : k = i := by omega
    simp [List.getD, hk2, ht]
  · have hne : k ≠ i := by
      intro e2
      subst e2
      have hm := h.Lm
      rcases Nat.lt_or_ge t j with h' | h'
      · have := mod_ne (x := F + t) (d := (j : Int) - t) (m := m) (by omega) (by omega)
        rw [show F + (t : Int) + ((j : Int) - t) = F + j by omega] at this
        omega
      · have := mod_ne (x := F + j) (d := (t : Int) - j) (m := m) (by omega) (by omega)
        rw [show F + (j : Int) + ((t : Int) - j) = F + t by omega] at this
        omega
    simp only [List.getD] at hk3 ⊢
    rw [List.getElem?_set_ne (Ne.symm hne), List.getElem?_set_ne (Ne.symm e)]
    exact hk3

set_option maxHeartbeats 800000 in
set_option maxRecDepth 100000 in
theorem Set_ring_in (base p : Nat) (F m val : Int) (sv : Value) (L : List Int) (w : World) (h : Ring w base p F m sv L) (at' : Int) (j : Nat) (hj : j < L.length) (ha : at' = F + j) :
    Calls Try.prog 22 #[.pointer (some ⟨p, 0, none⟩), .int .u64 at', .int .i64 val] w fun e w' => e = .returned (.tuple #[.int .i64 (L.getD j 0), .bool true]) ∧ Ring w' base p F m sv (L.set j val) ∧ Step p sv sv w w' := by
  obtain ⟨vs, i, hr, hl, h1, h2, h3, h4⟩ := h.at_ hj
  subst ha
  have g1 := hl.le; have g2 := hl.m2; have g3 := hl.F0; have g4 := hl.FN
  have HT := Lib.hid (told_in' base p F _ _ m sv vs w hr h4 hl.m1 hl.m2 (by omega) (by omega) (by omega) i h1 h2)
  rw [h3] at HT
  have HP := Lib.hid (fun (W : World) (hW : RingAt W base p F (F + L.length) m sv vs) => place_in base p F _ (F + j) m sv vs W hW hl.m1 hl.m2 (by omega) (by omega) (by omega) i h1 h2)
  have HLi := Lib.hid (hl.set hj h1 val)
  have HR := Lib.hid hr
  have HI := Lib.hid h2
  obtain ⟨a, ha⟩ : ∃ a, a = F + (j : Int) := ⟨_, rfl⟩
  rw [← ha] at HT HP ⊢
  obtain ⟨y, hy⟩ : ∃ y, y = L.getD j 0 := ⟨_, rfl⟩
  rw [← hy] at HT ⊢
  clear h hr hl h1 h2 h3 h4 ha hy g1 g2 g3 g4
  go_enter Try.func22, Try.ntmps22
  go_wp2_with (go_at_call 27; refine HT.out.mono ?_; rintro e w1 ⟨rfl, hb1⟩)
  have HR1 := Lib.hid (HR.out.mod (Mod.of_below hb1 (fun _ => False)) (fun _ _ h => h))
  have HB1 := Lib.hid hb1
  clear hb1
  go_wp2_with fail
  refine (HP.out w1 HR1.out).mono ?_
  rintro e w2 ⟨q, cap, rfl, rfl, rfl⟩
  obtain ⟨s1, s2, ⟨u, s3⟩, s4⟩ := HR1.out.stored i val HI.out
  have S1 := Lib.hid s1
  have S2 := Lib.hid s2
  clear s1 s2
  go_wp2
  go_ret2
  exact ⟨rfl, ⟨_, by simpa using S1.out, HLi.out⟩, (Step.of_below HB1.out).trans S2.out⟩
theorem Set_ring_out (base p : Nat) (F m val : Int) (sv : Value) (L : List Int) (w : World) (h : Ring w base p F m sv L) (at' : Int) (ha : at' < F ∨ F + L.length ≤ at') :
    Calls Try.prog 22 #[.pointer (some ⟨p, 0, none⟩), .int .u64 at', .int .i64 val] w fun e w' => e = .returned (.tuple #[.int .i64 0, .bool false]) ∧ Below w.heap.size w w' := by
  obtain ⟨vs, hr, hl⟩ := h
  have HT := Lib.hid (told_out base p F _ at' m sv vs w hr hl.m1 (by simp [outB]; omega))
  clear ha hr hl
  go_enter Try.func22, Try.ntmps22
  go_wp2_with (go_at_call 27; refine HT.out.mono ?_; rintro e w1 ⟨rfl, hb1⟩)
  go_ret2
  exact ⟨rfl, hb1⟩
end Go.Proofs.Ythiajgkifoimcaa
