/-
  The document's ring: Next, Has, Get, From, New, Drop.
-/
import Derived.Test.YthiajgkifoimcaaSb
namespace Go.Proofs.Ythiajgkifoimcaa
open Go.RowKit
set_option linter.unusedVariables false
set_option linter.unusedSimpArgs false

/-- A list of numbers in memory. -/
structure RL (w : World) (lo : Nat) (ao : Option Addr) (n cap : Nat) (L : List Int) : Prop where
  len : L.length = n
  le : n ≤ cap
  mx : cap ≤ maxLen
  nn : ao = none → cap = 0
  at_ : 0 < n → ∃ b off, ao = some ⟨b, off, none⟩ ∧ lo ≤ b ∧ b < w.heap.size ∧ ∀ j, j < n → w.cell? ⟨b, off + j, none⟩ = some (.int .i64 (L.getD j 0))
theorem RL.nil (w : World) (lo : Nat) : RL w lo none 0 0 [] := ⟨rfl, Nat.le_refl _, by simp [maxLen], fun _ => rfl, fun h => by omega⟩
theorem RL.mod {w w' : World} {S : Nat → Prop} {lo : Nat} {ao : Option Addr} {n cap : Nat} {L : List Int} (h : RL w lo ao n cap L) (hm : Mod S w w') (hs : ∀ b off, 0 < n → ao = some ⟨b, off, none⟩ → ¬ S b) : RL w' lo ao n cap L :=
  ⟨h.len, h.le, h.mx, h.nn, fun hp => by
    obtain ⟨b, off, e, hl, hb, hc⟩ := h.at_ hp
    exact ⟨b, off, e, hl, Nat.lt_of_lt_of_le hb hm.size, fun j hj => (hm.cell (p := ⟨b, off + j, none⟩) hb (hs b off hp e)).trans (hc j hj)⟩⟩
theorem RL.below {w w' : World} {lo : Nat} {ao : Option Addr} {n cap : Nat} {L : List Int} (h : RL w lo ao n cap L) (hb : Below w.heap.size w w') : RL w' lo ao n cap L :=
  h.mod (Mod.of_below hb (fun _ => False)) (fun _ _ _ _ h => h)
theorem RL.mono {w : World} {lo lo' : Nat} {ao : Option Addr} {n cap : Nat} {L : List Int} (h : RL w lo ao n cap L) (hl : lo' ≤ lo) : RL w lo' ao n cap L :=
  ⟨h.len, h.le, h.mx, h.nn, fun hp => by
    obtain ⟨b, off, e, h1, h2⟩ := h.at_ hp
    exact ⟨b, off, e, Nat.le_trans hl h1, h2⟩⟩
theorem RL.drewN {w : World} {lo : Nat} {ao : Option Addr} {n cap : Nat} {L : List Int} (h : RL w lo ao n cap L) (k : Nat) : RL (w.drewN k) lo ao n cap L := ⟨h.len, h.le, h.mx, h.nn, h.at_⟩

theorem RL.drew {w : World} {lo : Nat} {ao : Option Addr} {n cap : Nat} {L : List Int} (h : RL w lo ao n cap L) : RL w.drew lo ao n cap L := ⟨h.len, h.le, h.mx, h.nn, h.at_⟩
theorem RL.drop {w : World} {lo b off n cap j : Nat} {L : List Int} (h : RL w lo (some ⟨b, off, none⟩) n cap L) (hj : j < n) : RL w lo (some ⟨b, off + j, none⟩) (n - j) (cap - j) (L.drop j) :=
  ⟨by rw [List.length_drop, h.len], by have := h.le; omega, Nat.le_trans (Nat.sub_le _ _) h.mx, (fun e => by cases e), fun _ => by
    obtain ⟨b', off', e, hl, hb, hc⟩ := h.at_ (by omega)
    cases e
    refine ⟨b, off + j, rfl, hl, hb, fun i hi => ?_⟩
    rw [Nat.add_assoc, hc (j + i) (by omega)]
    simp [List.getD]⟩

def ragg (ao : Option Addr) (n cap : Nat) (F m : Int) : Value := .agg #[.slice ao n cap, .int .u64 F, .int .i64 m]

set_option maxHeartbeats 800000 in
theorem refNew_ok (m x : Int) (w : World) (h1 : 1 ≤ m) (h2 : m ≤ 4096) :
    Calls Try.prog 16 #[.int .i64 m, .int .u64 x] w fun e w' => e = .returned (.tuple #[ragg none 0 0 x m, .int .i64 0]) ∧ Below w.heap.size w w' := by
  unfold ragg
  go_enter Try.func16, Try.ntmps16
  go_wp2
  refine bodyPost_ret (v := .tuple #[.agg #[.slice none 0 0, .int .u64 x, .int .i64 m], .int .i64 0]) (by simp [results, Try.results16, go_sem]) rfl ⟨rfl, ?_⟩
  exact (Below.refl _ _).alloc (Nat.le_refl _) _
set_option maxHeartbeats 800000 in
theorem refNew_bad (m x : Int) (w : World) (h : m < 1 ∨ 4096 < m) :
    Calls Try.prog 16 #[.int .i64 m, .int .u64 x] w fun e w' => e = .returned (.tuple #[ragg none 0 0 0 0, .int .i64 2]) ∧ Below w.heap.size w w' := by
  unfold ragg
  by_cases h1 : m < 1
  · go_enter Try.func16, Try.ntmps16
    go_wp2
    refine bodyPost_ret (v := .tuple #[.agg #[.slice none 0 0, .int .u64 0, .int .i64 0], .int .i64 2]) (by simp [results, Try.results16, go_sem]) rfl ⟨rfl, ?_⟩
    exact (Below.refl _ _).alloc (Nat.le_refl _) _
  · have h2 : 4096 < m := by omega
    clear h
    go_enter Try.func16, Try.ntmps16
    go_wp2
    refine bodyPost_ret (v := .tuple #[.agg #[.slice none 0 0, .int .u64 0, .int .i64 0], .int .i64 2]) (by simp [results, Try.results16, go_sem]) rfl ⟨rfl, ?_⟩
    exact (Below.refl _ _).alloc (Nat.le_refl _) _

theorem refNext (ao : Option Addr) (n cap : Nat) (F m : Int) (w : World) (hn : n ≤ 4096) (h0 : 0 ≤ F) (h1 : F + n ≤ 18446744073709551615) :
    Calls Try.prog 34 #[ragg ao n cap F m] w fun e w' => e = .returned (.int .u64 (F + n)) ∧ Below w.heap.size w w' := by
  unfold ragg
  go_enter Try.func34, Try.ntmps34
  go_wp2
  go_ret
  exact ⟨rfl, (Below.refl _ _).alloc (Nat.le_refl _) _⟩

theorem refHas_in (ao : Option Addr) (n cap j : Nat) (F m at' : Int) (w : World) (hn : n ≤ 4096) (h0 : 0 ≤ F) (h1 : F + n ≤ 18446744073709551615) (hj : j < n) (ha : at' = F + j) :
    Calls Try.prog 40 #[ragg ao n cap F m, .int .u64 at'] w fun e w' => e = .returned (.bool true) ∧ Below w.heap.size w w' := by
  unfold ragg
  have d1 : decide (F ≤ at') = true := by simp; omega
  have hx : at' - F = (j : Int) := by omega
  have d2 : decide ((j : Int) < n) = true := by simp; omega
  have d3 : decide (j < n) = true := by simpa using hj
  have ha1 : at' ≤ 18446744073709551615 := by omega
  have ha0 : F ≤ at' := by omega
  clear ha
  go_enter Try.func40, Try.ntmps40
  go_wp2
  go_ret
  exact ⟨rfl, (Below.refl _ _).alloc (Nat.le_refl _) _⟩
theorem refHas_out (ao : Option Addr) (n cap : Nat) (F m at' : Int) (w : World) (hn : n ≤ 4096) (h0 : 0 ≤ F) (h1 : F + n ≤ 18446744073709551615) (ha0 : 0 ≤ at') (ha1 : at' ≤ 18446744073709551615) (ho : at' < F ∨ F + n ≤ at') :
    Calls Try.prog 40 #[ragg ao n cap F m, .int .u64 at'] w fun e w' => e = .returned (.bool false) ∧ Below w.heap.size w w' := by
  unfold ragg
  by_cases hlt : at' < F
  · have d1 : decide (F ≤ at') = false := by simpa using hlt
    clear ho
    go_enter Try.func40, Try.ntmps40
    go_wp2
    go_ret
    exact ⟨rfl, (Below.refl _ _).alloc (Nat.le_refl _) _⟩
  · have d1 : decide (F ≤ at') = true := by simp; omega
    obtain ⟨x, hx⟩ : ∃ x, at' - F = x := ⟨_, rfl⟩
    have hx0 : 0 ≤ x := by omega
    have hx1 : x ≤ 18446744073709551615 := by omega
    have d2 : decide (x < (n : Int)) = false := by simp; omega
    have ha0 : F ≤ at' := by omega
    clear ho hlt
    go_enter Try.func40, Try.ntmps40
    go_wp2
    go_ret
    exact ⟨rfl, (Below.refl _ _).alloc (Nat.le_refl _) _⟩

set_option maxHeartbeats 800000 in
theorem refGet_out (ao : Option Addr) (n cap : Nat) (F m at' : Int) (w : World) (hn : n ≤ 4096) (h0 : 0 ≤ F) (h1 : F + n ≤ 18446744073709551615) (ha0 : 0 ≤ at') (ha1 : at' ≤ 18446744073709551615) (ho : at' < F ∨ F + n ≤ at') :
    Calls Try.prog 33 #[ragg ao n cap F m, .int .u64 at'] w fun e w' => e = .returned (.tuple #[.int .i64 0, .bool false]) ∧ Below w.heap.size w w' := by
  have HH := Lib.hid (fun W => refHas_out ao n cap F m at' W hn h0 h1 ha0 ha1 ho)
  unfold ragg at HH ⊢
  clear ho
  go_enter Try.func33, Try.ntmps33
  go_wp2_with (go_at_call 40; refine (HH.out _).mono ?_; rintro e w1 ⟨rfl, hb⟩)
  go_ret2
  exact ⟨rfl, ((Below.refl _ _).alloc (Nat.le_refl _) _).trans (hb.mono (by simp))⟩
set_option maxHeartbeats 800000 in
theorem refGet_in (lo : Nat) (ao : Option Addr) (n cap j : Nat) (F m at' : Int) (L : List Int) (w : World) (h : RL w lo ao n cap L) (hn : n ≤ 4096) (h0 : 0 ≤ F) (h1 : F + n ≤ 18446744073709551615) (hj : j < n) (ha : at' = F + j) :
    Calls Try.prog 33 #[ragg ao n cap F m, .int .u64 at'] w fun e w' => e = .returned (.tuple #[.int .i64 (L.getD j 0), .bool true]) ∧ Below w.heap.size w w' := by
  have HH := Lib.hid (fun W => refHas_in ao n cap j F m at' W hn h0 h1 hj ha)
  obtain ⟨b, off, rfl, hl, hb, hc⟩ := h.at_ (by omega)
  obtain ⟨y, hy⟩ : ∃ y, y = L.getD j 0 := ⟨_, rfl⟩
  have hc1 := hc j hj
  rw [← hy] at hc1 ⊢
  have HB := Lib.hid ((Below.refl _ w).alloc (Nat.le_refl _) (.cells #[.slice (some ⟨b, off, none⟩) n cap, .int .u64 F, .int .i64 m] 40))
  have hk := alloc_blk_new w (.cells #[.slice (some ⟨b, off, none⟩) n cap, .int .u64 F, .int .i64 m] 40)
  have hc2 := (HB.out.cell (p := ⟨b, off + j, none⟩) hb).trans hc1
  unfold ragg at HH ⊢
  have HK := Lib.hid hk
  have HC := Lib.hid hc2
  have hjn : (j : Int) < n := by omega
  have hx : at' - F = (j : Int) := by omega
  have ha1 : at' ≤ 18446744073709551615 := by omega
  have ha0 : F ≤ at' := by omega
  clear hc h hy hc1 hc2 hk ha
  go_enter Try.func33, Try.ntmps33
  go_wp2_with fail
  refine (HH.out _).mono ?_
  rintro e w1 ⟨rfl, hb1⟩
  have k1 := (hb1.block w.heap.size (by simp)).trans HK.out
  have x0 := cell_blk k1 0 _ rfl
  have x1 := cell_blk k1 1 _ rfl
  have c1 := (hb1.cell (p := ⟨b, off + j, none⟩) (by simp; omega)).trans HC.out
  have HB1 := Lib.hid (HB.out.trans (hb1.mono (by simp)))
  clear k1 hb1
  go_wp2
  go_ret2
  exact ⟨rfl, HB1.out⟩

set_option maxHeartbeats 800000 in
/-- From: the values from an index on. -/
theorem refFrom (lo : Nat) (ao : Option Addr) (n cap : Nat) (F m at' : Int) (L : List Int) (w : World) (h : RL w lo ao n cap L) (hn : n ≤ 4096) (h0 : 0 ≤ F) (h1 : F + n ≤ 18446744073709551615) (ha0 : 0 ≤ at') (ha1 : at' ≤ 18446744073709551615) :
    Calls Try.prog 35 #[ragg ao n cap F m, .int .u64 at'] w fun e w' => ∃ ao' n' cap', e = .returned (.tuple #[.int .u64 (max at' F), .slice ao' n' cap']) ∧ RL w' lo ao' n' cap' (L.drop (at' - F).toNat) ∧ Below w.heap.size w w' := by
  by_cases hle : at' ≤ F
  · have d1 : decide (at' ≤ F) = true := by simpa using hle
    have e1 : max at' F = F := by omega
    have e2 : (at' - F).toNat = 0 := by omega
    rw [e1, e2, List.drop_zero]
    have HR := Lib.hid h
    unfold ragg
    clear e1 e2 h
    go_enter Try.func35, Try.ntmps35
    go_wp2
    go_quiet (fail)
    go_wp2
    go_ret2
    have hb := (Below.refl _ w).alloc (Nat.le_refl _) (.cells #[.slice ao n cap, .int .u64 F, .int .i64 m] 40)
    exact ⟨_, _, _, rfl, (HR.out.below hb).drewN _, ⟨hb.os, hb.tape, hb.output, hb.size, hb.block⟩⟩
  · have d1 : decide (at' ≤ F) = false := by simpa using hle
    have e1 : max at' F = at' := by omega
    rw [e1]
    by_cases hj : at' - F < n
    · obtain ⟨j, hx⟩ : ∃ j : Nat, at' - F = j := ⟨(at' - F).toNat, by omega⟩
      have e2 : (at' - F).toNat = j := by omega
      rw [e2]
      have hjn : j < n := by omega
      have HH := Lib.hid (fun W => refHas_in ao n cap j F m at' W hn h0 h1 hjn (by omega))
      obtain ⟨b, off, rfl, hl, hb, hc⟩ := h.at_ (by omega)
      have HR := Lib.hid h
      have HB := Lib.hid ((Below.refl _ w).alloc (Nat.le_refl _) (.cells #[.slice (some ⟨b, off, none⟩) n cap, .int .u64 F, .int .i64 m] 40))
      have HK := Lib.hid (alloc_blk_new w (.cells #[.slice (some ⟨b, off, none⟩) n cap, .int .u64 F, .int .i64 m] 40))
      have hle := h.le
      have hmx := h.mx
      unfold maxLen at hmx
      have hj1 : (0 : Int) ≤ (j : Int) := by omega
      have hj2 : (j : Int) ≤ n := by omega
      have hj3 : (j : Int) ≤ cap := by omega
      have hcapj2 : ¬ j = cap := by omega
      have hcapj4 : ¬ (j : Int) = cap := by omega
      unfold ragg at HH ⊢
      clear hc h e1 e2 hj
      go_enter Try.func35, Try.ntmps35
      go_wp2_with fail
      refine (HH.out _).mono ?_
      rintro e w1 ⟨rfl, hb1⟩
      have k1 := (hb1.block w.heap.size (by simp)).trans HK.out
      have x0 := cell_blk k1 0 _ rfl
      have x1 := cell_blk k1 1 _ rfl
      have HB1 := Lib.hid (HB.out.trans (hb1.mono (by simp)))
      have HR1 := Lib.hid (HR.out.below HB1.out)
      clear k1 hb1
      go_wp2_with fail
      go_quiet (fail)
      go_wp2
      go_ret2
      exact ⟨_, _, _, rfl, (HR1.out.drop hjn).drewN _, ⟨HB1.out.os, HB1.out.tape, HB1.out.output, HB1.out.size, HB1.out.block⟩⟩
    · have e2 : L.drop (at' - F).toNat = [] := List.drop_eq_nil_of_le (by have := h.len; omega)
      rw [e2]
      have HH := Lib.hid (fun W => refHas_out ao n cap F m at' W hn h0 h1 ha0 ha1 (by omega))
      unfold ragg at HH ⊢
      clear h e1 e2 hj
      go_enter Try.func35, Try.ntmps35
      go_wp2_with (go_at_call 40; refine (HH.out _).mono ?_; rintro e w1 ⟨rfl, hb1⟩)
      go_ret2
      exact ⟨none, 0, 0, rfl, RL.nil _ _, ((Below.refl _ w).alloc (Nat.le_refl _) _).trans (hb1.mono (by simp))⟩

set_option maxHeartbeats 800000 in
theorem refDrop_none (ao : Option Addr) (cap : Nat) (F m : Int) (w : World) :
    Calls Try.prog 31 #[ragg ao 0 cap F m] w fun e w' => e = .returned (.tuple #[ragg ao 0 cap F m, .int .i64 0, .bool false]) ∧ Below w.heap.size w w' := by
  unfold ragg
  go_enter Try.func31, Try.ntmps31
  go_wp2
  refine bodyPost_ret (v := .tuple #[.agg #[.slice ao 0 cap, .int .u64 F, .int .i64 m], .int .i64 0, .bool false]) (by simp [results, Try.results31, go_sem]) rfl ⟨rfl, ?_⟩
  exact ((Below.refl _ _).alloc (Nat.le_refl _) _).alloc (by simp) _

set_option maxHeartbeats 800000 in
theorem refDrop_some (lo : Nat) (ao : Option Addr) (n cap : Nat) (F m y : Int) (L : List Int) (w : World) (h : RL w lo ao (n + 1) cap (y :: L)) (hn : n + 1 ≤ 4096) (h0 : 0 ≤ F) (h1 : F + n + 1 ≤ 18446744073709551615) :
    Calls Try.prog 31 #[ragg ao (n + 1) cap F m] w fun e w' => ∃ ao' cap', e = .returned (.tuple #[ragg ao' n cap' (F + 1) m, .int .i64 y, .bool true]) ∧ RL w' lo ao' n cap' L ∧ (∀ b off, ao' = some ⟨b, off, none⟩ → ∃ off0, ao = some ⟨b, off0, none⟩) ∧ Below w.heap.size w w' := by
  obtain ⟨b, off, rfl, hl, hb, hc⟩ := h.at_ (by omega)
  have HR := Lib.hid h
  have hc0 := hc 0 (by omega)
  have hc1 : w.cell? ⟨b, off, none⟩ = some (.int .i64 y) := by simpa [List.getD] using hc0
  have HB1 := Lib.hid ((Below.refl _ w).alloc (Nat.le_refl _) (.cells #[.slice (some ⟨b, off, none⟩) (n + 1) cap, .int .u64 F, .int .i64 m] 40))
  have hle := h.le
  have hmx := h.mx
  unfold maxLen at hmx
  have d1 : (n + 1 == 0) = false := by simp
  have d2 : (((n + 1 : Nat) : Int) == 0) = false := by simp; omega
  have hadd : IntKind.u64.wrap (F + 1) = F + 1 := by rw [IntKind.wrap_u64]; omega
  unfold ragg
  clear hc hc0 h
  by_cases hcap : cap = 1
  · subst hcap
    obtain rfl : n = 0 := by omega
    obtain rfl : L = [] := List.eq_nil_of_length_eq_zero (by have := HR.out.len; simpa using this)
    go_enter Try.func31, Try.ntmps31
    go_wp2
    go_region
    all_goals
      go_wp2
      refine bodyPost_ret (v := .tuple #[.agg #[.slice (some ⟨b, off, none⟩) 0 0, .int .u64 (F + 1), .int .i64 m], .int .i64 y, .bool true]) (by simp [results, Try.results31, go_sem]) rfl ⟨_, _, rfl, ?_, (fun b' off' e => by cases e; exact ⟨_, rfl⟩), ?_⟩
      · exact ⟨rfl, Nat.le_refl _, by simp [maxLen], fun _ => rfl, fun h => by omega⟩
      · exact (((Below.refl _ _).alloc (Nat.le_refl _) _).alloc (by simp) _).drew
  · have hcap2 : (1 : Int) < cap := by omega
    have hcap3 : 1 < cap := by omega
    have hcap4 : ¬ (1 : Int) = cap := by omega
    have hcap5 : ¬ 1 = cap := by omega
    go_enter Try.func31, Try.ntmps31
    go_wp2
    go_region
    all_goals
      go_wp2
      refine bodyPost_ret (v := .tuple #[.agg #[.slice (some ⟨b, off + 1, none⟩) n (cap - 1), .int .u64 (F + 1), .int .i64 m], .int .i64 y, .bool true]) (by simp [results, Try.results31, go_sem]) rfl ⟨_, _, rfl, ?_, (fun b' off' e => by cases e; exact ⟨_, rfl⟩), ?_⟩
      · have hr := ((HR.out.below HB1.out).below ((Below.refl _ _).alloc (Nat.le_refl _) (.cells #[.slice (some ⟨b, off + 1, none⟩) n (cap - 1), .int .u64 (F + 1), .int .i64 m] 40)))
        by_cases hn0 : n = 0
        · subst hn0
          obtain rfl : L = [] := List.eq_nil_of_length_eq_zero (by have := hr.len; simpa using this)
          exact ⟨rfl, by omega, by unfold maxLen; omega, (fun h => by cases h), fun h => by omega⟩
        · have := hr.drop (j := 1) (by omega)
          exact RL.drew (by simpa using this)
      · exact (((Below.refl _ _).alloc (Nat.le_refl _) _).alloc (by simp) _).drew
end Go.Proofs.Ythiajgkifoimcaa
