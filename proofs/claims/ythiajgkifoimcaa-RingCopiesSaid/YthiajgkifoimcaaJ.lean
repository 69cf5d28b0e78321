/-
  The ring as a list: what its methods do to it.
-/
import Derived.Test.YthiajgkifoimcaaI
namespace Go.Proofs.Ythiajgkifoimcaa
open Go.RowKit
set_option linter.unusedVariables false
set_option linter.unusedSimpArgs false

theorem mod_ne {x d m : Int} (h0 : 0 < d) (h1 : d < m) : (x + d) % m ≠ x % m := by
  intro h
  have e1 := Int.mul_ediv_add_emod (x + d) m
  have e2 := Int.mul_ediv_add_emod x m
  rw [h] at e1
  have e3 : d = m * ((x + d) / m - x / m) := by rw [Int.mul_sub]; omega
  rcases Int.lt_or_le 0 ((x + d) / m - x / m) with h2 | h2
  · have := Int.mul_le_mul_of_nonneg_left (show (1 : Int) ≤ (x + d) / m - x / m by omega) (show 0 ≤ m by omega)
    omega
  · have := Int.mul_le_mul_of_nonneg_left h2 (show 0 ≤ m by omega)
    omega
theorem getD_growTo (vs : List Int) (n i : Nat) (h : i < vs.length) : (growTo vs n).getD i 0 = vs.getD i 0 := by
  simp [growTo, List.getD, List.getElem?_append_left h]
theorem getD_putAt_ne (vs : List Int) (i j : Nat) (x : Int) (h : j < vs.length) (hn : j ≠ i) : (putAt vs i x).getD j 0 = vs.getD j 0 := by
  rw [← getD_growTo vs (i + 1) j h]
  unfold putAt
  simp only [List.getD]
  rw [List.getElem?_set_ne (Ne.symm hn)]
theorem getD_putAt_eq (vs : List Int) (i : Nat) (x : Int) : (putAt vs i x).getD i 0 = x := by
  unfold putAt
  simp only [List.getD]
  rw [List.getElem?_set_self (by rw [growTo_len]; omega)]
  rfl
theorem putAt_len (vs : List Int) (i : Nat) (x : Int) : (putAt vs i x).length = max vs.length (i + 1) := by
  unfold putAt
  rw [List.length_set, growTo_len]

/-- How the values of a list lie among the ring's values. -/
structure Lies (F m : Int) (L vs : List Int) : Prop where
  le : (vs.length : Int) ≤ m
  at_ : ∀ j, j < L.length → ∃ i : Nat, (F + j) % m = i ∧ i < vs.length ∧ vs.getD i 0 = L.getD j 0
  F0 : 0 ≤ F
  FN : F + L.length ≤ 18446744073709551615
  Lm : (L.length : Int) ≤ m
  m1 : 1 ≤ m
  m2 : m ≤ 4096
theorem Lies.idx {m : Int} (m1 : 1 ≤ m) (x : Int) : ∃ i : Nat, x % m = i ∧ (i : Int) < m := by
  have h0 := Int.emod_nonneg x (show m ≠ 0 by omega)
  have h1 := Int.emod_lt_of_pos x (show 0 < m by omega)
  exact ⟨(x % m).toNat, by omega, by omega⟩
theorem Lies.room {F m : Int} {L vs : List Int} (h : Lies F m L vs) (hL : (L.length : Int) < m) (hN : F + L.length < 18446744073709551615) {i : Nat} (hi : (F + L.length) % m = i) (x : Int) : Lies F m (L ++ [x]) (putAt vs i x) := by
  have hm := Int.emod_lt_of_pos (F + L.length) (show 0 < m by have := h.m1; omega)
  refine ⟨?_, ?_, h.F0, by simp; omega, by simp; omega, h.m1, h.m2⟩
  · have := h.le; rw [putAt_len]; omega
  · intro j hj
    by_cases hjl : j < L.length
    · obtain ⟨k, hk, hk2, hk3⟩ := h.at_ j hjl
      have hne := mod_ne (x := F + j) (d := (L.length : Int) - j) (m := m) (by omega) (by omega)
      rw [show F + (j : Int) + ((L.length : Int) - j) = F + L.length by omega, hi, hk] at hne
      refine ⟨k, hk, by rw [putAt_len]; omega, ?_⟩
      rw [getD_putAt_ne vs i k x hk2 (by omega), hk3]
      simp [List.getD, List.getElem?_append_left hjl]
    · obtain rfl : j = L.length := by simp at hj; omega
      exact ⟨i, hi, by rw [putAt_len]; omega, by rw [getD_putAt_eq]; simp [List.getD]⟩
theorem Lies.tail {F m : Int} {y : Int} {L vs : List Int} (h : Lies F m (y :: L) vs) : Lies (F + 1) m L vs := by
  have hF := h.F0
  have hN := h.FN
  have hm := h.Lm
  simp at hN hm
  refine ⟨h.le, ?_, by omega, by omega, by omega, h.m1, h.m2⟩
  intro j hj
  obtain ⟨k, hk, hk2, hk3⟩ := h.at_ (j + 1) (by simp; omega)
  exact ⟨k, by rw [← hk]; congr 1; simp; omega, hk2, by rw [hk3]; simp [List.getD]⟩
theorem Lies.head {F m : Int} {y : Int} {L vs : List Int} (h : Lies F m (y :: L) vs) {i : Nat} (hi : F % m = i) : growTo vs (i + 1) = vs ∧ (growTo vs (i + 1)).getD i 0 = y := by
  obtain ⟨k, hk, hk2, hk3⟩ := h.at_ 0 (by simp)
  simp at hk
  obtain rfl : k = i := by omega
  have e := growTo_le vs (k + 1) (by omega)
  exact ⟨e, by rw [e, hk3]; simp [List.getD]⟩
theorem Lies.get {F m : Int} {L vs : List Int} (h : Lies F m L vs) {j : Nat} (hj : j < L.length) {i : Nat} (hi : (F + j) % m = i) : growTo vs (i + 1) = vs ∧ (growTo vs (i + 1)).getD i 0 = L.getD j 0 := by
  obtain ⟨k, hk, hk2, hk3⟩ := h.at_ j hj
  obtain rfl : k = i := by omega
  have e := growTo_le vs (k + 1) (by omega)
  exact ⟨e, by rw [e, hk3]⟩

/-- THE RING AS A LIST. -/
def Ring (w : World) (base p : Nat) (F m : Int) (sv : Value) (L : List Int) : Prop := ∃ vs, RingAt w base p F (F + L.length) m sv vs ∧ Lies F m L vs
theorem Ring.mod {w w' : World} {S : Nat → Prop} {base p : Nat} {F m : Int} {sv : Value} {L : List Int} (h : Ring w base p F m sv L) (hm : Mod S w w') (hn : ∀ k, FP p sv k → ¬ S k) : Ring w' base p F m sv L := by
  obtain ⟨vs, h1, h2⟩ := h
  exact ⟨vs, h1.mod hm hn, h2⟩
theorem Ring.below {w w' : World} {base p : Nat} {F m : Int} {sv : Value} {L : List Int} (h : Ring w base p F m sv L) (hb : Below w.heap.size w w') : Ring w' base p F m sv L :=
  h.mod (Mod.of_below hb (fun _ => False)) (fun _ _ h => h)
theorem Ring.fplt {w : World} {base p : Nat} {F m : Int} {sv : Value} {L : List Int} (h : Ring w base p F m sv L) {k : Nat} (hk : FP p sv k) : base ≤ k ∧ k < w.heap.size := by
  obtain ⟨vs, h1, h2⟩ := h
  exact h1.fplt hk
theorem Ring.b {w : World} {base p : Nat} {F m : Int} {sv : Value} {L : List Int} (h : Ring w base p F m sv L) : 0 ≤ F ∧ F + L.length ≤ 18446744073709551615 ∧ (L.length : Int) ≤ m ∧ 1 ≤ m ∧ m ≤ 4096 := by
  obtain ⟨vs, h1, h2⟩ := h
  exact ⟨h2.F0, h2.FN, h2.Lm, h2.m1, h2.m2⟩

theorem New_ring (base : Nat) (m x : Int) (w : World) (hb : base ≤ w.heap.size) (h1 : 1 ≤ m) (h2 : m ≤ 4096) (hx : 0 ≤ x) (hx2 : x ≤ 18446744073709551615) :
    Calls Try.prog 8 #[.int .i64 m, .int .u64 x] w fun e w' => e = .returned (.tuple #[.pointer (some ⟨w.heap.size, 0, none⟩), .int .i64 0]) ∧
      Ring w' base w.heap.size x m (.slice none 0 0) [] ∧ Below w.heap.size w w' :=
  (New_ok base m x w hb h1 h2).mono fun e w' ⟨he, hr, hbl⟩ => ⟨he, ⟨[], by simpa using hr, ⟨by simp; omega, by simp, hx, by simpa using hx2, by simp; omega, h1, h2⟩⟩, hbl⟩

theorem Put_ring_full (base p : Nat) (F m val : Int) (sv : Value) (L : List Int) (w : World) (h : Ring w base p F m sv L) (hN : F + L.length = 18446744073709551615) :
    Calls Try.prog 10 #[.pointer (some ⟨p, 0, none⟩), .int .i64 val] w fun e w' => e = .returned (.tuple #[.int .u64 0, .int .i64 0, .bool false, .int .i64 111]) ∧ w = w' := by
  obtain ⟨vs, hr, hl⟩ := h
  exact Put_full base p F _ m val sv vs w hr hl.m1 (by simpa using hN)

theorem Put_ring_room (base p : Nat) (F m val : Int) (sv : Value) (L : List Int) (w : World) (h : Ring w base p F m sv L) (hb : base ≤ w.heap.size) (hN : F + L.length < 18446744073709551615) (hL : (L.length : Int) < m) :
    Calls Try.prog 10 #[.pointer (some ⟨p, 0, none⟩), .int .i64 val] w fun e w' => e = .returned (.tuple #[.int .u64 (F + L.length), .int .i64 0, .bool false, .int .i64 0]) ∧ ∃ sv',
      Ring w' base p F m sv' (L ++ [val]) ∧ Step p sv sv' w w' := by
  obtain ⟨vs, hr, hl⟩ := h
  obtain ⟨i, hi, him⟩ := Lies.idx hl.m1 (F + L.length)
  have h1 := hl.F0; have h2 := hl.m2; have h3 := hl.le
  refine (Put_room base p F _ m val sv vs w hr hb hl.m1 hl.m2 (by omega) hl.F0 (by omega) hN (by omega) i hi).mono ?_
  rintro e w' ⟨he, sv', hr', hs⟩
  exact ⟨he, sv', ⟨_, by simpa [Int.add_assoc] using hr', hl.room hL hN hi val⟩, hs⟩

theorem Put_ring_drop (base p : Nat) (F m val y : Int) (sv : Value) (L : List Int) (w : World) (h : Ring w base p F m sv (y :: L)) (hb : base ≤ w.heap.size) (hN : F + (y :: L).length < 18446744073709551615) (hL : ((y :: L).length : Int) = m) :
    Calls Try.prog 10 #[.pointer (some ⟨p, 0, none⟩), .int .i64 val] w fun e w' => e = .returned (.tuple #[.int .u64 (F + (y :: L).length), .int .i64 y, .bool true, .int .i64 0]) ∧ ∃ sv',
      Ring w' base p (F + 1) m sv' (L ++ [val]) ∧ Step p sv sv' w w' := by
  obtain ⟨vs, hr, hl⟩ := h
  obtain ⟨i, hi, him⟩ := Lies.idx hl.m1 (F + (y :: L).length)
  have h1 := hl.F0; have h2 := hl.m2; have h3 := hl.le
  have hFi : F % m = i := by rw [← hi, hL]; simp
  have hh := hl.head hFi
  have ht := hl.tail
  simp only [List.length_cons] at hL hN hi ⊢
  refine (Put_drop base p F _ m val sv vs w hr hb hl.m1 hl.m2 (by omega) hl.F0 (by simpa using hN) (by simp only [List.length_cons]; omega) i (by simpa using hi)).mono ?_
  rintro e w' ⟨he, sv', hr', hs⟩
  rw [hh.2] at he
  refine ⟨by simpa using he, sv', ⟨_, ?_, ht.room (by omega) (by omega) (by rw [← hi]; congr 1; omega) val⟩, hs⟩
  have e1 : F + ((y :: L).length : Int) + 1 = F + 1 + ((L ++ [val]).length : Int) := by simp; omega
  rw [← e1]; exact hr'

theorem Drop_ring_none (base p : Nat) (F m : Int) (sv : Value) (w : World) (h : Ring w base p F m sv []) :
    Calls Try.prog 12 #[.pointer (some ⟨p, 0, none⟩)] w fun e w' => e = .returned (.tuple #[.int .i64 0, .bool false]) ∧ Below w.heap.size w w' := by
  obtain ⟨vs, hr, hl⟩ := h
  exact Drop_none base p F _ m sv vs w hr hl.m1 (by simp)
theorem Drop_ring_some (base p : Nat) (F m y : Int) (sv : Value) (L : List Int) (w : World) (h : Ring w base p F m sv (y :: L)) (hb : base ≤ w.heap.size) :
    Calls Try.prog 12 #[.pointer (some ⟨p, 0, none⟩)] w fun e w' => e = .returned (.tuple #[.int .i64 y, .bool true]) ∧ ∃ sv', Ring w' base p (F + 1) m sv' L ∧ Step p sv sv' w w' := by
  obtain ⟨vs, hr, hl⟩ := h
  obtain ⟨i, hi, him⟩ := Lies.idx hl.m1 F
  have h1 := hl.F0; have h2 := hl.m2; have h3 := hl.le; have h4 := hl.FN
  have hh := hl.head hi
  refine (Drop_some base p F _ m sv vs w hr hb hl.m1 hl.m2 (by omega) hl.F0 (by simp only [List.length_cons]; omega) h4 i hi).mono ?_
  rintro e w' ⟨he, sv', hr', hs⟩
  rw [hh.2] at he
  rw [hh.1] at hr'
  refine ⟨he, sv', ⟨vs, ?_, hl.tail⟩, hs⟩
  have e1 : F + ((y :: L).length : Int) = F + 1 + (L.length : Int) := by simp only [List.length_cons]; omega
  rw [← e1]; exact hr'
theorem Get_ring_in (base p : Nat) (F m : Int) (sv : Value) (L : List Int) (w : World) (h : Ring w base p F m sv L) (hb : base ≤ w.heap.size) (at' : Int) (j : Nat) (hj : j < L.length) (ha : at' = F + j) :
    Calls Try.prog 15 #[.pointer (some ⟨p, 0, none⟩), .int .u64 at'] w fun e w' => e = .returned (.tuple #[.int .i64 (L.getD j 0), .bool true]) ∧ ∃ sv', Ring w' base p F m sv' L ∧ Step p sv sv' w w' := by
  obtain ⟨vs, hr, hl⟩ := h
  subst ha
  obtain ⟨i, hi, him⟩ := Lies.idx hl.m1 (F + j)
  have h1 := hl.F0; have h2 := hl.m2; have h3 := hl.le; have h4 := hl.FN
  have hh := hl.get hj hi
  refine (Get_in base p F _ _ m sv vs w hr hb (by simp [outB]; omega) hl.m1 hl.m2 (by omega) (by omega) (by omega) i hi).mono ?_
  rintro e w' ⟨he, sv', hr', hs⟩
  rw [hh.2] at he
  rw [hh.1] at hr'
  exact ⟨he, sv', ⟨vs, hr', hl⟩, hs⟩
theorem Get_ring_out (base p : Nat) (F m : Int) (sv : Value) (L : List Int) (w : World) (h : Ring w base p F m sv L) (at' : Int) (ha : at' < F ∨ F + L.length ≤ at') :
    Calls Try.prog 15 #[.pointer (some ⟨p, 0, none⟩), .int .u64 at'] w fun e w' => e = .returned (.tuple #[.int .i64 0, .bool false]) ∧ Below w.heap.size w w' := by
  obtain ⟨vs, hr, hl⟩ := h
  exact Get_out base p F _ _ m sv vs w hr hl.m1 (by simp [outB]; omega)
theorem First_ring (base p : Nat) (F m : Int) (sv : Value) (L : List Int) (w : World) (h : Ring w base p F m sv L) :
    Calls Try.prog 14 #[.pointer (some ⟨p, 0, none⟩)] w fun e w' => e = .returned (.int .u64 F) ∧ w = w' := by
  obtain ⟨vs, hr, hl⟩ := h
  exact First_any base p F _ m sv vs w hr hl.m1
theorem Next_ring (base p : Nat) (F m : Int) (sv : Value) (L : List Int) (w : World) (h : Ring w base p F m sv L) :
    Calls Try.prog 11 #[.pointer (some ⟨p, 0, none⟩)] w fun e w' => e = .returned (.int .u64 (F + L.length)) ∧ w = w' := by
  obtain ⟨vs, hr, hl⟩ := h
  exact Next_any base p F _ m sv vs w hr hl.m1
theorem Len_ring (base p : Nat) (F m : Int) (sv : Value) (L : List Int) (w : World) (h : Ring w base p F m sv L) :
    Calls Try.prog 13 #[.pointer (some ⟨p, 0, none⟩)] w fun e w' => e = .returned (.int .i64 L.length) ∧ w = w' := by
  obtain ⟨vs, hr, hl⟩ := h
  have h1 := hl.F0; have h2 := hl.m2; have h3 := hl.Lm; have h4 := hl.FN
  refine (Len_any base p F _ m sv vs w hr hl.m1 h1 (by omega) h4 (by omega)).mono ?_
  rintro e w' ⟨he, hw⟩
  exact ⟨by rw [he]; congr 2; omega, hw⟩
end Go.Proofs.Ythiajgkifoimcaa
