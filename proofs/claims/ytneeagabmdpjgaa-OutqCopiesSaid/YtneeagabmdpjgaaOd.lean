/-
  Frames that come: is one of them empty; their lengths.
-/
import Derived.Test.YtneeagabmdpjgaaOc
namespace Go.Proofs.Ytneeagabmdpjgaa
open Go.RowKit
set_option linter.unusedVariables false
set_option linter.unusedSimpArgs false

theorem empty_any (a : Option Addr) (n c : Nat) (w : World) (b : Bool) (hb : decide (n = 0) = b) :
    Calls Try.prog 30 #[.slice a n c] w fun e w' => e = .returned (.bool b) ∧ w = w' := by
  subst hb
  by_cases h : n = 0
  · subst h
    go_enter Try.func30, Try.ntmps30
    go_wp2
    go_ret
    exact ⟨rfl, rfl⟩
  · have d1 : ((n : Int) == 0) = false := by simp; omega
    have d2 : decide (n = 0) = false := by simpa using h
    rw [d2]
    go_enter Try.func30, Try.ntmps30
    go_wp2
    go_ret
    exact ⟨rfl, rfl⟩

set_option maxHeartbeats 800000 in
theorem index_any (T : Nat → Prop) (pa : Option Addr) (pc n : Nat) (ls : List (List Int)) (w : World) (hn : ls.length = n) (hln : n ≤ 1000) (hP : Parts T w pa ls) :
    Calls Try.prog 51 #[.slice pa n pc, .func (.func 30) #[] #[]] w fun e w' => ∃ x : Int, e = .returned (.int .i64 x) ∧ (0 ≤ x ↔ ∃ l ∈ ls, l = []) ∧ w = w' := by
  have HP := Lib.hid hP
  have HN := Lib.hid hn
  clear hP hn
  go_enter Try.func51, Try.ntmps51
  go_wp2
  go_loopg [8] n (fun gk v8 wr => ∃ i : Nat, v8 = .int .i64 i ∧ i ≤ n ∧ gk = n - i ∧ wr = w ∧ ∀ j, j < i → ls.getD j [] ≠ [])
  case atStart => exact ⟨0, rfl, by omega, rfl, rfl, fun j h => by omega⟩
  case round =>
    obtain ⟨i, rfl, hi, hgk, rfl, hall⟩ := hrel
    have HG := Lib.hid hgk
    have HA := Lib.hid hall
    clear hgk hall
    by_cases hlt : i < n
    · obtain ⟨pb, off, rfl, hpb, _, hpc⟩ := HP.out (by have := HN.out; omega)
      obtain ⟨z, hz⟩ : ∃ z, z = ls.getD i [] := ⟨_, rfl⟩
      obtain ⟨a, c, z1, z2, z3⟩ := hpc i (by have := HN.out; omega)
      rw [← hz] at z1
      obtain ⟨L, hL⟩ : ∃ L, L = z.length := ⟨_, rfl⟩
      rw [← hL] at z1
      have HZ := Lib.hid hz
      have HLL := Lib.hid hL
      have hmem : z ∈ ls := by
        rw [hz]
        have : i < ls.length := by have := HN.out; omega
        simp [List.getD, this]
      have HMem := Lib.hid hmem
      have HE := Lib.hid (fun b h => empty_any a L c wr b h)
      clear hpc z2 z3 hz hL hmem
      by_cases h0 : L = 0
      · subst h0
        have HE1 := Lib.hid (HE.out true rfl)
        clear HE
        go_wp2_with (go_at_call 30; refine HE1.out.mono ?_; rintro e w' ⟨rfl, rfl⟩)
        go_ret
        refine ⟨i, rfl, ⟨fun _ => ⟨z, HMem.out, List.eq_nil_of_length_eq_zero (by have := HLL.out; omega)⟩, fun _ => by omega⟩, rfl⟩
      · have HE1 := Lib.hid (HE.out false (by simpa using h0))
        clear HE
        go_wp2_with (go_at_call 30; refine HE1.out.mono ?_; rintro e w' ⟨rfl, rfl⟩)
        go_roundg (n - (i + 1))
        case measure => have := HG.out; omega
        case rel =>
          refine ⟨i + 1, by go_num, by omega, rfl, rfl, fun j hj => ?_⟩
          rcases Nat.lt_or_ge j i with h | h
          · exact HA.out j h
          · obtain rfl : j = i := by omega
            rw [← HZ.out]
            intro e
            have := HLL.out
            rw [e] at this
            exact h0 this
    · obtain rfl : i = n := by omega
      go_wp2
      go_ret
      refine ⟨-1, rfl, ⟨fun h => by omega, fun ⟨l, hl, e⟩ => ?_⟩, rfl⟩
      obtain ⟨j, hj, hje⟩ := List.getElem_of_mem hl
      have := HA.out j (by have := HN.out; omega)
      exact absurd (by simp [List.getD, hj, hje, e]) this

theorem contains_any (T : Nat → Prop) (pa : Option Addr) (pc n : Nat) (ls : List (List Int)) (w : World) (hn : ls.length = n) (hln : n ≤ 1000) (hP : Parts T w pa ls) (b : Bool) (hb : b = true ↔ ∃ l ∈ ls, l = []) :
    Calls Try.prog 29 #[.slice pa n pc, .func (.func 30) #[] #[]] w fun e w' => e = .returned (.bool b) ∧ w = w' := by
  have HI := Lib.hid (index_any T pa pc n ls w hn hln hP)
  have HB := Lib.hid hb
  clear hP hn hb
  go_enter Try.func29, Try.ntmps29
  go_wp2_with (go_at_call 51; fail)
  refine HI.out.mono ?_
  rintro e w' ⟨x, rfl, hx, rfl⟩
  have hd : decide (0 ≤ x) = b := by
    rw [← HB.out] at hx
    cases b <;> simp at hx ⊢ <;> omega
  clear hx HI HB
  go_wp2
  go_ret
  exact ⟨rfl, rfl⟩

theorem len_put (base : Nat) (s0 : Value) (n : Nat) (vs : List Int) (a : Option Addr) (m c : Nat) (w : World) (hb : base ≤ w.heap.size) (hr : w.ownsRow base 3 1 s0 n (vs.map (.int .i64))) (hn : n ≤ 1000000) :
    Calls Try.prog 34 #[s0, .slice a m c] w fun e w' => ∃ a' c', e = .returned (.slice a' (n + 1) c') ∧ w'.ownsRow base 3 1 (.slice a' (n + 1) c') (n + 1) ((vs ++ [(m : Int)]).map (.int .i64)) ∧ Below base w w' := by
  obtain ⟨i0, hi, hz0, hz1, hz2⟩ := info_parts Try.info3
  obtain ⟨w1, hw1⟩ : ∃ W, W = w.alloc (.cells #[.int .i64 m] 3) := ⟨_, rfl⟩
  have hb1 : Below w.heap.size w w1 := by rw [hw1]; exact (Below.refl _ w).alloc (Nat.le_refl _) _
  have k1 : w1.heap[w.heap.size]? = some (.cells #[.int .i64 m] 3 (0, 0)) := by rw [hw1]; exact alloc_blk_new _ _
  have HR1 := Lib.hid ((Mod.of_below hb1 (fun _ => False)).row hr (fun _ _ h => h))
  have HB1 := Lib.hid (hb1.mono hb)
  have HN := Lib.hid (fun (ad : Addr) (e : some (⟨w.heap.size, 0, none⟩ : Addr) = some ad) j u (hj : [Value.int .i64 m][j]? = some u) => (show w1.cell? (ad.add j) = some u by
    cases e
    match j, hj with
    | 0, hj => cases hj; exact cell_blk k1 0 _ rfl))
  have E1 := Lib.hid hw1
  have hs1 := Nat.le_trans hb hb1.size
  obtain ⟨a0, c0, rfl⟩ := row_slice hr
  clear hr hb1 k1 hw1
  go_enter Try.func34, Try.ntmps34
  go_wp2_with (at_builtin; go_loud (rw [← E1.out]); go_loud (refine wpList_append_f _ rfl (.tmp 5) (.tmp 8) 50 rfl base 3 i0 (.int .i64 0) 1 8 Try.underlying50 hi hz0 hz1 hz2 rfl (by decide) _ _ _ rfl HR1.out (some ⟨w.heap.size, 0, none⟩) 1 1 [.int .i64 m] rfl rfl (fun e => by cases e) HN.out (fun u hu => by simp at hu; subst hu; rfl) ?c3 ?c4 hs1 ?_))
  case c3 => unfold maxLen; omega
  case c4 => omega
  intro v1 w2 hown hg hf _
  have hb2 : Below base w w2 := HB1.out.grown hg hs1 (fun k e => (HR1.out.lt k e).1)
  obtain ⟨a2, c2, rfl⟩ := row_slice hown
  have HO := Lib.hid hown
  have HB2 := Lib.hid hb2
  clear hown hg hf hb2
  go_wp2
  go_ret
  exact ⟨a2, c2, rfl, by simpa using HO.out, HB2.out⟩

/-- Frames' lengths. -/
def lens (ls : List (List Int)) : List Int := ls.map fun l => (l.length : Int)
theorem lens_len (ls : List (List Int)) : (lens ls).length = ls.length := by simp [lens]

set_option maxHeartbeats 800000 in
theorem lens_any (T : Nat → Prop) (pa : Option Addr) (pc n : Nat) (ls : List (List Int)) (w : World) (hn : ls.length = n) (hln : n ≤ 1000) (hP : Parts T w pa ls) (hl : ∀ l ∈ ls, l.length ≤ 1099511627776) :
    Calls Try.prog 33 #[.slice none 0 0, .func (.func 34) #[] #[], .slice pa n pc] w fun e w' => ∃ a c, e = .returned (.slice a n c) ∧ w'.ownsRow w.heap.size 3 1 (.slice a n c) n ((lens ls).map (.int .i64)) ∧ Below w.heap.size w w' := by
  have HP := Lib.hid hP
  have HN := Lib.hid hn
  clear hP hn
  go_enter Try.func33, Try.ntmps33
  go_wp2
  go_loopg [0, 11] n (fun gk v0 v11 wr => ∃ (i : Nat) (a : Option Addr) (c : Nat), v0 = .slice a i c ∧ v11 = .int .i64 i ∧ i ≤ n ∧ gk = n - i ∧ wr.ownsRow w.heap.size 3 1 (.slice a i c) i ((lens (ls.take i)).map (.int .i64)) ∧ Below w.heap.size w wr)
  case atStart => exact ⟨0, none, 0, rfl, rfl, by omega, rfl, World.ownsRow_nil _ _ _ _, Below.refl _ _⟩
  case round =>
    obtain ⟨i, a, c, rfl, rfl, hi, hgk, hrow, hbw⟩ := hrel
    have HG := Lib.hid hgk
    have HR := Lib.hid hrow
    have HB := Lib.hid hbw
    clear hgk hrow hbw
    by_cases hlt : i < n
    · obtain ⟨pb, off, rfl, hpb, _, hpc⟩ := (HP.out.below HB.out) (by have := HN.out; omega)
      obtain ⟨z, hz⟩ : ∃ z, z = ls.getD i [] := ⟨_, rfl⟩
      obtain ⟨az, cz, z1, z2, z3⟩ := hpc i (by have := HN.out; omega)
      rw [← hz] at z1
      obtain ⟨L, hL⟩ : ∃ L, L = z.length := ⟨_, rfl⟩
      rw [← hL] at z1
      have hst : Hid (lens (ls.take (i + 1)) = lens (ls.take i) ++ [(L : Int)]) := Lib.hid (by
        have : i < ls.length := by have := HN.out; omega
        rw [List.take_succ_eq_append_getElem this, lens, List.map_append, hL, hz]
        simp [lens, List.getD, this])
      have HCC := Lib.hid (len_put _ _ i _ az L cz wr HB.out.size HR.out (by omega))
      clear hpc z2 z3 hz hL
      go_wp2_with (go_at_call 34; fail)
      refine HCC.out.mono ?_
      rintro e w' ⟨a', c', rfl, hr', hb'⟩
      have HR2 := Lib.hid hr'
      have HB2 := Lib.hid (HB.out.trans hb')
      clear hr' hb' HCC
      go_wp2
      go_roundg (n - (i + 1))
      case measure => have := HG.out; omega
      case rel => exact ⟨i + 1, a', c', rfl, by go_num, by omega, rfl, by rw [hst.out]; exact HR2.out, HB2.out⟩
    · obtain rfl : i = n := by omega
      go_wp2
      go_ret
      have h := HR.out
      rw [List.take_of_length_le (by have := HN.out; omega)] at h
      exact ⟨a, c, rfl, h, HB.out⟩
end Go.Proofs.Ytneeagabmdpjgaa
