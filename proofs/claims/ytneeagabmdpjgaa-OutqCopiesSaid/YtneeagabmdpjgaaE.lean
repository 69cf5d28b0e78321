/-
  Peek, Take, Drop.
-/
import Derived.Test.YtneeagabmdpjgaaD
namespace Go.Proofs.Ytneeagabmdpjgaa
open Go.RowKit
set_option linter.unusedVariables false
set_option linter.unusedSimpArgs false

theorem Arg.take {T : Nat → Prop} {w : World} {ao : Option Addr} {n : Nat} {zs : List Int} (h : Arg T w ao n zs) (k : Nat) (hk : k ≤ n) : Arg T w ao k (zs.take k) :=
  ⟨by have := h.1; simp; omega, fun hp => by
    obtain ⟨b, off, e, hb, hT, hc⟩ := h.2 (by omega)
    refine ⟨b, off, e, hb, hT, fun j hj => ?_⟩
    have hl := h.1
    rw [hc j (by omega)]
    have hlt : j < zs.length := by omega
    simp [List.getD, List.getElem?_take_of_lt hj, hlt]⟩
/-- How many come. -/
def kOf (most : Int) (L : Nat) : Nat := min most.toNat L
theorem kOf_le (most : Int) (L : Nat) : kOf most L ≤ L := Nat.min_le_right _ _

set_option maxHeartbeats 800000 in
theorem Peek_any (base p g : Nat) (m most : Int) (sv : Value) (vs : List Int) (w : World) (h : QAt w base p sv g m vs) (hg : g ≤ vs.length) (hl : vs.length ≤ 4194304) (h0 : 0 ≤ most) :
    Calls Try.prog 56 #[.pointer (some ⟨p, 0, none⟩), .int .i64 most] w fun e w' => ∃ v, e = .returned (.tuple #[v, .int .i64 0]) ∧ w'.ownsRow w.heap.size 5 1 v (kOf most (vs.length - g)) (((vs.drop g).take (kOf most (vs.length - g))).map (.int .u8)) ∧ Below w.heap.size w w' := by
  obtain ⟨ao, h1, h2, h3⟩ := left_any base p g m sv vs w h hg hl
  have HN := Lib.hid (none_q p w h.c3)
  have HL := Lib.hid h3
  have HE := Lib.hid (fun k => Len_any base p g m sv vs (w.drewN k) (h.drewN k) hg hl)
  clear h h3
  obtain ⟨L, hL⟩ : ∃ L, L = vs.length - g := ⟨_, rfl⟩
  rw [← hL] at HL HE h2 ⊢
  obtain ⟨k, hk⟩ : ∃ k, k = kOf most L := ⟨_, rfl⟩
  rw [← hk]
  have hkL : k ≤ L := by rw [hk]; exact kOf_le _ _
  have hL2 : L ≤ 4194304 := by omega
  have HC := Lib.hid (fun q => Clone_any _ ao k L ((vs.drop g).take k) (w.drewN q) ((h2.take k hkL).drewN q) (fun e => by have := h1 e; omega) (by omega))
  have t0 : decide (most < 0) = false := by simp; omega
  have hnn : ao = none → L = 0 := fun e => by have := h1 e; omega
  clear h1 h2 hL hl hg
  have hcase : (most < (L : Int) ∧ (k : Int) = most) ∨ ((L : Int) < most ∧ k = L) ∨ (most = (L : Int) ∧ k = L) := by
    rw [hk]; unfold kOf
    rcases Int.lt_trichotomy most L with h | h | h
    · left; omega
    · right; right; omega
    · right; left; omega
  clear hk
  have hfin : ∀ (q1 q2 : Nat) (w' : World), Below (w.drewN q1).heap.size (w.drewN q1) w' → Below w.heap.size w w' := fun q1 q2 w' hb => (Below.drewN' w q1).trans hb
  have HF := Lib.hid hfin
  clear hfin
  have key : ∀ z : Int, z = most → True := fun _ _ => trivial
  clear key
  rcases hcase with ⟨hlt, hkm⟩ | ⟨hlt, rfl⟩ | ⟨hlt, rfl⟩
  · subst hkm
    cases ao with
    | none => have := hnn rfl; omega
    | some ad =>
      clear hnn
      go_enter Try.func56, Try.ntmps56
      go_wp2_with (first | (go_at_call 52; refine HN.out.mono ?_; rintro e w' ⟨rfl, rfl⟩) | (go_at_call 57; refine HL.out.mono ?_; rintro e w' ⟨rfl, q, rfl⟩) | (go_at_call 38; refine (HE.out _).mono ?_; rintro e w' ⟨rfl, q2, rfl⟩; rw [World.drewN_drewN]) | (go_at_call 58; refine (HC.out _).mono ?_; rintro e w' ⟨v, rfl, hr, hb, _⟩))
      go_ret2
      exact ⟨_, rfl, hr, HF.out _ 0 _ hb⟩
  · have hno : ¬ most ≤ (k : Int) := by omega
    cases ao with
    | none =>
      obtain rfl : k = 0 := hnn rfl
      clear hnn
      go_enter Try.func56, Try.ntmps56
      go_wp2_with (first | (go_at_call 52; refine HN.out.mono ?_; rintro e w' ⟨rfl, rfl⟩) | (go_at_call 57; refine HL.out.mono ?_; rintro e w' ⟨rfl, q, rfl⟩) | (go_at_call 38; refine (HE.out _).mono ?_; rintro e w' ⟨rfl, q2, rfl⟩; rw [World.drewN_drewN]) | (go_at_call 58; refine (HC.out _).mono ?_; rintro e w' ⟨v, rfl, hr, hb, hv⟩; obtain rfl := hv trivial))
      go_ret2
      exact ⟨_, rfl, hr, HF.out _ 0 _ hb⟩
    | some ad =>
      clear hnn
      go_enter Try.func56, Try.ntmps56
      go_wp2_with (first | (go_at_call 52; refine HN.out.mono ?_; rintro e w' ⟨rfl, rfl⟩) | (go_at_call 57; refine HL.out.mono ?_; rintro e w' ⟨rfl, q, rfl⟩) | (go_at_call 38; refine (HE.out _).mono ?_; rintro e w' ⟨rfl, q2, rfl⟩; rw [World.drewN_drewN]) | (go_at_call 58; refine (HC.out _).mono ?_; rintro e w' ⟨v, rfl, hr, hb, _⟩))
      go_ret2
      exact ⟨_, rfl, hr, HF.out _ 0 _ hb⟩
  · subst hlt
    cases ao with
    | none =>
      obtain rfl : k = 0 := hnn rfl
      clear hnn
      go_enter Try.func56, Try.ntmps56
      go_wp2_with (first | (go_at_call 52; refine HN.out.mono ?_; rintro e w' ⟨rfl, rfl⟩) | (go_at_call 57; refine HL.out.mono ?_; rintro e w' ⟨rfl, q, rfl⟩) | (go_at_call 38; refine (HE.out _).mono ?_; rintro e w' ⟨rfl, q2, rfl⟩; rw [World.drewN_drewN]) | (go_at_call 58; refine (HC.out _).mono ?_; rintro e w' ⟨v, rfl, hr, hb, hv⟩; obtain rfl := hv trivial))
      go_ret2
      exact ⟨_, rfl, hr, HF.out _ 0 _ hb⟩
    | some ad =>
      clear hnn
      go_enter Try.func56, Try.ntmps56
      go_wp2_with (first | (go_at_call 52; refine HN.out.mono ?_; rintro e w' ⟨rfl, rfl⟩) | (go_at_call 57; refine HL.out.mono ?_; rintro e w' ⟨rfl, q, rfl⟩) | (go_at_call 38; refine (HE.out _).mono ?_; rintro e w' ⟨rfl, q2, rfl⟩; rw [World.drewN_drewN]) | (go_at_call 58; refine (HC.out _).mono ?_; rintro e w' ⟨v, rfl, hr, hb, _⟩))
      go_ret2
      exact ⟨_, rfl, hr, HF.out _ 0 _ hb⟩

theorem Peek_bad (p : Nat) (most : Int) (w : World) (hc : w.cell? ⟨p, 3, none⟩ = some (.bool true)) (h0 : most < 0) :
    Calls Try.prog 56 #[.pointer (some ⟨p, 0, none⟩), .int .i64 most] w fun e w' => e = .returned (.tuple #[.slice none 0 0, .int .i64 2]) ∧ w = w' := by
  have HN := Lib.hid (none_q p w hc)
  have t0 : decide (most < 0) = true := by simpa using h0
  clear hc
  go_enter Try.func56, Try.ntmps56
  go_wp2_with (first | (go_at_call 52; refine HN.out.mono ?_; rintro e w' ⟨rfl, rfl⟩))
  go_ret2
  exact ⟨rfl, rfl⟩

/-- One field turned. -/
theorem QAt.setG {w : World} {base p g : Nat} {m : Int} {sv : Value} {vs : List Int} (h : QAt w base p sv g m vs) (x : Nat) :
    QAt (w.setCell ⟨p, 1, none⟩ (.int .i64 x)) base p sv x m vs ∧ Step p sv sv w (w.setCell ⟨p, 1, none⟩ (.int .i64 x)) := by
  refine ⟨⟨?_, ?_, h.ne, h.lo⟩, Mod.setCell (Mod.refl _ _) ⟨p, 1, none⟩ (.inl (.inl rfl)) _, fun k hk => .inl hk⟩
  · rw [setCell_blk h.blk]; rfl
  · exact (Mod.setCell (S := fun k => k = p) (Mod.refl _ _) ⟨p, 1, none⟩ (.inl rfl) _).row h.row h.ne

set_option maxHeartbeats 800000 in
theorem Take_any (base p g : Nat) (m most : Int) (sv : Value) (vs : List Int) (w : World) (h : QAt w base p sv g m vs) (hg : g ≤ vs.length) (hl : vs.length ≤ 4194304) (h0 : 0 ≤ most) :
    Calls Try.prog 36 #[.pointer (some ⟨p, 0, none⟩), .int .i64 most] w fun e w' => ∃ a c, e = .returned (.tuple #[.slice a (kOf most (vs.length - g)) c, .int .i64 0]) ∧
      w'.ownsRow w.heap.size 5 1 (.slice a (kOf most (vs.length - g)) c) (kOf most (vs.length - g)) (((vs.drop g).take (kOf most (vs.length - g))).map (.int .u8)) ∧ QAt w' base p sv (g + kOf most (vs.length - g)) m vs ∧ Step p sv sv w w' := by
  have HP := Lib.hid (Peek_any base p g m most sv vs w h hg hl h0)
  have HQ := Lib.hid (fun w' hb => h.below (w' := w') hb)
  obtain ⟨k, hk⟩ : ∃ k, k = kOf most (vs.length - g) := ⟨_, rfl⟩
  have hk2 : k ≤ vs.length - g := by rw [hk]; exact kOf_le _ _
  have hpl := h.lt
  rw [← hk] at HP ⊢
  clear h hk
  go_enter Try.func36, Try.ntmps36
  go_wp2_with fail
  refine HP.out.mono ?_
  rintro e w1 ⟨v, rfl, hr, hb⟩
  obtain ⟨a, c, rfl⟩ := row_slice hr
  have hq := HQ.out w1 hb
  have c1 := hq.c1
  have f1 := hq.fz 1
  obtain ⟨g1, g2⟩ := hq.setG (g + k)
  have hr2 := (Mod.setCell (S := fun k => k = p) (Mod.refl (fun k => k = p) w1) ⟨p, 1, none⟩ (.inl rfl) (.int .i64 ((g + k : Nat) : Int))).row hr (fun q hq => by have := (hr.lt q hq).1; omega)
  have HG1 := Lib.hid g1
  have HG2 := Lib.hid ((Step.of_below (sv := sv) hb).trans g2)
  have HR2 := Lib.hid hr2
  clear HP HQ hr hb hq g1 g2 hr2
  go_wp2_with fail
  go_ret2
  exact ⟨a, c, rfl, HR2.out, HG1.out, HG2.out⟩

theorem Take_bad (p : Nat) (most : Int) (w : World) (hc : w.cell? ⟨p, 3, none⟩ = some (.bool true)) (h0 : most < 0) :
    Calls Try.prog 36 #[.pointer (some ⟨p, 0, none⟩), .int .i64 most] w fun e w' => e = .returned (.tuple #[.slice none 0 0, .int .i64 2]) ∧ w = w' := by
  have HP := Lib.hid (Peek_bad p most w hc h0)
  clear hc
  go_enter Try.func36, Try.ntmps36
  go_wp2_with (first | (go_at_call 56; refine HP.out.mono ?_; rintro e w' ⟨rfl, rfl⟩))
  go_ret2
  exact ⟨rfl, rfl⟩

set_option maxHeartbeats 800000 in
theorem Drop_any (base p g : Nat) (m most : Int) (sv : Value) (vs : List Int) (w : World) (h : QAt w base p sv g m vs) (hg : g ≤ vs.length) (hl : vs.length ≤ 4194304) (h0 : 0 ≤ most) :
    Calls Try.prog 35 #[.pointer (some ⟨p, 0, none⟩), .int .i64 most] w fun e w' => e = .returned (.tuple #[.int .i64 (kOf most (vs.length - g) : Nat), .int .i64 0]) ∧ QAt w' base p sv (g + kOf most (vs.length - g)) m vs ∧ Step p sv sv w w' := by
  have HP := Lib.hid (Take_any base p g m most sv vs w h hg hl h0)
  obtain ⟨k, hk⟩ : ∃ k, k = kOf most (vs.length - g) := ⟨_, rfl⟩
  have hk2 : k ≤ vs.length - g := by rw [hk]; exact kOf_le _ _
  rw [← hk] at HP ⊢
  clear h hk
  go_enter Try.func35, Try.ntmps35
  go_wp2_with (first | (go_at_call 36; refine HP.out.mono ?_; rintro e w' ⟨a, c, rfl, hr, hq, hs⟩))
  go_ret2
  exact ⟨rfl, hq, hs⟩

theorem Drop_bad (p : Nat) (most : Int) (w : World) (hc : w.cell? ⟨p, 3, none⟩ = some (.bool true)) (h0 : most < 0) :
    Calls Try.prog 35 #[.pointer (some ⟨p, 0, none⟩), .int .i64 most] w fun e w' => e = .returned (.tuple #[.int .i64 0, .int .i64 2]) ∧ w = w' := by
  have HP := Lib.hid (Take_bad p most w hc h0)
  clear hc
  go_enter Try.func35, Try.ntmps35
  go_wp2_with (first | (go_at_call 36; refine HP.out.mono ?_; rintro e w' ⟨rfl, rfl⟩))
  go_ret2
  exact ⟨rfl, rfl⟩
end Go.Proofs.Ytneeagabmdpjgaa
