/-
  A splitter: TrimPrefix, begins.
-/
import Derived.Test.YtfkfooclapogjaaWc
namespace Go.Proofs.Ytfkfooclapogjaa
open Go.RowKit
set_option linter.unusedVariables false
set_option linter.unusedSimpArgs false

theorem str_extract (xs : List Int) (a b : Nat) : (strOfNums xs).extract a b = strOfNums ((xs.take b).drop a) := by
  apply ByteArray.ext
  apply Array.ext'
  simp [strOfNums_data, List.drop_take, List.map_drop, List.map_take]
theorem str_from (xs : List Int) (a : Nat) (n : Nat) (h : xs.length = n) : (strOfNums xs).extract a n = strOfNums (xs.drop a) := by
  rw [str_extract, List.take_of_length_le (by omega)]
theorem str_to (xs : List Int) (b : Nat) : (strOfNums xs).extract 0 b = strOfNums (xs.take b) := by
  rw [str_extract, List.drop_zero]
theorem has_any (xs ys : List Int) (w : World) (hx : Byt xs) (hy : Byt ys) (hl : xs.length ≤ 1000000) (hl2 : ys.length ≤ 1000000) (b : Bool) (hb : b = true ↔ ys <+: xs) : Calls Try.prog 61 #[.string (strOfNums xs), .string (strOfNums ys)] w fun e w' => e = .returned (.bool b) ∧ w = w' := by
  obtain ⟨SX, hSX⟩ : ∃ s, s = strOfNums xs := ⟨_, rfl⟩
  obtain ⟨SY, hSY⟩ : ∃ s, s = strOfNums ys := ⟨_, rfl⟩
  obtain ⟨n, hn⟩ : ∃ n, n = xs.length := ⟨_, rfl⟩
  obtain ⟨m, hm⟩ : ∃ n, n = ys.length := ⟨_, rfl⟩
  have zx : SX.size = n := by rw [hSX, strOfNums_size, hn]
  have zy : SY.size = m := by rw [hSY, strOfNums_size, hm]
  rw [← hn] at hl
  rw [← hm] at hl2
  rw [← hSX, ← hSY]
  by_cases hle : m ≤ n
  · have d1 : decide (m ≤ n) = true := by simpa using hle
    have d2 : decide ((m : Int) ≤ n) = true := by simpa using hle
    obtain ⟨T, hT⟩ : ∃ s, s = strOfNums (xs.take m) := ⟨_, rfl⟩
    have ex : SX.extract 0 m = T := by rw [hSX, str_to, hT]
    have he : (T.toList == SY.toList) = b := by
      rw [toList_beq T SY (xs.take m = ys) (by rw [hT, hSY]; exact str_eq (hx.take m) hy)]
      have : xs.take m = ys ↔ ys <+: xs := by
        rw [List.prefix_iff_eq_take, ← hm]
        exact ⟨fun h => h.symm, fun h => h.symm⟩
      cases b
      · simp only [decide_eq_false_iff_not]; exact fun h => by have := hb.2 (this.1 h); cases this
      · simp only [decide_eq_true_eq]; exact this.2 (hb.1 rfl)
    clear hSX hSY hT hn hm hb hx hy
    go_enter Try.func61, Try.ntmps61
    go_wp2
    go_ret
    exact ⟨rfl, rfl⟩
  · have d1 : decide (m ≤ n) = false := by simpa using hle
    have d2 : decide ((m : Int) ≤ n) = false := by simp; omega
    have hbf : b = false := by
      cases b
      · rfl
      · have h1 := (hb.1 rfl).length_le
        omega
    subst hbf
    clear hSX hSY hn hm hb hx hy
    go_enter Try.func61, Try.ntmps61
    go_wp2
    go_ret
    exact ⟨rfl, rfl⟩
theorem trim_any (xs ys : List Int) (w : World) (hx : Byt xs) (hy : Byt ys) (hl : xs.length ≤ 1000000) (hl2 : ys.length ≤ 1000000) (zs : List Int) (hz : (ys <+: xs ∧ zs = xs.drop ys.length) ∨ (¬ ys <+: xs ∧ zs = xs)) : Calls Try.prog 53 #[.string (strOfNums xs), .string (strOfNums ys)] w fun e w' => e = .returned (.string (strOfNums zs)) ∧ w = w' := by
  have h60 : Calls Try.prog 60 #[.string (strOfNums xs), .string (strOfNums ys)] w fun e w' => e = .returned (.string (strOfNums zs)) ∧ w = w' := by
    rcases hz with ⟨hp, rfl⟩ | ⟨hp, rfl⟩
    · have HH := Lib.hid (has_any xs ys w hx hy hl hl2 true (by simpa using hp))
      have hle := hp.length_le
      obtain ⟨SX, hSX⟩ : ∃ s, s = strOfNums xs := ⟨_, rfl⟩
      obtain ⟨SY, hSY⟩ : ∃ s, s = strOfNums ys := ⟨_, rfl⟩
      obtain ⟨n, hn⟩ : ∃ n, n = xs.length := ⟨_, rfl⟩
      obtain ⟨m, hm⟩ : ∃ n, n = ys.length := ⟨_, rfl⟩
      have zx : SX.size = n := by rw [hSX, strOfNums_size, hn]
      have zy : SY.size = m := by rw [hSY, strOfNums_size, hm]
      have ex : SX.extract m n = strOfNums (xs.drop ys.length) := by rw [hSX, str_from xs m n hn.symm, hm]
      obtain ⟨Z, hZ⟩ : ∃ s, s = strOfNums (xs.drop ys.length) := ⟨_, rfl⟩
      rw [← hSX, ← hSY] at HH
      rw [← hn, ← hm] at hle
      rw [← hn] at hl
      rw [← hm] at hl2
      rw [← hSX, ← hSY, ← hZ]
      rw [← hZ] at ex
      clear hSX hSY hn hm hZ hx hy hp
      go_enter Try.func60, Try.ntmps60
      go_wp2_with (go_at_call 61; refine HH.out.mono ?_; rintro e w' ⟨rfl, rfl⟩)
      go_ret
      exact ⟨rfl, rfl⟩
    · have HH := Lib.hid (has_any zs ys w hx hy hl hl2 false (by simpa using hp))
      clear hx hy hp
      go_enter Try.func60, Try.ntmps60
      go_wp2_with (go_at_call 61; refine HH.out.mono ?_; rintro e w' ⟨rfl, rfl⟩)
      go_ret
      exact ⟨rfl, rfl⟩
  have HH := Lib.hid h60
  clear h60 hz hx hy
  go_enter Try.func53, Try.ntmps53
  go_wp2_with (go_at_call 60; refine HH.out.mono ?_; rintro e w' ⟨rfl, rfl⟩)
  go_ret
  exact ⟨rfl, rfl⟩
theorem text_ne {ps : List Int} (h : ps ≠ []) : ((strOfNums (enc ps)).toList == []) = false := by
  cases ps with
  | nil => exact absurd rfl h
  | cons p ps =>
    rw [ByteArray.toList_eq, strOfNums_data]
    have : enc (p :: ps) ≠ [] := enc_ne_nil
    cases he : enc (p :: ps) with
    | nil => exact absurd he this
    | cons x l => rfl
theorem SpAt.set_bg {w : World} {p D : Nat} {most : Int} {a : Option Addr} {n c : Nat} {bg cr : Bool} (h : SpAt w p D most a n c bg cr) (b : Bool) : SpAt (w.setCell ⟨p, 3, none⟩ (.bool b)) p D most a n c b cr := ⟨setCell_blk h.blk 3 _⟩
theorem SpAt.set_cr {w : World} {p D : Nat} {most : Int} {a : Option Addr} {n c : Nat} {bg cr : Bool} (h : SpAt w p D most a n c bg cr) (b : Bool) : SpAt (w.setCell ⟨p, 4, none⟩ (.bool b)) p D most a n c bg b := ⟨setCell_blk h.blk 4 _⟩
theorem SpAt.cells {w : World} {p D : Nat} {most : Int} {a : Option Addr} {n c : Nat} {bg cr : Bool} (h : SpAt w p D most a n c bg cr) : w.cell? ⟨p, 0, none⟩ = some (.pointer (some ⟨D, 0, none⟩)) ∧ w.cell? ⟨p, 1, none⟩ = some (.int .i64 most) ∧ w.cell? ⟨p, 2, none⟩ = some (.slice a n c) ∧ w.cell? ⟨p, 3, none⟩ = some (.bool bg) ∧ w.cell? ⟨p, 4, none⟩ = some (.bool cr) ∧ (∀ i, w.frozen? ⟨p, i, none⟩ = false) ∧ p < w.heap.size :=
  ⟨cell_blk h.blk 0 _ rfl, cell_blk h.blk 1 _ rfl, cell_blk h.blk 2 _ rfl, cell_blk h.blk 3 _ rfl, cell_blk h.blk 4 _ rfl, frozen_blk h.blk, blk_lt h.blk⟩
set_option maxHeartbeats 1600000 in
/-- begins. -/
theorem begins_any2 (p D : Nat) (most : Int) (a : Option Addr) (n c : Nat) (bg cr : Bool) (ps : List Int) (w : World) (h : SpAt w p D most a n c bg cr) (hc : bg = false → cr = false) (hp : ∀ q ∈ ps, Pt q) (hl : (enc ps).length ≤ 1000000) (bg' cr' : Bool) (ps' : List Int) (hr : begR bg cr ps = (bg', cr', ps')) :
    Calls Try.prog 44 #[.pointer (some ⟨p, 0, none⟩), .string (strOfNums (enc ps))] w fun e w' => e = .returned (.string (strOfNums (enc ps'))) ∧ SpAt w' p D most a n c bg' cr' ∧ Mod (fun k => k = p) w w' := by
  obtain ⟨c0, c1, c2, c3, c4, f, lp⟩ := h.cells
  have f3 := f 3
  have f4 := f 4
  have HH := Lib.hid h
  have h3 := h.set_bg true
  obtain ⟨_, _, _, e3, e4, g, lp3⟩ := h3.cells
  have g4 := g 4
  clear f g
  cases ps with
  | nil =>
    simp only [begR, Prod.mk.injEq] at hr
    obtain ⟨rfl, rfl, rfl⟩ := hr
    rw [show strOfNums (enc []) = ⟨#[]⟩ from rfl]
    clear hp hl hc h h3
    go_enter Try.func44, Try.ntmps44
    go_wp2
    go_ret
    exact ⟨rfl, HH.out, Mod.refl _ _⟩
  | cons q ps2 =>
    have hby := enc_byt hp
    have hq := hp q (by simp)
    have ht := text_ne (ps := q :: ps2) (by simp)
    cases bg with
    | false =>
      obtain rfl := hc rfl
      have hmk : Pt 65279 := by unfold Pt; omega
      have hpre := enc_pre hmk hq (fun x hx => hp x (by simp [hx])) (ps := ps2)
      have HT := Lib.hid (fun W zs hz => trim_any (enc (q :: ps2)) (bytesL 65279) W hby (bytesL_byt hmk) hl (by decide) zs hz)
      rw [show strOfNums (bytesL 65279) = ⟨#[239, 187, 191]⟩ from by decide] at HT
      by_cases hqm : q = 65279
      · subst hqm
        simp only [begR, if_true, Prod.mk.injEq] at hr
        obtain ⟨rfl, rfl, rfl⟩ := hr
        have HT2 := Lib.hid (fun W => HT.out W (enc ps2) (.inl ⟨hpre.2 rfl, by rw [enc_cons]; simp⟩))
        obtain ⟨S, hS⟩ : ∃ s, s = strOfNums (enc (65279 :: ps2)) := ⟨_, rfl⟩
        rw [← hS] at ht HT2 ⊢
        obtain ⟨S2, hS2⟩ : ∃ s, s = strOfNums (enc ps2) := ⟨_, rfl⟩
        rw [← hS2] at HT2 ⊢
        have t2 : (S2.toList == []) = true ∨ (S2.toList == []) = false := by cases (S2.toList == []) <;> simp
        clear hp hl hc h h3 hby hq hpre hmk HT hS hS2
        rcases t2 with t2 | t2
        all_goals
          go_enter Try.func44, Try.ntmps44
          go_wp2_with (go_at_call 53; refine (HT2.out _).mono ?_; rintro e w' ⟨rfl, rfl⟩)
          go_ret
          exact ⟨rfl, HH.out.set_bg true, (Mod.refl (fun k => k = p) w).setCell ⟨p, 3, none⟩ (.inl rfl) _⟩
      · simp only [begR, if_true, if_neg hqm, Prod.mk.injEq] at hr
        obtain ⟨rfl, rfl, rfl⟩ := hr
        have HT2 := Lib.hid (fun W => HT.out W (enc (q :: ps2)) (.inr ⟨fun e => hqm (hpre.1 e), rfl⟩))
        obtain ⟨S, hS⟩ : ∃ s, s = strOfNums (enc (q :: ps2)) := ⟨_, rfl⟩
        rw [← hS] at ht HT2 ⊢
        clear hp hl hc h h3 hby hq hpre hmk HT hS hqm
        go_enter Try.func44, Try.ntmps44
        go_wp2_with (go_at_call 53; refine (HT2.out _).mono ?_; rintro e w' ⟨rfl, rfl⟩)
        go_ret
        exact ⟨rfl, HH.out.set_bg true, (Mod.refl (fun k => k = p) w).setCell ⟨p, 3, none⟩ (.inl rfl) _⟩
    | true =>
      cases cr with
      | false =>
        simp only [begR, Bool.true_eq_false, Bool.false_eq_true, if_false, Prod.mk.injEq] at hr
        obtain ⟨rfl, rfl, rfl⟩ := hr
        obtain ⟨S, hS⟩ : ∃ s, s = strOfNums (enc (q :: ps2)) := ⟨_, rfl⟩
        rw [← hS] at ht ⊢
        clear hp hl hc h h3 hby hq hS
        go_enter Try.func44, Try.ntmps44
        go_wp2
        go_ret
        exact ⟨rfl, HH.out, Mod.refl _ _⟩
      | true =>
        have hlf : Pt 10 := by unfold Pt; omega
        have hpre := enc_pre hlf hq (fun x hx => hp x (by simp [hx])) (ps := ps2)
        have HT := Lib.hid (fun W zs hz => trim_any (enc (q :: ps2)) (bytesL 10) W hby (bytesL_byt hlf) hl (by decide) zs hz)
        rw [show strOfNums (bytesL 10) = ⟨#[10]⟩ from by decide] at HT
        by_cases hqm : q = 10
        · subst hqm
          simp only [begR, Bool.true_eq_false, if_false, if_true, Prod.mk.injEq] at hr
          obtain ⟨rfl, rfl, rfl⟩ := hr
          have HT2 := Lib.hid (fun W => HT.out W (enc ps2) (.inl ⟨hpre.2 rfl, by rw [enc_cons]; simp⟩))
          obtain ⟨S, hS⟩ : ∃ s, s = strOfNums (enc (10 :: ps2)) := ⟨_, rfl⟩
          rw [← hS] at ht HT2 ⊢
          clear hp hl hc h h3 hby hq hpre hlf HT hS
          go_enter Try.func44, Try.ntmps44
          go_wp2_with (go_at_call 53; refine (HT2.out _).mono ?_; rintro e w' ⟨rfl, rfl⟩)
          go_ret
          exact ⟨rfl, HH.out.set_cr false, (Mod.refl (fun k => k = p) w).setCell ⟨p, 4, none⟩ (.inl rfl) _⟩
        · simp only [begR, Bool.true_eq_false, if_false, if_true, if_neg hqm, Prod.mk.injEq] at hr
          obtain ⟨rfl, rfl, rfl⟩ := hr
          have HT2 := Lib.hid (fun W => HT.out W (enc (q :: ps2)) (.inr ⟨fun e => hqm (hpre.1 e), rfl⟩))
          obtain ⟨S, hS⟩ : ∃ s, s = strOfNums (enc (q :: ps2)) := ⟨_, rfl⟩
          rw [← hS] at ht HT2 ⊢
          clear hp hl hc h h3 hby hq hpre hlf HT hS hqm
          go_enter Try.func44, Try.ntmps44
          go_wp2_with (go_at_call 53; refine (HT2.out _).mono ?_; rintro e w' ⟨rfl, rfl⟩)
          go_ret
          exact ⟨rfl, HH.out.set_cr false, (Mod.refl (fun k => k = p) w).setCell ⟨p, 4, none⟩ (.inl rfl) _⟩
end Go.Proofs.Ytfkfooclapogjaa
