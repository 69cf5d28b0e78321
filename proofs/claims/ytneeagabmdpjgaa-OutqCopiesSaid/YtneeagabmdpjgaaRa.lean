/-
  Same of two queues of frames; what is told of none.
-/
import Derived.Test.YtneeagabmdpjgaaPf
import Derived.Test.YtneeagabmdpjgaaSm
namespace Go.Proofs.Ytneeagabmdpjgaa
open Go.RowKit
set_option linter.unusedVariables false
set_option linter.unusedSimpArgs false

set_option maxHeartbeats 1600000 in
theorem EqualI_any (T U : Nat → Prop) (a b : Option Addr) (ca cb : Nat) (xs ys : List Int) (w : World) (ha : Nar T w a xs.length xs) (hb : Nar U w b ys.length ys) (la : xs.length ≤ 4194304) (lb : ys.length ≤ 4194304) :
    Calls Try.prog 49 #[.slice a xs.length ca, .slice b ys.length cb] w fun e w' => e = .returned (.bool (decide (xs = ys))) ∧ ∃ q, w' = w.drewN q := by
  have HA := Lib.hid ha
  have HB := Lib.hid hb
  obtain ⟨n, hn⟩ : ∃ n, n = xs.length := ⟨_, rfl⟩
  obtain ⟨m, hm⟩ : ∃ m, m = ys.length := ⟨_, rfl⟩
  rw [← hn, ← hm]
  by_cases e : n = m
  · subst e
    have HN := Lib.hid hn
    have HM := Lib.hid hm
    have hn4 : n ≤ 4194304 := by omega
    have hnn : (n != n) = false := by simp
    have hnn2 : ((n : Int) != n) = false := by simp
    clear ha hb la lb hn hm
    go_enter Try.func49, Try.ntmps49
    go_wp2
    go_loopg [13] n (fun gk v wr => ∃ i : Nat, v = .int .i64 i ∧ i ≤ n ∧ gk = n - i ∧ (∃ q, wr = w.drewN q) ∧ ∀ j, j < i → xs.getD j 0 = ys.getD j 0)
    case atStart => exact ⟨0, rfl, by omega, rfl, ⟨0, rfl⟩, fun j hj => by omega⟩
    case round =>
      obtain ⟨i, rfl, hi, hgk, ⟨q, rfl⟩, hall⟩ := hrel
      have HG := Lib.hid hgk
      have HL := Lib.hid hall
      clear hgk hall
      by_cases hlt : i < n
      · have d1 : decide (i < n) = true := by simpa using hlt
        obtain ⟨ba, oa, rfl, hba, _, hca⟩ := HA.out.2 (by have := HN.out; omega)
        obtain ⟨bb, ob, rfl, hbb, _, hcb⟩ := HB.out.2 (by have := HM.out; omega)
        have c1 := hca i (by have := HN.out; omega)
        have c2 := hcb i (by have := HM.out; omega)
        obtain ⟨x, hx⟩ : ∃ x, x = xs.getD i 0 := ⟨_, rfl⟩
        obtain ⟨y, hy⟩ : ∃ y, y = ys.getD i 0 := ⟨_, rfl⟩
        rw [← hx] at c1
        rw [← hy] at c2
        have HX := Lib.hid hx
        have HY := Lib.hid hy
        clear hca hcb hx hy
        by_cases hxy : x = y
        · subst hxy
          have dx : (x != x) = false := by simp
          go_wp2
          go_quiet (fail)
          go_wp2
          go_roundg (n - (i + 1))
          case measure => have := HG.out; omega
          case rel => exact ⟨i + 1, by go_num, by omega, rfl, ⟨_, rfl⟩, fun j hj => by
            by_cases e : j = i
            · subst e; rw [← HX.out, ← HY.out]
            · exact HL.out j (by omega)⟩
        · have dx : (x != y) = true := by simpa using hxy
          have hne : xs ≠ ys := fun e => by subst e; exact hxy (HX.out.trans HY.out.symm)
          have hd : decide (xs = ys) = false := by simpa using hne
          have HD := Lib.hid hd
          clear hd hne
          go_wp2
          go_quiet (fail)
          go_wp2
          go_ret
          exact ⟨by rw [HD.out]; rfl, _, World.drewN_drewN _ _ _⟩
      · obtain rfl : i = n := by omega
        have he : xs = ys := List.ext_getElem? fun j => by
          by_cases hj : j < i
          · have h1 := HL.out j hj
            have h2 : j < xs.length := by have := HN.out; omega
            have h3 : j < ys.length := by have := HM.out; omega
            simpa [List.getD, h2, h3] using h1
          · rw [List.getElem?_eq_none (by have := HN.out; omega), List.getElem?_eq_none (by have := HM.out; omega)]
        have HD := Lib.hid (show decide (xs = ys) = true by simpa using he)
        clear he
        go_wp2
        go_ret
        exact ⟨by rw [HD.out]; rfl, _, rfl⟩
  · have hne : xs ≠ ys := fun h => by subst h; omega
    have hd : decide (xs = ys) = false := by simpa using hne
    rw [hd]
    have dn : (n != m) = true := by simpa using e
    have dn2 : ((n : Int) != m) = true := by simp; omega
    clear ha hb HA HB hne hd hn hm
    go_enter Try.func49, Try.ntmps49
    go_wp2
    go_ret
    exact ⟨rfl, 0, rfl⟩
set_option maxHeartbeats 3200000 in
set_option maxRecDepth 100000 in
theorem OS.same {w w2 wr : World} {K K2 : Nat → Prop} {p p2 : Nat} {m m2 part part2 : Int} {fs fs2 bs bs2 : List Int} (h : OS w K p m fs part bs wr) (h2 : OS w2 K2 p2 m2 fs2 part2 bs2 wr) :
    Calls Try.prog 25 #[.pointer (some ⟨p, 0, none⟩), .pointer (some ⟨p2, 0, none⟩)] wr fun e w' => e = .returned (.bool (decide (m = m2 ∧ part = part2 ∧ fs = fs2 ∧ bs = bs2))) ∧ ∃ q, w' = wr.drewN q := by
  obtain ⟨sv, g, q, vs, h1, hg, hl, hd, hq, _⟩ := h.at_
  obtain ⟨sv2, g2, q2, vs2, e1, eg, el, ed, eq, _⟩ := h2.at_
  have HN := Lib.hid (none_o p q wr h1.c3)
  have HN2 := Lib.hid (none_o p2 q2 wr e1.c3)
  obtain ⟨a1, _, hA1, hL1⟩ := oleft_gen _ p g q part m sv vs wr h1 hg (by omega)
  obtain ⟨a2, _, hA2, hL2⟩ := oleft_gen _ p2 g2 q2 part2 m2 sv2 vs2 wr e1 eg (by omega)
  have l1 : vs.length - g = fs.length := by rw [← hd, List.length_drop]
  have l2 : vs2.length - g2 = fs2.length := by rw [← ed, List.length_drop]
  rw [l1, hd] at hA1
  rw [l2, ed] at hA2
  rw [l1] at hL1
  rw [l2] at hL2
  have HL1 := Lib.hid (fun k => hL1 (wr.drewN k) rfl)
  have HL2 := Lib.hid (fun k => hL2 (wr.drewN k) rfl)
  have HE := Lib.hid (fun k => EqualI_any _ _ a1 a2 fs.length fs2.length fs fs2 (wr.drewN k) (hA1.drewN k) (hA2.drewN k) (by omega) (by omega))
  have HS := Lib.hid (fun k => (hq.drewN k).same (eq.drewN k))
  have c2 := h1.c2
  have c3 := h1.c3
  have c4 := h1.c4
  have d2 := e1.c2
  have d3 := e1.c3
  have d4 := e1.c4
  clear h h2 hL1 hL2 hA1 hA2 l1 l2 hg hl hd hq eg el ed eq h1 e1
  by_cases hm : m = m2
  · subst hm
    have mm : (m == m) = true := by simp
    by_cases hp : part = part2
    · subst hp
      have pp : (part == part) = true := by simp
      by_cases hf : fs = fs2
      · subst hf
        have HD : Hid (decide (m = m ∧ part = part ∧ fs = fs ∧ bs = bs2) = decide (m = m ∧ bs = bs2)) := Lib.hid (by simp)
        rw [HD.out]
        obtain ⟨bb, hbb⟩ : ∃ b, b = decide (m = m ∧ bs = bs2) := ⟨_, rfl⟩
        rw [← hbb] at HS ⊢
        have HE2 : Hid (∀ k, Calls Try.prog 49 #[.slice a1 fs.length fs.length, .slice a2 fs.length fs.length] (wr.drewN k) fun e w' => e = .returned (.bool true) ∧ ∃ q, w' = (wr.drewN k).drewN q) := Lib.hid (fun k => by have := HE.out k; rwa [show decide (fs = fs) = true by simp] at this)
        clear HD hbb HE
        go_enter Try.func25, Try.ntmps25
        go_wp2_with (first | (go_at_call 28; with_reducible refine HN.out.mono ?_; rintro e w' ⟨rfl, rfl⟩) | (go_at_call 28; with_reducible refine HN2.out.mono ?_; rintro e w' ⟨rfl, rfl⟩))
        go_quiet (first | (go_at_call 40; with_reducible exact Calls.quiet_of (HL1.out _)) | (go_at_call 40; with_reducible exact Calls.quiet_of (HL2.out _)) | (go_at_call 49; exact Calls.quiet_of (HE2.out _)) | (go_at_call 50; exact Calls.quiet_of (HS.out _)))
        go_wp2
        go_ret
        exact ⟨rfl, _, rfl⟩
      · have HD : Hid (decide (m = m ∧ part = part ∧ fs = fs2 ∧ bs = bs2) = false) := Lib.hid (by simp [hf])
        rw [HD.out]
        have HE2 : Hid (∀ k, Calls Try.prog 49 #[.slice a1 fs.length fs.length, .slice a2 fs2.length fs2.length] (wr.drewN k) fun e w' => e = .returned (.bool false) ∧ ∃ q, w' = (wr.drewN k).drewN q) := Lib.hid (fun k => by have := HE.out k; rwa [show decide (fs = fs2) = false by simp [hf]] at this)
        clear HD HE hf
        go_enter Try.func25, Try.ntmps25
        go_wp2_with (first | (go_at_call 28; with_reducible refine HN.out.mono ?_; rintro e w' ⟨rfl, rfl⟩) | (go_at_call 28; with_reducible refine HN2.out.mono ?_; rintro e w' ⟨rfl, rfl⟩))
        go_quiet (first | (go_at_call 40; with_reducible exact Calls.quiet_of (HL1.out _)) | (go_at_call 40; with_reducible exact Calls.quiet_of (HL2.out _)) | (go_at_call 49; exact Calls.quiet_of (HE2.out _)) | (go_at_call 50; exact Calls.quiet_of (HS.out _)))
        go_wp2
        go_ret
        exact ⟨rfl, _, rfl⟩
    · have HD : Hid (decide (m = m ∧ part = part2 ∧ fs = fs2 ∧ bs = bs2) = false) := Lib.hid (by simp [hp])
      rw [HD.out]
      have pp : (part == part2) = false := by simpa using hp
      clear HD hp
      go_enter Try.func25, Try.ntmps25
      go_wp2_with (first | (go_at_call 28; with_reducible refine HN.out.mono ?_; rintro e w' ⟨rfl, rfl⟩) | (go_at_call 28; with_reducible refine HN2.out.mono ?_; rintro e w' ⟨rfl, rfl⟩))
      go_quiet (fail)
      go_wp2
      go_ret
      exact ⟨rfl, _, rfl⟩
  · have HD : Hid (decide (m = m2 ∧ part = part2 ∧ fs = fs2 ∧ bs = bs2) = false) := Lib.hid (by simp [hm])
    rw [HD.out]
    have mm : (m == m2) = false := by simpa using hm
    clear HD hm
    go_enter Try.func25, Try.ntmps25
    go_wp2_with (first | (go_at_call 28; with_reducible refine HN.out.mono ?_; rintro e w' ⟨rfl, rfl⟩) | (go_at_call 28; with_reducible refine HN2.out.mono ?_; rintro e w' ⟨rfl, rfl⟩))
    go_quiet (fail)
    go_wp2
    go_ret
    exact ⟨rfl, _, rfl⟩
/-- None: no pointer, or a queue that was never made. -/
def NilO (w : World) (a : Option Addr) : Prop := a = none ∨ ∃ b, a = some ⟨b, 0, none⟩ ∧ b < w.heap.size ∧ w.cell? ⟨b, 3, none⟩ = some (.pointer none)
theorem NilO.below {w w' : World} {a : Option Addr} (h : NilO w a) (hb : Below w.heap.size w w') : NilO w' a := by
  rcases h with h | ⟨b, e, hl, hc⟩
  · exact .inl h
  · exact .inr ⟨b, e, Nat.lt_of_lt_of_le hl hb.size, (hb.cell (p := ⟨b, 3, none⟩) hl).trans hc⟩
theorem onone_any (a : Option Addr) (w : World) (h : NilO w a) : Calls Try.prog 28 #[.pointer a] w fun e w' => e = .returned (.bool true) ∧ w = w' := by
  rcases h with rfl | ⟨b, rfl, _, c3⟩
  · exact none_onil w
  · go_enter Try.func28, Try.ntmps28
    go_wp2
    go_ret
    exact ⟨rfl, rfl⟩
theorem Take_onone (a : Option Addr) (n : Int) (w : World) (h : NilO w a) : Calls Try.prog 14 #[.pointer a, .int .i64 n] w fun e w' => e = .returned (.tuple #[.slice none 0 0, .int .i64 0, .int .i64 1]) ∧ w = w' := by
  have HN := Lib.hid (onone_any a w h)
  clear h
  go_enter Try.func14, Try.ntmps14
  go_wp2_with (go_at_call 28; refine HN.out.mono ?_; rintro e w' ⟨rfl, rfl⟩)
  refine bodyPost_ret (v := .tuple #[.slice none 0 0, .int .i64 0, .int .i64 1]) (by simp [results, Try.results14, go_sem, *]) rfl ⟨rfl, rfl⟩
theorem Clear_onone (a : Option Addr) (w : World) (h : NilO w a) : Calls Try.prog 13 #[.pointer a] w fun e w' => e = .returned (.tuple #[.int .i64 0, .int .i64 0]) ∧ w = w' := by
  have HN := Lib.hid (onone_any a w h)
  clear h
  go_enter Try.func13, Try.ntmps13
  go_wp2_with (go_at_call 28; refine HN.out.mono ?_; rintro e w' ⟨rfl, rfl⟩)
  refine bodyPost_ret (v := .tuple #[.int .i64 0, .int .i64 0]) (by simp [results, Try.results13, go_sem, *]) rfl ⟨rfl, rfl⟩
theorem waiting_onone (a : Option Addr) (w : World) (h : NilO w a) : Calls Try.prog 45 #[.pointer a] w fun e w' => e = .returned (.slice none 0 0) ∧ w = w' := by
  have HN := Lib.hid (onone_any a w h)
  clear h
  go_enter Try.func45, Try.ntmps45
  go_wp2_with (go_at_call 28; refine HN.out.mono ?_; rintro e w' ⟨rfl, rfl⟩)
  go_ret
  exact ⟨rfl, rfl⟩
theorem All_onone (a : Option Addr) (w : World) (h : NilO w a) : Calls Try.prog 22 #[.pointer a] w fun e w' => e = .returned (.func (.func 46) #[] #[.pointer (some ⟨w.heap.size, 0, none⟩)]) ∧ w'.heap[w.heap.size]? = some (.cells #[.slice none 0 0] 50 (0, 0)) ∧ Below w.heap.size w w' := by
  have HW := Lib.hid (waiting_onone a w h)
  clear h
  go_enter Try.func22, Try.ntmps22
  go_wp2_with (go_at_call 45; refine HW.out.mono ?_; rintro e w' ⟨rfl, rfl⟩)
  go_ret
  exact ⟨rfl, alloc_blk_new _ _, (Below.refl _ w).alloc (Nat.le_refl _) _⟩
theorem Push_onone (a : Option Addr) (pa : Option Addr) (n c : Nat) (w : World) (h : NilO w a) : Calls Try.prog 11 #[.pointer a, .slice pa n c] w fun e w' => e = .returned (.int .i64 1) ∧ w = w' := by
  have HN := Lib.hid (onone_any a w h)
  clear h
  go_enter Try.func11, Try.ntmps11
  go_wp2
  refine wp_scope_fwd 0 rfl ?_
  go_wp2_with (first | (go_at_call 28; refine HN.out.mono ?_; rintro e w' ⟨rfl, rfl⟩))
  refine wp_goto ?_
  refine ⟨rfl, ?_⟩
  go_wp2
  rw [Exit.noGoto_ret]
  go_ret
  exact ⟨rfl, rfl⟩
theorem Len_onone (a : Option Addr) (w : World) (h : NilO w a) : Calls Try.prog 15 #[.pointer a] w fun e w' => e = .returned (.int .i64 0) ∧ w = w' := by
  have HN := Lib.hid (onone_any a w h)
  clear h
  go_enter Try.func15, Try.ntmps15
  go_wp2_with (go_at_call 28; refine HN.out.mono ?_; rintro e w' ⟨rfl, rfl⟩)
  go_ret
  exact ⟨rfl, rfl⟩
theorem Frames_onone (a : Option Addr) (w : World) (h : NilO w a) : Calls Try.prog 17 #[.pointer a] w fun e w' => e = .returned (.int .i64 0) ∧ w = w' := by
  have HN := Lib.hid (onone_any a w h)
  clear h
  go_enter Try.func17, Try.ntmps17
  go_wp2_with (go_at_call 28; refine HN.out.mono ?_; rintro e w' ⟨rfl, rfl⟩)
  go_ret
  exact ⟨rfl, rfl⟩
theorem Begun_onone (a : Option Addr) (w : World) (h : NilO w a) : Calls Try.prog 12 #[.pointer a] w fun e w' => e = .returned (.int .i64 0) ∧ w = w' := by
  have HN := Lib.hid (onone_any a w h)
  clear h
  go_enter Try.func12, Try.ntmps12
  go_wp2_with (go_at_call 28; refine HN.out.mono ?_; rintro e w' ⟨rfl, rfl⟩)
  go_ret
  exact ⟨rfl, rfl⟩
theorem Room_onone (a : Option Addr) (w : World) (h : NilO w a) : Calls Try.prog 16 #[.pointer a] w fun e w' => e = .returned (.int .i64 0) ∧ w = w' := by
  have HN := Lib.hid (onone_any a w h)
  clear h
  go_enter Try.func16, Try.ntmps16
  go_wp2_with (go_at_call 28; refine HN.out.mono ?_; rintro e w' ⟨rfl, rfl⟩)
  go_ret
  exact ⟨rfl, rfl⟩
theorem Copy_onone (a : Option Addr) (w : World) (h : NilO w a) : Calls Try.prog 23 #[.pointer a] w fun e w' => e = .returned (.pointer none) ∧ w = w' := by
  have HN := Lib.hid (onone_any a w h)
  clear h
  go_enter Try.func23, Try.ntmps23
  go_wp2_with (go_at_call 28; refine HN.out.mono ?_; rintro e w' ⟨rfl, rfl⟩)
  go_ret
  exact ⟨rfl, rfl⟩
theorem Same_onone2 (a c : Option Addr) (w : World) (h : NilO w a) (h2 : NilO w c) : Calls Try.prog 25 #[.pointer a, .pointer c] w fun e w' => e = .returned (.bool true) ∧ w = w' := by
  have HN := Lib.hid (onone_any a w h)
  have HC := Lib.hid (onone_any c w h2)
  clear h h2
  go_enter Try.func25, Try.ntmps25
  go_wp2_with fail
  refine HN.out.mono ?_
  rintro e w' ⟨rfl, rfl⟩
  go_wp2_with fail
  refine HN.out.mono ?_
  rintro e w' ⟨rfl, rfl⟩
  go_wp2_with fail
  refine HC.out.mono ?_
  rintro e w' ⟨rfl, rfl⟩
  go_wp2_with fail
  go_ret
  exact ⟨rfl, rfl⟩
/-- Same, of a queue and none. -/
theorem Same_oone (p q : Nat) (c : Option Addr) (w : World) (h : w.cell? ⟨p, 3, none⟩ = some (.pointer (some ⟨q, 0, none⟩))) (h2 : NilO w c) : Calls Try.prog 25 #[.pointer (some ⟨p, 0, none⟩), .pointer c] w fun e w' => e = .returned (.bool false) ∧ w = w' := by
  have HN := Lib.hid (none_o p q w h)
  have HC := Lib.hid (onone_any c w h2)
  clear h h2
  go_enter Try.func25, Try.ntmps25
  go_wp2_with fail
  refine HN.out.mono ?_
  rintro e w' ⟨rfl, rfl⟩
  go_wp2_with fail
  refine HC.out.mono ?_
  rintro e w' ⟨rfl, rfl⟩
  go_wp2_with fail
  refine HN.out.mono ?_
  rintro e w' ⟨rfl, rfl⟩
  go_wp2_with fail
  go_ret
  exact ⟨rfl, rfl⟩
end Go.Proofs.Ytneeagabmdpjgaa
