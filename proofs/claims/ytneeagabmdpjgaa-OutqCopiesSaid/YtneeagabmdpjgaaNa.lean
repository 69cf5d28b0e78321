/-
  What is told of none; Same of two queues.
-/
import Derived.Test.YtneeagabmdpjgaaCp
import Derived.Test.YtneeagabmdpjgaaL
namespace Go.Proofs.Ytneeagabmdpjgaa
open Go.RowKit
set_option linter.unusedVariables false
set_option linter.unusedSimpArgs false

theorem arr89 (d : Nat) (a c : Int) (w : World) : (Op.equalIn (d + 2) 89 (.agg #[.int .i64 a]) (.agg #[.int .i64 c])).run Try.prog w = .ok (a == c) w := by
  obtain ⟨i, hi⟩ : ∃ i, Try.prog.info? 3 = some i := Option.isSome_iff_exists.1 (by kernel_rfl)
  have hc : Try.prog.cellsOf 3 = 1 := by kernel_rfl
  rw [show d + 2 = (d + 1) + 1 from rfl, run_equalIn_array w (d + 1) _ _ Try.underlying89 hi, hc, show List.range 1 = [0] from rfl]
  simp only [Op.eqItems]
  go_simp
  by_cases h : a = c <;> simp [h]
theorem eql89 (a c : Int) (w : World) : (binOp .eql 89 (.agg #[.int .i64 a]) (.agg #[.int .i64 c])).run Try.prog w = .ok (.bool (a == c)) w := by
  simp only [binOp]
  have := arr89 9998 a c w
  simp [Op.equal, Op.maxDepth, this]
attribute [local go_sem high] eql89

/-- No queue: nil, or one that was not made. -/
def Nil (w : World) (a : Option Addr) : Prop := a = none ∨ ∃ b, a = some ⟨b, 0, none⟩ ∧ b < w.heap.size ∧ w.cell? ⟨b, 3, none⟩ = some (.bool false)
theorem Nil.below {w w' : World} {a : Option Addr} (h : Nil w a) (hb : Below w.heap.size w w') : Nil w' a := by
  rcases h with h | ⟨b, e, hl, hc⟩
  · exact .inl h
  · exact .inr ⟨b, e, Nat.lt_of_lt_of_le hl hb.size, (hb.cell (p := ⟨b, 3, none⟩) hl).trans hc⟩
theorem none_any (a : Option Addr) (w : World) (h : Nil w a) : Calls Try.prog 52 #[.pointer a] w fun e w' => e = .returned (.bool true) ∧ w = w' := by
  rcases h with rfl | ⟨b, rfl, hl, hc⟩
  · exact none_nil w
  · go_enter Try.func52, Try.ntmps52
    go_wp2
    go_ret
    exact ⟨rfl, rfl⟩
theorem Peek_none (a : Option Addr) (n : Int) (w : World) (h : Nil w a) : Calls Try.prog 56 #[.pointer a, .int .i64 n] w fun e w' => e = .returned (.tuple #[.slice none 0 0, .int .i64 1]) ∧ w = w' := by
  have HN := Lib.hid (none_any a w h)
  clear h
  go_enter Try.func56, Try.ntmps56
  go_wp2_with (go_at_call 52; refine HN.out.mono ?_; rintro e w' ⟨rfl, rfl⟩)
  go_ret2
  exact ⟨rfl, rfl⟩
theorem Take_none (a : Option Addr) (n : Int) (w : World) (h : Nil w a) : Calls Try.prog 36 #[.pointer a, .int .i64 n] w fun e w' => e = .returned (.tuple #[.slice none 0 0, .int .i64 1]) ∧ w = w' := by
  have HN := Lib.hid (Peek_none a n w h)
  clear h
  go_enter Try.func36, Try.ntmps36
  go_wp2_with (go_at_call 56; refine HN.out.mono ?_; rintro e w' ⟨rfl, rfl⟩)
  go_ret2
  exact ⟨rfl, rfl⟩
theorem Drop_none (a : Option Addr) (n : Int) (w : World) (h : Nil w a) : Calls Try.prog 35 #[.pointer a, .int .i64 n] w fun e w' => e = .returned (.tuple #[.int .i64 0, .int .i64 1]) ∧ w = w' := by
  have HN := Lib.hid (Take_none a n w h)
  clear h
  go_enter Try.func35, Try.ntmps35
  go_wp2_with (go_at_call 36; refine HN.out.mono ?_; rintro e w' ⟨rfl, rfl⟩)
  go_ret2
  exact ⟨rfl, rfl⟩
theorem Push_none (a : Option Addr) (pa : Option Addr) (n c : Nat) (w : World) (h : Nil w a) : Calls Try.prog 31 #[.pointer a, .slice pa n c] w fun e w' => e = .returned (.int .i64 1) ∧ w = w' := by
  have HN := Lib.hid (none_any a w h)
  clear h
  go_enter Try.func31, Try.ntmps31
  go_wp2
  refine wp_scope_fwd 0 rfl ?_
  go_wp2_with (first | (go_at_call 52; refine HN.out.mono ?_; rintro e w' ⟨rfl, rfl⟩))
  refine wp_goto ?_
  refine ⟨rfl, ?_⟩
  go_wp2
  rw [Exit.noGoto_ret]
  go_ret
  exact ⟨rfl, rfl⟩
theorem Len_none (a : Option Addr) (w : World) (h : Nil w a) : Calls Try.prog 38 #[.pointer a] w fun e w' => e = .returned (.int .i64 0) ∧ w = w' := by
  have HN := Lib.hid (none_any a w h)
  clear h
  go_enter Try.func38, Try.ntmps38
  go_wp2_with (go_at_call 52; refine HN.out.mono ?_; rintro e w' ⟨rfl, rfl⟩)
  go_ret
  exact ⟨rfl, rfl⟩
theorem Room_none (a : Option Addr) (w : World) (h : Nil w a) : Calls Try.prog 39 #[.pointer a] w fun e w' => e = .returned (.int .i64 0) ∧ w = w' := by
  have HN := Lib.hid (none_any a w h)
  clear h
  go_enter Try.func39, Try.ntmps39
  go_wp2_with (go_at_call 52; refine HN.out.mono ?_; rintro e w' ⟨rfl, rfl⟩)
  go_ret
  exact ⟨rfl, rfl⟩
theorem Copy_none (a : Option Addr) (w : World) (h : Nil w a) : Calls Try.prog 48 #[.pointer a] w fun e w' => e = .returned (.pointer none) ∧ w = w' := by
  have HN := Lib.hid (none_any a w h)
  clear h
  go_enter Try.func48, Try.ntmps48
  go_wp2_with (go_at_call 52; refine HN.out.mono ?_; rintro e w' ⟨rfl, rfl⟩)
  go_ret
  exact ⟨rfl, rfl⟩
theorem Same_none2 (a c : Option Addr) (w : World) (h : Nil w a) (h2 : Nil w c) : Calls Try.prog 50 #[.pointer a, .pointer c] w fun e w' => e = .returned (.bool true) ∧ w = w' := by
  have HN := Lib.hid (none_any a w h)
  have HC := Lib.hid (none_any c w h2)
  clear h h2
  go_enter Try.func50, Try.ntmps50
  go_wp2_with fail
  refine HN.out.mono ?_
  rintro e w' ⟨rfl, rfl⟩
  go_wp2_with fail
  refine HN.out.mono ?_
  rintro e w' ⟨rfl, rfl⟩
  go_wp2_with fail
  refine HC.out.mono ?_
  rintro e w' ⟨rfl, rfl⟩
  go_wp2_with fail
  go_ret
  exact ⟨rfl, rfl⟩
/-- Same, of a queue and none. -/
theorem Same_one (p : Nat) (c : Option Addr) (w : World) (h : w.cell? ⟨p, 3, none⟩ = some (.bool true)) (h2 : Nil w c) : Calls Try.prog 50 #[.pointer (some ⟨p, 0, none⟩), .pointer c] w fun e w' => e = .returned (.bool false) ∧ w = w' := by
  have HN := Lib.hid (none_q p w h)
  have HC := Lib.hid (none_any c w h2)
  clear h h2
  go_enter Try.func50, Try.ntmps50
  go_wp2_with fail
  refine HN.out.mono ?_
  rintro e w' ⟨rfl, rfl⟩
  go_wp2_with fail
  refine HC.out.mono ?_
  rintro e w' ⟨rfl, rfl⟩
  go_wp2_with fail
  refine HN.out.mono ?_
  rintro e w' ⟨rfl, rfl⟩
  go_wp2_with fail
  go_ret
  exact ⟨rfl, rfl⟩

set_option maxHeartbeats 1600000 in
theorem Equal_any (T U : Nat → Prop) (a b : Option Addr) (ca cb : Nat) (xs ys : List Int) (w : World) (ha : Arg T w a xs.length xs) (hb : Arg U w b ys.length ys) (la : xs.length ≤ 4194304) (lb : ys.length ≤ 4194304) :
    Calls Try.prog 59 #[.slice a xs.length ca, .slice b ys.length cb] w fun e w' => e = .returned (.bool (decide (xs = ys))) ∧ ∃ q, w' = w.drewN q := by
  have HA := Lib.hid ha
  have HB := Lib.hid hb
  obtain ⟨n, hn⟩ : ∃ n, n = xs.length := ⟨_, rfl⟩
  obtain ⟨m, hm⟩ : ∃ m, m = ys.length := ⟨_, rfl⟩
  rw [← hn, ← hm]
  by_cases e : n = m
  · subst e
    have HN := Lib.hid hn
    have HM := Lib.hid hm
    have hn4 : n ≤ 4194304 := by omega
    have hnn : (n != n) = false := by simp
    have hnn2 : ((n : Int) != n) = false := by simp
    clear ha hb la lb hn hm
    go_enter Try.func59, Try.ntmps59
    go_wp2
    go_loopg [13] n (fun gk v wr => ∃ i : Nat, v = .int .i64 i ∧ i ≤ n ∧ gk = n - i ∧ (∃ q, wr = w.drewN q) ∧ ∀ j, j < i → xs.getD j 0 = ys.getD j 0)
    case atStart => exact ⟨0, rfl, by omega, rfl, ⟨0, rfl⟩, fun j hj => by omega⟩
    case round =>
      obtain ⟨i, rfl, hi, hgk, ⟨q, rfl⟩, hall⟩ := hrel
      have HG := Lib.hid hgk
      have HL := Lib.hid hall
      clear hgk hall
      by_cases hlt : i < n
      · have d1 : decide (i < n) = true := by simpa using hlt
        obtain ⟨ba, oa, rfl, hba, _, hca⟩ := HA.out.2 (by have := HN.out; omega)
        obtain ⟨bb, ob, rfl, hbb, _, hcb⟩ := HB.out.2 (by have := HM.out; omega)
        have c1 := hca i (by have := HN.out; omega)
        have c2 := hcb i (by have := HM.out; omega)
        obtain ⟨x, hx⟩ : ∃ x, x = xs.getD i 0 := ⟨_, rfl⟩
        obtain ⟨y, hy⟩ : ∃ y, y = ys.getD i 0 := ⟨_, rfl⟩
        rw [← hx] at c1
        rw [← hy] at c2
        have HX := Lib.hid hx
        have HY := Lib.hid hy
        clear hca hcb hx hy
        by_cases hxy : x = y
        · subst hxy
          have dx : (x != x) = false := by simp
          go_wp2
          go_quiet (fail)
          go_wp2
          go_roundg (n - (i + 1))
          case measure => have := HG.out; omega
          case rel => exact ⟨i + 1, by go_num, by omega, rfl, ⟨_, rfl⟩, fun j hj => by
            by_cases e : j = i
            · subst e; rw [← HX.out, ← HY.out]
            · exact HL.out j (by omega)⟩
        · have dx : (x != y) = true := by simpa using hxy
          have hne : xs ≠ ys := fun e => by subst e; exact hxy (HX.out.trans HY.out.symm)
          have hd : decide (xs = ys) = false := by simpa using hne
          have HD := Lib.hid hd
          clear hd hne
          go_wp2
          go_quiet (fail)
          go_wp2
          go_ret
          exact ⟨by rw [HD.out]; rfl, _, World.drewN_drewN _ _ _⟩
      · obtain rfl : i = n := by omega
        have he : xs = ys := List.ext_getElem? fun j => by
          by_cases hj : j < i
          · have h1 := HL.out j hj
            have h2 : j < xs.length := by have := HN.out; omega
            have h3 : j < ys.length := by have := HM.out; omega
            simpa [List.getD, h2, h3] using h1
          · rw [List.getElem?_eq_none (by have := HN.out; omega), List.getElem?_eq_none (by have := HM.out; omega)]
        have HD := Lib.hid (show decide (xs = ys) = true by simpa using he)
        clear he
        go_wp2
        go_ret
        exact ⟨by rw [HD.out]; rfl, _, rfl⟩
  · have hne : xs ≠ ys := fun h => by subst h; omega
    have hd : decide (xs = ys) = false := by simpa using hne
    rw [hd]
    have dn : (n != m) = true := by simpa using e
    have dn2 : ((n : Int) != m) = true := by simp; omega
    clear ha hb HA HB hne hd hn hm
    go_enter Try.func59, Try.ntmps59
    go_wp2
    go_ret
    exact ⟨rfl, 0, rfl⟩
end Go.Proofs.Ytneeagabmdpjgaa
