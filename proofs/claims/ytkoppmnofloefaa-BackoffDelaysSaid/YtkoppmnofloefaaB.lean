import Derived.Test.YtkoppmnofloefaaCom
namespace Go.Proofs.Ytkoppmnofloefaa
open Go.RowKit
set_option linter.unusedVariables false
set_option linter.unusedSimpArgs false

/-- A backoff in memory. -/
def BoAt (w : World) (p : Nat) (L M J base tries : Int) : Prop :=
  w.heap[p]? = some (.cells #[.int .u64 L, .int .u64 M, .int .u64 J, .int .u64 base, .int .i64 tries, .bool true] 57 (0, 0))

set_option maxHeartbeats 400000 in
theorem num_any (a : Int) (w : World) :
    Calls Try.prog 11 #[.int .i64 a] w fun e w' => e = .returned (.int .i64 a) ∧ w = w' := by
  go_enter Try.func11, Try.ntmps11
  go_wp2
  go_ret
  exact ⟨rfl, rfl⟩

set_option maxHeartbeats 400000 in
theorem none_nil (w : World) :
    Calls Try.prog 26 #[.pointer none] w fun e w' => e = .returned (.bool true) ∧ w = w' := by
  go_enter Try.func26, Try.ntmps26
  go_wp2
  go_ret
  exact ⟨rfl, rfl⟩

set_option maxHeartbeats 400000 in
theorem none_bo (p : Nat) (w : World) (m : Bool) (h5 : w.cell? ⟨p, 5, none⟩ = some (.bool m)) :
    Calls Try.prog 26 #[.pointer (some ⟨p, 0, none⟩)] w fun e w' => e = .returned (.bool (!m)) ∧ w = w' := by
  go_enter Try.func26, Try.ntmps26
  go_wp2
  go_ret
  exact ⟨rfl, rfl⟩

theorem ret_tup {k k' : IntKind} {a b c : Int} (h : a = b) : Ending.returned (.tuple #[.int k a, .int k' c]) = .returned (.tuple #[.int k b, .int k' c]) := by rw [h]
theorem ret_one {k : IntKind} {a b : Int} (h : a = b) : Ending.returned (.int k a) = .returned (.int k b) := by rw [h]
set_option maxHeartbeats 400000 in
theorem clamp_any (n l m : Int) (w : World) (h : l ≤ m) :
    Calls Try.prog 27 #[.int .u64 n, .int .u64 l, .int .u64 m] w fun e w' => e = .returned (.tuple #[.int .u64 (max l (min m n)), .int .i64 0]) ∧ w = w' := by
  go_enter Try.func27, Try.ntmps27
  go_wp2
  all_goals
    go_ret2
    exact ⟨ret_tup (by omega), rfl⟩

theorem mul_fits {a b : Int} (h : 1 ≤ a) (hb : 0 ≤ b) (hb2 : b ≤ 18446744073709551615) (hm : a * b ≤ 18446744073709551615) : (IntKind.u64.wrap ((IntKind.u64.wrap (a * b)).tdiv a) != b) = false := by
  have h0 : 0 ≤ a * b := Int.mul_nonneg (by omega) hb
  rw [IntWalk.u64_in _ ⟨h0, hm⟩, Int.mul_tdiv_cancel_left _ (by omega), IntWalk.u64_in _ ⟨hb, hb2⟩]
  simp
theorem mul_over {a b : Int} (h : 1 ≤ a) (h2 : a ≤ 18446744073709551615) (hb : 0 ≤ b) (hm : 18446744073709551615 < a * b) : (IntKind.u64.wrap ((IntKind.u64.wrap (a * b)).tdiv a) != b) = true := by
  rw [IntKind.wrap_u64 (a * b)]
  have h1 := Int.emod_nonneg (a * b) (show (18446744073709551616 : Int) ≠ 0 by omega)
  have h3 := Int.emod_lt_of_pos (a * b) (show (0 : Int) < 18446744073709551616 by omega)
  generalize a * b % 18446744073709551616 = r at *
  rw [Int.tdiv_eq_ediv_of_nonneg h1]
  have h4 : r / a ≤ r := Int.ediv_le_self a h1
  have h5 : 0 ≤ r / a := Int.ediv_nonneg h1 (by omega)
  rw [IntWalk.u64_in _ ⟨h5, by omega⟩]
  have h6 := Int.mul_ediv_self_le (x := r) (k := a) (by omega)
  simp only [bne_iff_ne, ne_eq]
  intro e
  rw [e] at h6
  omega

set_option maxHeartbeats 400000 in
theorem mul_ok (a b : Int) (w : World) (h : 1 ≤ a) (hb : 0 ≤ b) (hb2 : b ≤ 18446744073709551615) (hm : a * b ≤ 18446744073709551615) :
    Calls Try.prog 36 #[.int .u64 a, .int .u64 b] w fun e w' => e = .returned (.tuple #[.int .u64 (a * b), .int .i64 0]) ∧ w = w' := by
  have h0 : (a == 0) = false := by simp; omega
  have h3 := mul_fits h hb hb2 hm
  have hq := Lib.hid (IntWalk.u64_in _ ⟨Int.mul_nonneg (by omega) hb, hm⟩)
  clear hm
  go_enter Try.func36, Try.ntmps36
  go_wp2
  go_ret2
  exact ⟨ret_tup hq.out, rfl⟩

set_option maxHeartbeats 400000 in
theorem mul_no (a b : Int) (w : World) (h : 1 ≤ a) (h2 : a ≤ 18446744073709551615) (hb : 0 ≤ b) (hm : 18446744073709551615 < a * b) :
    Calls Try.prog 36 #[.int .u64 a, .int .u64 b] w fun e w' => e = .returned (.tuple #[.int .u64 0, .int .i64 111]) ∧ w = w' := by
  have h0 : (a == 0) = false := by simp; omega
  have h3 := mul_over h h2 hb hm
  have h4 : (a != 0) = true := by simp; omega
  clear hm
  go_enter Try.func36, Try.ntmps36
  go_wp2
  go_ret2
  exact ⟨rfl, rfl⟩

/-- What a delay is. -/
def delayOf (M J base : Int) (t : Nat) (draw : Int) : Int := min (base * 2 ^ t) M + draw % (J + 1)

set_option maxHeartbeats 400000 in
theorem delay_mul (base P : Int) (w : World) (h : 1 ≤ base) (h2 : base ≤ 1099511627776) (hp : 0 ≤ P) (hp2 : P ≤ 18446744073709551615) :
    ∃ n e, Calls Try.prog 36 #[.int .u64 base, .int .u64 P] w (fun e' w' => e' = .returned (.tuple #[.int .u64 n, .int .i64 e]) ∧ w = w') ∧
      ((e = 0 ∧ n = base * P) ∨ ((e != 0) = true ∧ 18446744073709551615 < base * P)) := by
  by_cases hm : base * P ≤ 18446744073709551615
  · exact ⟨_, _, mul_ok base P w h hp hp2 hm, .inl ⟨rfl, rfl⟩⟩
  · exact ⟨_, _, mul_no base P w h (by omega) hp (by omega), .inr ⟨rfl, by omega⟩⟩

set_option maxHeartbeats 800000 in
theorem delay_lo (p : Nat) (L M J base tries more draw P : Int) (w : World) (h : BoAt w p L M J base tries) (h1 : 1 ≤ base) (h2 : base ≤ 1099511627776) (hM : 0 ≤ M) (hM2 : M ≤ 1099511627776) (hJ : 0 ≤ J) (hJ2 : J ≤ 1099511627776)
    (hd : 0 ≤ draw) (b1 : 0 ≤ tries) (b3 : 0 ≤ more) (b5 : tries + more ≤ 63) (hP : IntKind.u64.wrap (2 ^ (tries + more).toNat) = P) (hp : 0 ≤ P) (hp2 : P ≤ 18446744073709551615) :
    Calls Try.prog 28 #[.pointer (some ⟨p, 0, none⟩), .int .i64 more, .int .u64 draw] w fun e w' => e = .returned (.int .u64 (min (base * P) M + draw % (J + 1))) ∧ ∃ n, w' = w.drewN n := by
  have c1 := cell_blk h 1 _ rfl
  have c2 := cell_blk h 2 _ rfl
  have c3 := cell_blk h 3 _ rfl
  have c4 := cell_blk h 4 _ rfl
  have r1 := Int.emod_nonneg draw (show J + 1 ≠ 0 by omega)
  have r2 := Int.emod_lt_of_pos draw (show 0 < J + 1 by omega)
  have hmin : min (base * P) M ≤ M := by omega
  have hmin0 : 0 ≤ base * P := Int.mul_nonneg (by omega) hp
  clear h
  by_cases hm : base * P ≤ 18446744073709551615
  · have HM := Lib.hid (fun (W : World) => calls_swap (mul_ok base P W h1 hp hp2 hm))
    by_cases hc : base * P < M
    · go_enter Try.func28, Try.ntmps28
      go_wp2
      go_quiet ((go_at_call 36; exact Calls.quiet_of_same (HM.out _)))
      go_wp2
      go_region
      all_goals go_wp2
      all_goals go_ret
      all_goals exact ⟨ret_one (by omega), _, rfl⟩
    · go_enter Try.func28, Try.ntmps28
      go_wp2
      go_quiet ((go_at_call 36; exact Calls.quiet_of_same (HM.out _)))
      go_wp2
      go_region
      all_goals go_wp2
      all_goals go_ret
      all_goals exact ⟨ret_one (by omega), _, rfl⟩
  · have HM := Lib.hid (fun (W : World) => calls_swap (mul_no base P W h1 (by omega) hp (by omega)))
    go_enter Try.func28, Try.ntmps28
    go_wp2
    go_quiet ((go_at_call 36; exact Calls.quiet_of_same (HM.out _)))
    go_wp2
    go_region
    all_goals go_wp2
    all_goals go_ret
    all_goals exact ⟨ret_one (by omega), _, rfl⟩
set_option maxHeartbeats 800000 in
theorem delay_hi (p : Nat) (L M J base tries more draw : Int) (w : World) (h : BoAt w p L M J base tries) (h1 : 1 ≤ base) (h2 : base ≤ 1099511627776) (hM : 0 ≤ M) (hM2 : M ≤ 1099511627776) (hJ : 0 ≤ J) (hJ2 : J ≤ 1099511627776)
    (hd : 0 ≤ draw) (b1 : 0 ≤ tries) (b3 : 0 ≤ more) (b5 : 63 < tries + more) (b6 : tries + more ≤ 1000) :
    Calls Try.prog 28 #[.pointer (some ⟨p, 0, none⟩), .int .i64 more, .int .u64 draw] w fun e w' => e = .returned (.int .u64 (M + draw % (J + 1))) ∧ ∃ n, w' = w.drewN n := by
  have c1 := cell_blk h 1 _ rfl
  have c2 := cell_blk h 2 _ rfl
  have c3 := cell_blk h 3 _ rfl
  have c4 := cell_blk h 4 _ rfl
  have r1 := Int.emod_nonneg draw (show J + 1 ≠ 0 by omega)
  have r2 := Int.emod_lt_of_pos draw (show 0 < J + 1 by omega)
  clear h
  by_cases hm : base * 9223372036854775808 ≤ 18446744073709551615
  · have HM := Lib.hid (fun (W : World) => calls_swap (mul_ok base 9223372036854775808 W h1 (by omega) (by omega) hm))
    have hq : ∃ X : Int, X = base * 9223372036854775808 ∧ 1099511627776 < X := ⟨_, rfl, by omega⟩
    obtain ⟨X, hX, hX2⟩ := hq
    rw [← hX] at HM
    clear hm hX
    go_enter Try.func28, Try.ntmps28
    go_wp2
    go_quiet ((go_at_call 36; exact Calls.quiet_of_same (HM.out _)))
    go_wp2
    go_region
    all_goals go_wp2
    all_goals go_ret
    all_goals exact ⟨ret_one (by omega), _, rfl⟩
  · have HM := Lib.hid (fun (W : World) => calls_swap (mul_no base 9223372036854775808 W h1 (by omega) (by omega) (by omega)))
    clear hm
    go_enter Try.func28, Try.ntmps28
    go_wp2
    go_quiet ((go_at_call 36; exact Calls.quiet_of_same (HM.out _)))
    go_wp2
    go_region
    all_goals go_wp2
    all_goals go_ret
    all_goals exact ⟨ret_one (by omega), _, rfl⟩
end Go.Proofs.Ytkoppmnofloefaa
