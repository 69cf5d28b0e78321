import Derived.Test.YtkoppmnofloefaaB
namespace Go.Proofs.Ytkoppmnofloefaa
open Go.RowKit
set_option linter.unusedVariables false
set_option linter.unusedSimpArgs false

set_option maxHeartbeats 400000 in
theorem max_two (b : Nat) (x y : Int) (w : World) (h0 : w.cell? ⟨b, 0, none⟩ = some (.int .u64 x)) (h1 : w.cell? ⟨b, 1, none⟩ = some (.int .u64 y)) :
    Calls Try.prog 35 #[.slice (some ⟨b, 0, none⟩) 2 2] w fun e w' => e = .returned (.int .u64 (max x y)) ∧ w = w' := by
  by_cases h : x < y
  · go_enter Try.func35, Try.ntmps35
    go_wp2
    refine wp_loop_rounds 2 ?_
    rw [rounds_succ]
    go_wp2
    rw [rounds_succ]
    go_wp2
    go_ret
    exact ⟨ret_one (by omega), rfl⟩
  · go_enter Try.func35, Try.ntmps35
    go_wp2
    refine wp_loop_rounds 2 ?_
    rw [rounds_succ]
    go_wp2
    rw [rounds_succ]
    go_wp2
    go_ret
    exact ⟨ret_one (by omega), rfl⟩

/-- May a wait be? -/
def okW (L M J : Int) : Bool := decide (1 ≤ L ∧ L ≤ M ∧ M ≤ 1099511627776 ∧ J ≤ 1099511627776)

set_option maxHeartbeats 800000 in
theorem right_any (L M J : Int) (w : World) :
    Calls Try.prog 25 #[.agg #[.int .u64 L, .int .u64 M, .int .u64 J]] w fun e w' => e = .returned (.bool (okW L M J)) ∧ Below w.heap.size w w' := by
  have k0 : ((w.alloc (.cells #[.int .u64 L, .int .u64 M, .int .u64 J] 24)).alloc (.cells #[.int .u64 M, .int .u64 J] 71)).cell? ⟨w.heap.size + 1, 0, none⟩ = some (.int .u64 M) := by rw [World.cell?_alloc_at _ _ _ _ (by simp)]; rfl
  have k1 : ((w.alloc (.cells #[.int .u64 L, .int .u64 M, .int .u64 J] 24)).alloc (.cells #[.int .u64 M, .int .u64 J] 71)).cell? ⟨w.heap.size + 1, 1, none⟩ = some (.int .u64 J) := by rw [World.cell?_alloc_at _ _ _ _ (by simp)]; rfl
  have HM := max_two (w.heap.size + 1) M J _ k0 k1
  obtain ⟨X, hX⟩ : ∃ X, X = max M J := ⟨_, rfl⟩
  rw [← hX] at HM
  have HM := Lib.hid HM
  have HB : Below w.heap.size w ((w.alloc (.cells #[.int .u64 L, .int .u64 M, .int .u64 J] 24)).alloc (.cells #[.int .u64 M, .int .u64 J] 71)) := ((Below.refl _ w).alloc (Nat.le_refl _) _).alloc (by simp) _
  have HB := Lib.hid HB
  have hX := Lib.hid hX
  clear k0 k1
  by_cases c1 : 1099511627776 < X
  · have e : okW L M J = false := by have := hX.out; simp [okW]; omega
    rw [e]
    clear e
    go_enter Try.func25, Try.ntmps25
    go_wp2_with (go_at_call 35; refine HM.out.mono ?_; rintro e w' ⟨rfl, rfl⟩)
    go_ret
    exact ⟨rfl, HB.out⟩
  · by_cases c2 : 0 < L
    · have d2 : decide (0 < L) = true := by simpa using c2
      by_cases c3 : L ≤ M
      · have d3 : decide (L ≤ M) = true := by simpa using c3
        have e : okW L M J = true := by have := hX.out; simp [okW]; omega
        rw [e]
        clear e
        go_enter Try.func25, Try.ntmps25
        go_wp2_with (go_at_call 35; refine HM.out.mono ?_; rintro e w' ⟨rfl, rfl⟩)
        go_ret
        exact ⟨rfl, HB.out⟩
      · have d3 : decide (L ≤ M) = false := by simpa using c3
        have e : okW L M J = false := by have := hX.out; simp [okW]; omega
        rw [e]
        clear e
        go_enter Try.func25, Try.ntmps25
        go_wp2_with (go_at_call 35; refine HM.out.mono ?_; rintro e w' ⟨rfl, rfl⟩)
        go_ret
        exact ⟨rfl, HB.out⟩
    · have d2 : decide (0 < L) = false := by simpa using c2
      have e : okW L M J = false := by have := hX.out; simp [okW]; omega
      rw [e]
      clear e
      go_enter Try.func25, Try.ntmps25
      go_wp2_with (go_at_call 35; refine HM.out.mono ?_; rintro e w' ⟨rfl, rfl⟩)
      go_ret
      exact ⟨rfl, HB.out⟩

/-- A backoff that may be. -/
structure Bo (w : World) (p : Nat) (L M J base : Int) (k : Nat) : Prop where
  at_ : BoAt w p L M J base k
  l1 : 1 ≤ L
  lm : L ≤ M
  m2 : M ≤ 1099511627776
  j0 : 0 ≤ J
  j2 : J ≤ 1099511627776
  bl : L ≤ base
  bm : base ≤ M
  k2 : k ≤ 64
theorem Bo.lt {w : World} {p : Nat} {L M J base : Int} {k : Nat} (h : Bo w p L M J base k) : p < w.heap.size := blk_lt h.at_
theorem Bo.mod {w w' : World} {S : Nat → Prop} {p : Nat} {L M J base : Int} {k : Nat} (h : Bo w p L M J base k) (hm : Mod S w w') (hn : ¬ S p) : Bo w' p L M J base k :=
  ⟨(hm.block p h.lt hn).trans h.at_, h.l1, h.lm, h.m2, h.j0, h.j2, h.bl, h.bm, h.k2⟩
theorem Bo.below {w w' : World} {p : Nat} {L M J base : Int} {k : Nat} (h : Bo w p L M J base k) (hb : Below w.heap.size w w') : Bo w' p L M J base k := h.mod (Mod.of_below hb (fun _ => False)) (fun h => h)
theorem Bo.drewN {w : World} {p : Nat} {L M J base : Int} {k : Nat} (h : Bo w p L M J base k) (n : Nat) : Bo (w.drewN n) p L M J base k := ⟨h.at_, h.l1, h.lm, h.m2, h.j0, h.j2, h.bl, h.bm, h.k2⟩

set_option maxHeartbeats 800000 in
theorem new_ok (L M J : Int) (w : World) (h : okW L M J = true) (hJ : 0 ≤ J) :
    Calls Try.prog 9 #[.agg #[.int .u64 L, .int .u64 M, .int .u64 J]] w fun e w' => ∃ p, w.heap.size ≤ p ∧ e = .returned (.tuple #[.pointer (some ⟨p, 0, none⟩), .int .i64 0]) ∧ Bo w' p L M J L 0 ∧ Below w.heap.size w w' := by
  have hd : 1 ≤ L ∧ L ≤ M ∧ M ≤ 1099511627776 ∧ J ≤ 1099511627776 := by simpa [okW] using h
  have HR := Lib.hid (right_any L M J (w.alloc (.cells #[.int .u64 L, .int .u64 M, .int .u64 J] 24)))
  rw [h] at HR
  have HD := Lib.hid hd
  clear hd h
  go_enter Try.func9, Try.ntmps9
  go_wp2_with fail
  refine HR.out.mono ?_
  rintro e w1 ⟨rfl, hb⟩
  have b0 : w1.heap[w.heap.size]? = some (.cells #[.int .u64 L, .int .u64 M, .int .u64 J] 24 (0, 0)) := (hb.block w.heap.size (by simp)).trans (alloc_blk_new _ _)
  have k0 := cell_blk b0 0 _ rfl
  have k1 := cell_blk b0 1 _ rfl
  have k2 := cell_blk b0 2 _ rfl
  have HB := Lib.hid (((Below.refl _ w).alloc (Nat.le_refl _) (.cells #[.int .u64 L, .int .u64 M, .int .u64 J] 24)).trans (hb.mono (by simp)))
  clear hb b0
  go_wp2
  go_ret2
  have hs := HB.out.size
  have d := HD.out
  exact ⟨w1.heap.size, hs, rfl, ⟨alloc_blk_new _ _, d.1, d.2.1, d.2.2.1, hJ, d.2.2.2, Int.le_refl _, d.2.1, by omega⟩, HB.out.alloc hs _⟩

set_option maxHeartbeats 800000 in
theorem new_bad (L M J : Int) (w : World) (h : okW L M J = false) :
    Calls Try.prog 9 #[.agg #[.int .u64 L, .int .u64 M, .int .u64 J]] w fun e w' => e = .returned (.tuple #[.pointer none, .int .i64 2]) ∧ Below w.heap.size w w' := by
  have HR := Lib.hid (right_any L M J (w.alloc (.cells #[.int .u64 L, .int .u64 M, .int .u64 J] 24)))
  rw [h] at HR
  clear h
  go_enter Try.func9, Try.ntmps9
  go_wp2_with fail
  refine HR.out.mono ?_
  rintro e w1 ⟨rfl, hb⟩
  have HB := Lib.hid (((Below.refl _ w).alloc (Nat.le_refl _) (.cells #[.int .u64 L, .int .u64 M, .int .u64 J] 24)).trans (hb.mono (by simp)))
  clear hb
  go_wp2
  go_ret2
  exact ⟨rfl, HB.out⟩

theorem two_pow_le {n m : Nat} (h : n ≤ m) : (2 : Int) ^ n ≤ 2 ^ m := by exact_mod_cast Nat.pow_le_pow_right (by omega : 0 < 2) h
theorem two_pow_pos (n : Nat) : (1 : Int) ≤ 2 ^ n := by exact_mod_cast Nat.one_le_two_pow

theorem delay_bo (p : Nat) (L M J base draw : Int) (k x : Nat) (w : World) (h : Bo w p L M J base k) (hx : x ≤ 100) (hd : 0 ≤ draw) :
    Calls Try.prog 28 #[.pointer (some ⟨p, 0, none⟩), .int .i64 x, .int .u64 draw] w fun e w' => e = .returned (.int .u64 (delayOf M J base (k + x) draw)) ∧ ∃ n, w' = w.drewN n := by
  have h1 := h.l1; have h2 := h.lm; have h3 := h.m2; have h4 := h.j0; have h5 := h.j2; have h6 := h.bl; have h7 := h.bm; have h8 := h.k2
  by_cases hc : k + x ≤ 63
  · have e : ((k : Int) + (x : Int)).toNat = k + x := by omega
    have hp1 := two_pow_pos (k + x)
    have hp2 := two_pow_le hc
    refine (delay_lo p L M J base k x draw (2 ^ (k + x)) w h.at_ (by omega) (by omega) (by omega) h3 h4 h5 hd (by omega) (by omega) (by omega) ?_ (by omega) ?_)
    · rw [e]; exact IntWalk.u64_in _ ⟨by omega, by omega⟩
    · omega
  · refine (delay_hi p L M J base k x draw w h.at_ (by omega) (by omega) (by omega) h3 h4 h5 hd (by omega) (by omega) (by omega) (by omega)).mono ?_
    rintro e w' ⟨rfl, hn⟩
    refine ⟨ret_one ?_, hn⟩
    have hp2 := two_pow_le (show 63 ≤ k + x by omega)
    have : M ≤ base * 2 ^ (k + x) := by
      have h9 : (1 : Int) * 2 ^ (k + x) ≤ base * 2 ^ (k + x) := Int.mul_le_mul_of_nonneg_right (by omega) (by omega)
      omega
    unfold delayOf
    omega
end Go.Proofs.Ytkoppmnofloefaa
