/-
  Push; a queue, told by the bytes that wait.
-/
import Derived.Test.YtneeagabmdpjgaaG
namespace Go.Proofs.Ytneeagabmdpjgaa
open Go.RowKit
set_option linter.unusedVariables false
set_option linter.unusedSimpArgs false

theorem Push1_any (x : Int) (a : Option Addr) (n c : Nat) (w : World) (h0 : 0 ≤ x) (h1 : x ≤ 1099511627776) (h2 : n ≤ 1099511627776) :
    Calls Try.prog 54 #[.int .i64 x, .slice a n c] w fun e w' => e = .returned (.int .i64 (x + n)) ∧ w = w' := by
  go_enter Try.func54, Try.ntmps54
  go_wp2
  go_ret
  exact ⟨rfl, rfl⟩

set_option maxHeartbeats 800000 in
theorem folded_any (T : Nat → Prop) (pa : Option Addr) (pc : Nat) (ls : List (List Int)) (w : World) (hl2 : ls.flatten.length ≤ 1073741824) (hln : ls.length ≤ 1000) (hP : Parts T w pa ls) :
    Calls Try.prog 53 #[.int .i64 0, .func (.func 54) #[] #[], .slice pa ls.length pc] w fun e w' => e = .returned (.int .i64 ls.flatten.length) ∧ w = w' := by
  have HP := Lib.hid hP
  have HC := Lib.hid Push1_any
  clear hP
  go_enter Try.func53, Try.ntmps53
  go_wp2
  go_loopg [0, 11] ls.length (fun gk v0 v11 wr => ∃ i : Nat, v0 = .int .i64 (ls.take i).flatten.length ∧ v11 = .int .i64 i ∧ i ≤ ls.length ∧ gk = ls.length - i ∧ wr = w)
  case atStart => exact ⟨0, by simp, rfl, by omega, rfl, rfl⟩
  case round =>
    obtain ⟨i, rfl, rfl, hi, hgk, rfl⟩ := hrel
    have HG := Lib.hid hgk
    clear hgk
    by_cases hlt : i < ls.length
    · obtain ⟨pb, off, rfl, hpb, _, hpc⟩ := HP.out (by omega)
      obtain ⟨z, hz⟩ : ∃ z, z = ls.getD i [] := ⟨_, rfl⟩
      obtain ⟨a, c, z1, z2, z3⟩ := hpc i hlt
      rw [← hz] at z1
      have hzl := take_flat ls i hlt
      rw [← hz] at hzl
      have hta : (ls.take (i + 1)).flatten.length = (ls.take i).flatten.length + z.length := by
        rw [List.take_succ_eq_append_getElem hlt, List.flatten_append, List.length_append, hz]; simp [List.getD, hlt]
      obtain ⟨tl, htl⟩ : ∃ tl, tl = (ls.take i).flatten.length := ⟨_, rfl⟩
      rw [← htl] at hzl hta ⊢
      have HTA := Lib.hid hta
      have HCC := Lib.hid (HC.out tl a z.length c wr (by omega) (by omega) (by omega))
      clear hpc z2 z3 hz htl hta
      go_wp2_with (go_at_call 54; refine HCC.out.mono ?_; rintro e w' ⟨rfl, rfl⟩)
      go_roundg (ls.length - (i + 1))
      case measure => have := HG.out; omega
      case rel => exact ⟨i + 1, by rw [HTA.out]; simp, by go_num, by omega, rfl, rfl⟩
    · obtain rfl : i = ls.length := by omega
      go_wp2
      go_ret
      exact ⟨by simp, rfl⟩

/-- A queue, told by the bytes that wait. -/
structure Qu (w : World) (base p : Nat) (m : Int) (sv : Value) (g : Nat) (vs bs : List Int) : Prop where
  at_ : QAt w base p sv g m vs
  hg : g ≤ vs.length
  hb : vs.drop g = bs
  hl : (vs.length : Int) ≤ 2 * m
  hm0 : 0 ≤ m
  hm1 : m ≤ 1048576
  fit : (bs.length : Int) ≤ m
section
variable {w : World} {base p g : Nat} {m : Int} {sv : Value} {vs bs : List Int}
theorem Qu.len (h : Qu w base p m sv g vs bs) : vs.length - g = bs.length := by rw [← h.hb, List.length_drop]
theorem Qu.mod {w' : World} {S : Nat → Prop} (h : Qu w base p m sv g vs bs) (hm : Mod S w w') (hn : ∀ k, FP p sv k → ¬ S k) : Qu w' base p m sv g vs bs := { h with at_ := h.at_.mod hm hn }
theorem Qu.below {w' : World} (h : Qu w base p m sv g vs bs) (hb : Below w.heap.size w w') : Qu w' base p m sv g vs bs := { h with at_ := h.at_.below hb }
theorem Qu.drewN (h : Qu w base p m sv g vs bs) (n : Nat) : Qu (w.drewN n) base p m sv g vs bs := { h with at_ := h.at_.drewN n }
end

set_option maxHeartbeats 1600000 in
set_option maxRecDepth 100000 in
theorem Push_room (base p g : Nat) (m : Int) (sv : Value) (vs bs : List Int) (pa : Option Addr) (pc : Nat) (ls : List (List Int)) (w : World) (h : Qu w base p m sv g vs bs) (hln : ls.length ≤ 1000) (hP : Parts (fun k => ¬ FP p sv k) w pa ls) (hfit : (bs.length : Int) + ls.flatten.length ≤ m) :
    Calls Try.prog 31 #[.pointer (some ⟨p, 0, none⟩), .slice pa ls.length pc] w fun e w' => e = .returned (.int .i64 0) ∧ ∃ sv' g' vs', Qu w' base p m sv' g' vs' (bs ++ ls.flatten) ∧ Step p sv sv' w w' := by
  have hlen := h.len
  have hm1 := h.hm1
  have hm0 := h.hm0
  have hl := h.hl
  have HN := Lib.hid (none_q p w h.at_.c3)
  have HF := Lib.hid (folded_any _ pa pc ls w (by omega) hln hP)
  have HR := Lib.hid (Room_any base p g m sv vs w h.at_ h.hg (by omega) h.hm0 h.hm1)
  have HPut := Lib.hid (fun q => put_any base p g m sv vs pa pc ls (w.drewN q) (h.at_.drewN q) h.hg (by omega) (by omega) hln (hP.below (Below.drewN' w q)))
  have HH := Lib.hid h
  obtain ⟨n, hn⟩ : ∃ n : Nat, n = ls.flatten.length := ⟨_, rfl⟩
  rw [← hn] at HF hfit
  rw [hlen] at HR
  obtain ⟨r, hr⟩ : ∃ r : Int, r = m - (bs.length : Int) := ⟨_, rfl⟩
  rw [← hr] at HR
  have t1 : ¬ (r < (n : Int)) := by omega
  have t2 : decide (r < (n : Int)) = false := by simp; omega
  have HX := Lib.hid hn
  have HY := Lib.hid hfit
  clear h hP hn hr hlen hl hfit
  go_enter Try.func31, Try.ntmps31
  go_wp2
  refine wp_scope_straight ?_
  go_wp2_with (first | (go_at_call 52; refine HN.out.mono ?_; rintro e w' ⟨rfl, rfl⟩) | (go_at_call 53; refine HF.out.mono ?_; rintro e w' ⟨rfl, rfl⟩) | (go_at_call 39; refine HR.out.mono ?_; rintro e w' ⟨rfl, q, rfl⟩) | (go_at_call 55; refine (HPut.out _).mono ?_; rintro e w2 ⟨rfl, hp⟩))
  rw [Exit.noGoto_ret]
  go_ret
  obtain ⟨sv', g', vs', h1, h2, h3, h4, h5⟩ := hp
  rw [List.take_length] at h3 h4
  have hH := HH.out
  have hlen := hH.len
  have hx := HX.out
  have hy := HY.out
  have hh := hH.fit
  refine ⟨rfl, sv', g', vs', ⟨h1, h2, by rw [h3, hH.hb], by omega, hH.hm0, hH.hm1, by rw [List.length_append]; omega⟩, (Step.of_below (sv := sv) (Below.drewN' w q)).trans h5⟩

set_option maxHeartbeats 1600000 in
set_option maxRecDepth 100000 in
theorem Push_full (base p g : Nat) (m : Int) (sv : Value) (vs bs : List Int) (pa : Option Addr) (pc : Nat) (ls : List (List Int)) (w : World) (h : Qu w base p m sv g vs bs) (hln : ls.length ≤ 1000) (hP : Parts (fun k => ¬ FP p sv k) w pa ls) (hfit : m < (bs.length : Int) + ls.flatten.length) (hfl : ls.flatten.length ≤ 1000000) :
    Calls Try.prog 31 #[.pointer (some ⟨p, 0, none⟩), .slice pa ls.length pc] w fun e w' => e = .returned (.int .i64 120) ∧ ∃ q, w' = w.drewN q := by
  have hlen := h.len
  have hm1 := h.hm1
  have hm0 := h.hm0
  have hl := h.hl
  have HN := Lib.hid (none_q p w h.at_.c3)
  have HF := Lib.hid (folded_any _ pa pc ls w (by omega) hln hP)
  have HR := Lib.hid (Room_any base p g m sv vs w h.at_ h.hg (by omega) h.hm0 h.hm1)
  obtain ⟨n, hn⟩ : ∃ n : Nat, n = ls.flatten.length := ⟨_, rfl⟩
  rw [← hn] at HF hfit
  rw [hlen] at HR
  obtain ⟨r, hr⟩ : ∃ r : Int, r = m - (bs.length : Int) := ⟨_, rfl⟩
  rw [← hr] at HR
  have t1 : (r < (n : Int)) := by omega
  have t2 : decide (r < (n : Int)) = true := by simpa using t1
  clear h hP hn hr hlen hl hfit
  go_enter Try.func31, Try.ntmps31
  go_wp2
  refine wp_scope_fwd 0 rfl ?_
  go_wp2_with (first | (go_at_call 52; refine HN.out.mono ?_; rintro e w' ⟨rfl, rfl⟩) | (go_at_call 53; refine HF.out.mono ?_; rintro e w' ⟨rfl, rfl⟩) | (go_at_call 39; refine HR.out.mono ?_; rintro e w' ⟨rfl, q, rfl⟩))
  refine wp_goto ?_
  refine ⟨rfl, ?_⟩
  go_wp2
  rw [Exit.noGoto_ret]
  go_ret
  exact ⟨rfl, _, rfl⟩

theorem Push_nil (a : Option Addr) (n c : Nat) (w : World) :
    Calls Try.prog 31 #[.pointer none, .slice a n c] w fun e w' => e = .returned (.int .i64 1) ∧ w = w' := by
  have HN := Lib.hid (none_nil w)
  go_enter Try.func31, Try.ntmps31
  go_wp2
  refine wp_scope_fwd 0 rfl ?_
  go_wp2_with (first | (go_at_call 52; refine HN.out.mono ?_; rintro e w' ⟨rfl, rfl⟩))
  refine wp_goto ?_
  refine ⟨rfl, ?_⟩
  go_wp2
  rw [Exit.noGoto_ret]
  go_ret
  exact ⟨rfl, rfl⟩
end Go.Proofs.Ytneeagabmdpjgaa
