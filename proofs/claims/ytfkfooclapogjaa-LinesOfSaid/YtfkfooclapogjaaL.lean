/-
  A point's bytes.
-/
import Derived.Test.YtfkfooclapogjaaH
namespace Go.Proofs.Ytfkfooclapogjaa
open Go.RowKit
set_option linter.unusedVariables false
set_option linter.unusedSimpArgs false

/-- What lies in a window of a block. -/
theorem arg_blk {W : World} {G off k : Nat} {cs : Array Value} {t : TypeId} {zs : List Int} (T : Nat → Prop) (h : W.heap[G]? = some (.cells cs t (0, 0))) (hT : T G) (hl : zs.length = k) (hc : ∀ j, j < k → cs[off + j]? = some (.int .u8 (zs.getD j 0))) : Arg T W (some ⟨G, off, none⟩) k zs :=
  ⟨hl, fun hp => ⟨G, off, rfl, blk_lt h, hT, fun j hj => cell_blk h _ _ (hc j hj)⟩⟩

set_option maxHeartbeats 1600000 in
set_option maxRecDepth 100000 in
theorem Bytes_no (p : Int) (w : World) (h : ¬ Pt p) : Calls Try.prog 52 #[.int .i64 p] w fun e w' => e = .returned (.tuple #[.slice none 0 0, .bool false]) ∧ Below w.heap.size w w' := by
  have HB := Lib.hid (fun o => ((Below.refl _ w).alloc (Nat.le_refl _) o))
  unfold Pt at h
  have key : p < 0 ∨ (0 ≤ p ∧ 1114111 < p) ∨ (0 ≤ p ∧ p ≤ 1114111 ∧ 55296 ≤ p ∧ p ≤ 57343) := by omega
  clear h
  rcases key with h1 | ⟨h1, h2⟩ | ⟨h1, h2, h3, h4⟩
  · have d1 : decide (p < 0) = true := by simpa using h1
    go_enter Try.func52, Try.ntmps52
    go_wp2
    refine wp_scope_fwd 0 rfl ?_
    go_wp2
    refine wp_goto ?_
    refine ⟨rfl, ?_⟩
    go_wp2
    rw [Exit.noGoto_ret]
    go_ret2
    exact ⟨rfl, HB.out _⟩
  · have d1 : decide (p < 0) = false := by simp; omega
    have d2 : decide (1114111 < p) = true := by simpa using h2
    go_enter Try.func52, Try.ntmps52
    go_wp2
    refine wp_scope_fwd 0 rfl ?_
    go_wp2
    refine wp_goto ?_
    refine ⟨rfl, ?_⟩
    go_wp2
    rw [Exit.noGoto_ret]
    go_ret2
    exact ⟨rfl, HB.out _⟩
  · have d1 : decide (p < 0) = false := by simp; omega
    have d2 : decide (1114111 < p) = false := by simp; omega
    have d3 : decide (55296 ≤ p) = true := by simpa using h3
    have d4 : decide (p ≤ 57343) = true := by simpa using h4
    go_enter Try.func52, Try.ntmps52
    go_wp2
    refine wp_scope_fwd 0 rfl ?_
    go_wp2
    refine wp_goto ?_
    refine ⟨rfl, ?_⟩
    go_wp2
    rw [Exit.noGoto_ret]
    go_ret2
    exact ⟨rfl, HB.out _⟩

set_option maxHeartbeats 3200000 in
set_option maxRecDepth 100000 in
theorem Bytes_1 (p : Int) (w : World) (h0 : 0 ≤ p) (h1 : p < 128) : Calls Try.prog 52 #[.int .i64 p] w fun e w' => ∃ a c, e = .returned (.tuple #[.slice a (bytesL p).length c, .bool true]) ∧ Arg (fun k => w.heap.size ≤ k) w' a (bytesL p).length (bytesL p) ∧ a ≠ none ∧ Below w.heap.size w w' := by
  have hb : bytesL p = [p] := by unfold bytesL; rw [if_pos h1]
  rw [hb]
  have HB := Lib.hid (fun o o2 => ((Below.refl _ w).alloc (Nat.le_refl _) o).alloc (by simp) o2)
  have HK : Hid (∀ o o2, ((w.alloc o).alloc o2).heap[w.heap.size + 1]? = some o2) := Lib.hid (fun o o2 => by have := alloc_blk_new (w.alloc o) o2; rwa [World.size_alloc] at this)
  have d1 : decide (p < 0) = false := by simp; omega
  have d2 : decide (1114111 < p) = false := by simp; omega
  have d3 : decide (55296 ≤ p) = false := by simp; omega
  have d4 : decide (p < 128) = true := by simpa using h1
  clear hb
  go_enter Try.func52, Try.ntmps52
  go_wp2
  refine wp_scope_straight ?_
  go_wp2
  rw [Exit.noGoto_ret]
  go_ret2
  refine ⟨_, _, rfl, ?_, by simp, HB.out _ _⟩
  refine arg_blk _ (HK.out _ _) (by simp) rfl (fun j hj => ?_)
  obtain rfl : j = 0 := by simp at hj; omega
  rfl

set_option maxHeartbeats 3200000 in
set_option maxRecDepth 100000 in
theorem Bytes_2 (p : Int) (w : World) (h0 : 128 ≤ p) (h1 : p < 2048) : Calls Try.prog 52 #[.int .i64 p] w fun e w' => ∃ a c, e = .returned (.tuple #[.slice a (bytesL p).length c, .bool true]) ∧ Arg (fun k => w.heap.size ≤ k) w' a (bytesL p).length (bytesL p) ∧ a ≠ none ∧ Below w.heap.size w w' := by
  have hb : bytesL p = [192 + p / 64, 128 + p % 64] := by unfold bytesL; rw [if_neg (by omega), if_pos h1]
  rw [hb]
  have HB := Lib.hid (fun o => ((Below.refl _ w).alloc (Nat.le_refl _) o))
  have HK := Lib.hid (fun o => alloc_blk_new w o)
  have d1 : decide (p < 0) = false := by simp; omega
  have d2 : decide (1114111 < p) = false := by simp; omega
  have d5 : decide (p < 128) = false := by simp; omega
  have e0 : decide (p < 64) = false := by simp; omega
  have m0 := i64_and63 (p) (by omega) (by omega)
  have o0 := u8_or128 (p % 64) (by omega) (by omega)
  have e1 : decide (p / 64 < 32) = true := by simp; omega
  have o1 := u8_or192 (p / 64) (by omega) (by omega)
  have d3 : decide (55296 ≤ p) = false := by simp; omega
  clear hb
  go_enter Try.func52, Try.ntmps52
  go_wp2
  refine wp_scope_straight ?_
  go_wp2
  refine wp_loop_rounds 2 ?_
  rw [rounds_succ]
  go_wp2
  rw [rounds_succ]
  go_wp2
  rw [Exit.noGoto_ret]
  go_ret2
  refine ⟨_, _, rfl, ?_, by simp, HB.out _⟩
  refine arg_blk _ (HK.out _) (by simp) rfl (fun j hj => ?_)
  match j, hj with
  | 0, _ | 1, _ => rfl

set_option maxHeartbeats 3200000 in
set_option maxRecDepth 100000 in
theorem Bytes_3 (p : Int) (w : World) (h0 : 2048 ≤ p) (h1 : p < 65536) (hs : ¬ (55296 ≤ p ∧ p ≤ 57343)) : Calls Try.prog 52 #[.int .i64 p] w fun e w' => ∃ a c, e = .returned (.tuple #[.slice a (bytesL p).length c, .bool true]) ∧ Arg (fun k => w.heap.size ≤ k) w' a (bytesL p).length (bytesL p) ∧ a ≠ none ∧ Below w.heap.size w w' := by
  have hb : bytesL p = [224 + p / 4096, 128 + p / 64 % 64, 128 + p % 64] := by unfold bytesL; rw [if_neg (by omega), if_neg (by omega), if_pos h1]
  rw [hb]
  have HB := Lib.hid (fun o => ((Below.refl _ w).alloc (Nat.le_refl _) o))
  have HK := Lib.hid (fun o => alloc_blk_new w o)
  have d1 : decide (p < 0) = false := by simp; omega
  have d2 : decide (1114111 < p) = false := by simp; omega
  have d5 : decide (p < 128) = false := by simp; omega
  have e0 : decide (p < 64) = false := by simp; omega
  have m0 := i64_and63 (p) (by omega) (by omega)
  have o0 := u8_or128 (p % 64) (by omega) (by omega)
  have e1 : decide (p / 64 < 32) = false := by simp; omega
  have m1 := i64_and63 (p / 64) (by omega) (by omega)
  have o1 := u8_or128 (p / 64 % 64) (by omega) (by omega)
  have e2 : decide (p / 4096 < 16) = true := by simp; omega
  have o2 := u8_or224 (p / 4096) (by omega) (by omega)
  have q1 : p / 64 / 64 = p / 4096 := by omega
  by_cases h2 : p < 55296
  · have d3 : decide (55296 ≤ p) = false := by simp; omega
    clear hb
    go_enter Try.func52, Try.ntmps52
    go_wp2
    refine wp_scope_straight ?_
    go_wp2
    refine wp_loop_rounds 3 ?_
    rw [rounds_succ]
    go_wp2
    rw [rounds_succ]
    go_wp2
    rw [rounds_succ]
    go_wp2
    rw [Exit.noGoto_ret]
    go_ret2
    refine ⟨_, _, rfl, ?_, by simp, HB.out _⟩
    refine arg_blk _ (HK.out _) (by simp) rfl (fun j hj => ?_)
    match j, hj with
    | 0, _ | 1, _ | 2, _ => rfl
  · have d3 : decide (55296 ≤ p) = true := by simp; omega
    have d4 : decide (p ≤ 57343) = false := by simp; omega
    clear hb
    go_enter Try.func52, Try.ntmps52
    go_wp2
    refine wp_scope_straight ?_
    go_wp2
    refine wp_loop_rounds 3 ?_
    rw [rounds_succ]
    go_wp2
    rw [rounds_succ]
    go_wp2
    rw [rounds_succ]
    go_wp2
    rw [Exit.noGoto_ret]
    go_ret2
    refine ⟨_, _, rfl, ?_, by simp, HB.out _⟩
    refine arg_blk _ (HK.out _) (by simp) rfl (fun j hj => ?_)
    match j, hj with
    | 0, _ | 1, _ | 2, _ => rfl

set_option maxHeartbeats 3200000 in
set_option maxRecDepth 100000 in
theorem Bytes_4 (p : Int) (w : World) (h0 : 65536 ≤ p) (h1 : p ≤ 1114111) : Calls Try.prog 52 #[.int .i64 p] w fun e w' => ∃ a c, e = .returned (.tuple #[.slice a (bytesL p).length c, .bool true]) ∧ Arg (fun k => w.heap.size ≤ k) w' a (bytesL p).length (bytesL p) ∧ a ≠ none ∧ Below w.heap.size w w' := by
  have hb : bytesL p = [240 + p / 262144, 128 + p / 4096 % 64, 128 + p / 64 % 64, 128 + p % 64] := by unfold bytesL; rw [if_neg (by omega), if_neg (by omega), if_neg (by omega)]
  rw [hb]
  have HB := Lib.hid (fun o => ((Below.refl _ w).alloc (Nat.le_refl _) o))
  have HK := Lib.hid (fun o => alloc_blk_new w o)
  have d1 : decide (p < 0) = false := by simp; omega
  have d2 : decide (1114111 < p) = false := by simp; omega
  have d5 : decide (p < 128) = false := by simp; omega
  have e0 : decide (p < 64) = false := by simp; omega
  have m0 := i64_and63 (p) (by omega) (by omega)
  have o0 := u8_or128 (p % 64) (by omega) (by omega)
  have e1 : decide (p / 64 < 32) = false := by simp; omega
  have m1 := i64_and63 (p / 64) (by omega) (by omega)
  have o1 := u8_or128 (p / 64 % 64) (by omega) (by omega)
  have e2 : decide (p / 4096 < 16) = false := by simp; omega
  have m2 := i64_and63 (p / 4096) (by omega) (by omega)
  have o2 := u8_or128 (p / 4096 % 64) (by omega) (by omega)
  have e3 : decide (p / 262144 < 8) = true := by simp; omega
  have o3 := u8_or240 (p / 262144) (by omega) (by omega)
  have q1 : p / 64 / 64 = p / 4096 := by omega
  have q2 : p / 4096 / 64 = p / 262144 := by omega
  have d3 : decide (55296 ≤ p) = true := by simp; omega
  have d4 : decide (p ≤ 57343) = false := by simp; omega
  clear hb
  go_enter Try.func52, Try.ntmps52
  go_wp2
  refine wp_scope_straight ?_
  go_wp2
  refine wp_loop_rounds 4 ?_
  rw [rounds_succ]
  go_wp2
  rw [rounds_succ]
  go_wp2
  rw [rounds_succ]
  go_wp2
  rw [rounds_succ]
  go_wp2
  rw [Exit.noGoto_ret]
  go_ret2
  refine ⟨_, _, rfl, ?_, by simp, HB.out _⟩
  refine arg_blk _ (HK.out _) (by simp) rfl (fun j hj => ?_)
  match j, hj with
  | 0, _ | 1, _ | 2, _ | 3, _ => rfl

theorem Bytes_any (p : Int) (w : World) (h : Pt p) : Calls Try.prog 52 #[.int .i64 p] w fun e w' => ∃ a c, e = .returned (.tuple #[.slice a (bytesL p).length c, .bool true]) ∧ Arg (fun k => w.heap.size ≤ k) w' a (bytesL p).length (bytesL p) ∧ a ≠ none ∧ Below w.heap.size w w' := by
  unfold Pt at h
  by_cases h1 : p < 128
  · exact Bytes_1 p w h.1 h1
  by_cases h2 : p < 2048
  · exact Bytes_2 p w (by omega) h2
  by_cases h3 : p < 65536
  · exact Bytes_3 p w (by omega) h3 h.2.2
  · exact Bytes_4 p w (by omega) h.2.1
set_option maxHeartbeats 800000 in
theorem point_any (p : Int) (w : World) (h : Pt p) : Calls Try.prog 41 #[.int .i64 p] w fun e w' => ∃ a c, e = .returned (.slice a (bytesL p).length c) ∧ Arg (fun k => w.heap.size ≤ k) w' a (bytesL p).length (bytesL p) ∧ a ≠ none ∧ Below w.heap.size w w' := by
  have HP := Lib.hid (Bytes_any p w h)
  clear h
  go_enter Try.func41, Try.ntmps41
  go_wp2_with (go_at_call 52; refine HP.out.mono ?_; rintro e w' ⟨a, c, rfl, h1, h2, h3⟩)
  go_ret
  exact ⟨a, c, rfl, h1, h2, h3⟩
end Go.Proofs.Ytfkfooclapogjaa
