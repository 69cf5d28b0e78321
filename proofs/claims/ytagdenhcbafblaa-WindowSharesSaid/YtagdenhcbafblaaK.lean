/-
  The document's window: Grant, Take, Close.
-/
import Derived.Test.YtagdenhcbafblaaD
import Derived.Test.YtagdenhcbafblaaC
namespace Go.Proofs.Ytagdenhcbafblaa
open Go.RowKit
set_option linter.unusedVariables false
set_option linter.unusedSimpArgs false

/-- Either way out of Grant. -/
theorem Grant_any (p : Nat) (l g n : Int) (s : Bool) (w : World) (h : Wi w p l g s) (hn : 0 ≤ n) : Calls Try.prog 9 #[.pointer (some ⟨p, 0, none⟩), .int .u64 n] w fun e w' => e = .returned (.tuple #[.int .u64 (granted l n s), .int .i64 0]) ∧ Wi w' p (granted l n s) g s ∧ Mod (fun q => q = p) w w' := by
  cases s with
  | true =>
    refine (Grant_shut p l g n w h).mono fun e w' q => ?_
    obtain ⟨rfl, rfl⟩ := q
    exact ⟨by simp [granted], by simpa [granted] using h, Mod.refl _ _⟩
  | false => exact Grant_open p l g n w h hn

theorem three {w : World} {b : Nat} {a0 a1 a2 : Value} {t : TypeId} (h : w.heap[b]? = some (.cells #[a0, a1, a2] t (0, 0))) :
    w.cell? ⟨b, 0, none⟩ = some a0 ∧ w.cell? ⟨b, 1, none⟩ = some a1 ∧ w.cell? ⟨b, 2, none⟩ = some a2 ∧
    w.frozen? ⟨b, 0, none⟩ = false ∧ w.frozen? ⟨b, 1, none⟩ = false ∧ w.frozen? ⟨b, 2, none⟩ = false :=
  ⟨cell_blk h 0 _ rfl, cell_blk h 1 _ rfl, cell_blk h 2 _ rfl, frozen_blk h 0, frozen_blk h 1, frozen_blk h 2⟩

set_option maxHeartbeats 1600000 in
set_option maxRecDepth 100000 in
theorem refGrant (l g n : Int) (s : Bool) (w : World) (h0 : 0 ≤ l) (h1 : l ≤ 1099511627776) (hn : 0 ≤ n) :
    Calls Try.prog 32 #[.agg #[.int .u64 l, .int .u64 g, .bool s], .int .u64 n] w fun e w' => e = .returned (.agg #[.int .u64 (granted l n s), .int .u64 g, .bool s]) ∧ Below w.heap.size w w' := by
  cases s with
  | true =>
    go_enter Try.func32, Try.ntmps32
    go_wp2
    refine bodyPost_ret (v := .agg #[.int .u64 l, .int .u64 g, .bool true]) (by simp [results, Try.results32, go_sem]) rfl ⟨by simp [granted], ?_⟩
    exact ((Below.refl _ _).alloc (Nat.le_refl _) _).alloc (by simp) _
  | false =>
    obtain ⟨x, hx⟩ : ∃ x, x = granted l n false := ⟨_, rfl⟩
    obtain ⟨m, hm⟩ : ∃ m, m = 1099511627776 - l := ⟨_, rfl⟩
    have hm' : 1099511627776 - l = m := hm.symm
    have key : (m < n ∧ x = 1099511627776) ∨ (n ≤ m ∧ x = l + n) := by rw [hx]; unfold granted; simp; omega
    rw [← hx]
    have hm0 : 0 ≤ m := by omega
    have hm1 : m ≤ 1099511627776 := by omega
    clear hx hm
    rcases key with ⟨a, rfl⟩ | ⟨a, hxx⟩
    · have d1 : decide (m < n) = true := by simpa using a
      go_enter Try.func32, Try.ntmps32
      go_wp2
      refine bodyPost_ret (v := .agg #[.int .u64 1099511627776, .int .u64 g, .bool false]) (by simp [results, Try.results32, go_sem]) rfl ⟨rfl, ?_⟩
      exact ((Below.refl _ _).alloc (Nat.le_refl _) _).alloc (by simp) _
    · have d1 : decide (m < n) = false := by simpa using a
      have hadd : l + n = x := hxx.symm
      have hx0 : 0 ≤ x := by omega
      have hx1 : x ≤ 1099511627776 := by omega
      clear hxx
      go_enter Try.func32, Try.ntmps32
      go_wp2
      refine bodyPost_ret (v := .agg #[.int .u64 x, .int .u64 g, .bool false]) (by simp [results, Try.results32, go_sem]) rfl ⟨rfl, ?_⟩
      exact ((Below.refl _ _).alloc (Nat.le_refl _) _).alloc (by simp) _

set_option maxHeartbeats 1600000 in
set_option maxRecDepth 100000 in
theorem refTakeBad (l g n : Int) (s : Bool) (w : World) (hn : n < 0) :
    Calls Try.prog 33 #[.agg #[.int .u64 l, .int .u64 g, .bool s], .int .i64 n] w fun e w' => e = .returned (.tuple #[.agg #[.int .u64 l, .int .u64 g, .bool s], .int .i64 0, .int .i64 2]) ∧ Below w.heap.size w w' := by
  have d1 : decide (n < 0) = true := by simpa using hn
  go_enter Try.func33, Try.ntmps33
  go_wp2
  refine bodyPost_ret (v := .tuple #[.agg #[.int .u64 l, .int .u64 g, .bool s], .int .i64 0, .int .i64 2]) (by simp [results, Try.results33, go_sem]) rfl ⟨rfl, ?_⟩
  exact ((Below.refl _ _).alloc (Nat.le_refl _) _).alloc (by simp) _

set_option maxHeartbeats 3200000 in
set_option maxRecDepth 100000 in
theorem refTake (l g n : Int) (s : Bool) (w : World) (h0 : 0 ≤ l) (h1 : l ≤ 1099511627776) (g0 : 0 ≤ g) (g1 : g ≤ 18446744073709551615) (hn : 0 ≤ n) (hn2 : n ≤ 9223372036854775807) :
    Calls Try.prog 33 #[.agg #[.int .u64 l, .int .u64 g, .bool s], .int .i64 n] w fun e w' => e = .returned (.tuple #[.agg #[.int .u64 (l - min n l), .int .u64 (min (g + min n l) 18446744073709551615), .bool s], .int .i64 (min n l), .int .i64 0]) ∧ Below w.heap.size w w' := by
  obtain ⟨k, hk⟩ : ∃ k, k = min n l := ⟨_, rfl⟩
  obtain ⟨x, hx⟩ : ∃ x, x = l - min n l := ⟨_, rfl⟩
  obtain ⟨y, hy⟩ : ∃ y, y = min (g + min n l) 18446744073709551615 := ⟨_, rfl⟩
  obtain ⟨m, hm⟩ : ∃ m, m = 18446744073709551615 - g := ⟨_, rfl⟩
  rw [← hx, ← hy, ← hk]
  have hxk : l - k = x := by omega
  have hmk : 18446744073709551615 - g = m := hm.symm
  have x0 : 0 ≤ x ∧ x ≤ 1099511627776 := by omega
  have k0 : 0 ≤ k ∧ k ≤ 1099511627776 := by omega
  have m0 : 0 ≤ m ∧ m ≤ 18446744073709551615 := by omega
  have key : (n < l ∧ k = n) ∨ (l < n ∧ k = l) ∨ (n = l ∧ k = l) := by omega
  have key2 : (m < k ∧ y = 18446744073709551615) ∨ (k ≤ m ∧ g + k = y ∧ 0 ≤ y ∧ y ≤ 18446744073709551615) := by omega
  have dn : decide (n < 0) = false := by simp; omega
  clear hk hx hy hm
  rcases key2 with ⟨a2, rfl⟩ | ⟨a2, hyk, y0, y1⟩
  · have d1 : decide (m < k) = true := by simpa using a2
    rcases key with ⟨a, rfl⟩ | ⟨a, rfl⟩ | ⟨rfl, rfl⟩
    all_goals
      go_enter Try.func33, Try.ntmps33
      go_wp2
      refine bodyPost_ret (by simp [results, Try.results33, go_sem]) rfl ⟨rfl, ?_⟩
      exact ((Below.refl _ _).alloc (Nat.le_refl _) _).alloc (by simp) _
  · have d1 : decide (m < k) = false := by simpa using a2
    rcases key with ⟨a, rfl⟩ | ⟨a, rfl⟩ | ⟨rfl, rfl⟩
    all_goals
      go_enter Try.func33, Try.ntmps33
      go_wp2
      refine bodyPost_ret (by simp [results, Try.results33, go_sem]) rfl ⟨rfl, ?_⟩
      exact ((Below.refl _ _).alloc (Nat.le_refl _) _).alloc (by simp) _

set_option maxHeartbeats 1600000 in
theorem refClose (l g : Int) (s : Bool) (w : World) :
    Calls Try.prog 34 #[.agg #[.int .u64 l, .int .u64 g, .bool s]] w fun e w' => e = .returned (.agg #[.int .u64 0, .int .u64 g, .bool true]) ∧ Below w.heap.size w w' := by
  go_enter Try.func34, Try.ntmps34
  go_wp2
  refine bodyPost_ret (v := .agg #[.int .u64 0, .int .u64 g, .bool true]) (by simp [results, Try.results34, go_sem]) rfl ⟨rfl, ?_⟩
  exact ((Below.refl _ _).alloc (Nat.le_refl _) _).alloc (by simp) _
end Go.Proofs.Ytagdenhcbafblaa
