/-
  A splitter: ends, none, Contains of the two ends.
-/
import Derived.Test.YtfkfooclapogjaaSn
namespace Go.Proofs.Ytfkfooclapogjaa
open Go.RowKit
set_option linter.unusedVariables false
set_option linter.unusedSimpArgs false

theorem ends_any (w : World) : Calls Try.prog 42 #[] w fun e w' => e = .returned (.agg #[.int .u8 13, .int .u8 10]) ∧ Below w.heap.size w w' := by
  go_enter Try.func42, Try.ntmps42
  go_wp2
  refine bodyPost_ret (v := .agg #[.int .u8 13, .int .u8 10]) (by simp [results, Try.results42, go_sem, *]) rfl ⟨rfl, ?_⟩
  exact (Below.refl _ w).alloc (Nat.le_refl _) _

/-- A splitter in memory. -/
structure SpAt (w : World) (p D : Nat) (most : Int) (a : Option Addr) (n c : Nat) (begun cr : Bool) : Prop where
  blk : w.heap[p]? = some (.cells #[.pointer (some ⟨D, 0, none⟩), .int .i64 most, .slice a n c, .bool begun, .bool cr] 60 (0, 0))
theorem none_s (p : Nat) (m : Int) (w : World) (hm : m ≠ 0) (h : w.cell? ⟨p, 1, none⟩ = some (.int .i64 m)) : Calls Try.prog 23 #[.pointer (some ⟨p, 0, none⟩)] w fun e w' => e = .returned (.bool false) ∧ w = w' := by
  have h1 : (m == 0) = false := by simpa using hm
  go_enter Try.func23, Try.ntmps23
  go_wp2
  go_ret
  exact ⟨rfl, rfl⟩
theorem none_szero (p : Nat) (w : World) (h : w.cell? ⟨p, 1, none⟩ = some (.int .i64 0)) : Calls Try.prog 23 #[.pointer (some ⟨p, 0, none⟩)] w fun e w' => e = .returned (.bool true) ∧ w = w' := by
  go_enter Try.func23, Try.ntmps23
  go_wp2
  go_ret
  exact ⟨rfl, rfl⟩
theorem none_snil (w : World) : Calls Try.prog 23 #[.pointer none] w fun e w' => e = .returned (.bool true) ∧ w = w' := by
  go_enter Try.func23, Try.ntmps23
  go_wp2
  go_ret
  exact ⟨rfl, rfl⟩
theorem index_ends (b c : Nat) (x : Int) (w : World) (h0 : w.cell? ⟨b, 0, none⟩ = some (.int .u8 13)) (h1 : w.cell? ⟨b, 1, none⟩ = some (.int .u8 10)) (hb : b < w.heap.size) :
    Calls Try.prog 54 #[.slice (some ⟨b, 0, none⟩) 2 c, .int .u8 x] w fun e w' => ∃ y : Int, e = .returned (.int .i64 y) ∧ (0 ≤ y ↔ x = 13 ∨ x = 10) ∧ w = w' := by
  go_enter Try.func54, Try.ntmps54
  go_wp2
  go_loopg [8] 2 (fun gk v8 wr => ∃ i : Nat, v8 = .int .i64 i ∧ i ≤ 2 ∧ gk = 2 - i ∧ wr = w ∧ (0 < i → x ≠ 13) ∧ (1 < i → x ≠ 10))
  case atStart => exact ⟨0, rfl, by omega, rfl, rfl, fun h => by omega, fun h => by omega⟩
  case round =>
    obtain ⟨i, rfl, hi, hgk, hwr, n0, n1⟩ := hrel
    subst hwr
    have HG := Lib.hid hgk
    have HN := Lib.hid (And.intro n0 n1)
    clear hgk n0 n1
    rcases Nat.lt_or_ge i 1 with h | h
    · obtain rfl : i = 0 := by omega
      by_cases hx : x = 13
      · subst hx
        go_wp2
        go_ret
        exact ⟨0, rfl, by simp, rfl⟩
      · have d1 : (x == 13) = false := by simpa using hx
        go_wp2
        go_roundg 1
        case measure => have := HG.out; omega
        case rel => exact ⟨1, rfl, by omega, rfl, rfl, fun _ => hx, fun h => by omega⟩
    · rcases Nat.lt_or_ge i 2 with h' | h'
      · obtain rfl : i = 1 := by omega
        by_cases hx : x = 10
        · subst hx
          go_wp2
          go_ret
          exact ⟨1, rfl, by simp, rfl⟩
        · have d1 : (x == 10) = false := by simpa using hx
          go_wp2
          go_roundg 0
          case measure => have := HG.out; omega
          case rel => exact ⟨2, rfl, by omega, rfl, rfl, fun _ => HN.out.1 (by omega), fun _ => hx⟩
      · obtain rfl : i = 2 := by omega
        go_wp2
        go_ret
        exact ⟨-1, rfl, ⟨fun h => by omega, fun h => by rcases h with h | h; exact absurd h (HN.out.1 (by omega)); exact absurd h (HN.out.2 (by omega))⟩, rfl⟩
theorem contains_ends (b c : Nat) (x : Int) (w : World) (h0 : w.cell? ⟨b, 0, none⟩ = some (.int .u8 13)) (h1 : w.cell? ⟨b, 1, none⟩ = some (.int .u8 10)) (hb : b < w.heap.size) (r : Bool) (hr : r = true ↔ x = 13 ∨ x = 10) :
    Calls Try.prog 46 #[.slice (some ⟨b, 0, none⟩) 2 c, .int .u8 x] w fun e w' => e = .returned (.bool r) ∧ w = w' := by
  have HI := Lib.hid (index_ends b c x w h0 h1 hb)
  have HR := Lib.hid hr
  clear hr
  go_enter Try.func46, Try.ntmps46
  go_wp2_with (go_at_call 54; fail)
  refine HI.out.mono ?_
  rintro e w' ⟨y, rfl, hy, rfl⟩
  have hd : decide (0 ≤ y) = r := by
    rw [← HR.out] at hy
    cases r <;> simp at hy ⊢ <;> omega
  clear hy HI HR
  go_wp2
  go_ret
  exact ⟨rfl, rfl⟩
end Go.Proofs.Ytfkfooclapogjaa
