/-
  The document's queue: New, Len.
-/
import Derived.Test.YtneeagabmdpjgaaOj
namespace Go.Proofs.Ytneeagabmdpjgaa
open Go.RowKit
set_option linter.unusedVariables false
set_option linter.unusedSimpArgs false

/-- Texts that may be read, in a block of which T is told. -/
def StrR (T : Nat → Prop) (w : World) (ao : Option Addr) (n : Nat) (ss : List ByteArray) : Prop :=
  ss.length = n ∧ (0 < n → ∃ b off, ao = some ⟨b, off, none⟩ ∧ b < w.heap.size ∧ T b ∧ ∀ j, j < n → w.cell? ⟨b, off + j, none⟩ = some (.string (ss.getD j ⟨#[]⟩)))
theorem StrR.mod {T S : Nat → Prop} {w w' : World} {ao : Option Addr} {n : Nat} {ss : List ByteArray} (h : StrR T w ao n ss) (hm : Mod S w w') (ht : ∀ k, T k → ¬ S k) : StrR T w' ao n ss :=
  ⟨h.1, fun hp => by
    obtain ⟨b, off, e, hb, hT, hc⟩ := h.2 hp
    exact ⟨b, off, e, Nat.lt_of_lt_of_le hb hm.size, hT, fun j hj => (hm.cell (p := ⟨b, off + j, none⟩) hb (ht b hT)).trans (hc j hj)⟩⟩
theorem StrR.mono {T U : Nat → Prop} {w : World} {ao : Option Addr} {n : Nat} {ss : List ByteArray} (h : StrR T w ao n ss) (hu : ∀ k, k < w.heap.size → T k → U k) : StrR U w ao n ss :=
  ⟨h.1, fun hp => by
    obtain ⟨b, off, e, hb, hT, hc⟩ := h.2 hp
    exact ⟨b, off, e, hb, hu b hb hT, hc⟩⟩
theorem StrR.below {T : Nat → Prop} {w w' : World} {ao : Option Addr} {n : Nat} {ss : List ByteArray} (h : StrR T w ao n ss) (hb : Below w.heap.size w w') : StrR T w' ao n ss :=
  h.mod (Mod.of_below hb (fun _ => False)) (fun _ _ h => h)
theorem StrR.drewN {T : Nat → Prop} {w : World} {ao : Option Addr} {n : Nat} {ss : List ByteArray} (h : StrR T w ao n ss) (k : Nat) : StrR T (w.drewN k) ao n ss := ⟨h.1, h.2⟩
/-- How many bytes they have. -/
def totS : List ByteArray → Nat
  | [] => 0
  | s :: l => s.size + totS l
theorem totS_append (a b : List ByteArray) : totS (a ++ b) = totS a + totS b := by
  induction a with
  | nil => simp [totS]
  | cons x a ih => simp only [List.cons_append, totS, ih]; omega
theorem totS_take (ss : List ByteArray) (i : Nat) (h : i < ss.length) : totS (ss.take (i + 1)) = totS (ss.take i) + (ss.getD i ⟨#[]⟩).size := by
  rw [List.take_succ_eq_append_getElem h, totS_append]
  simp [totS, List.getD, h]
theorem totS_le (ss : List ByteArray) (i : Nat) : totS (ss.take i) ≤ totS ss := by
  have := congrArg totS (List.take_append_drop i ss)
  rw [totS_append] at this
  omega

set_option maxHeartbeats 1600000 in
theorem refLen_any {T : Nat → Prop} (a : Option Addr) (n c g : Nat) (m : Int) (ss : List ByteArray) (w : World) (h : StrR T w a n ss) (hn : n ≤ 2000000) (ht : totS ss ≤ 1000000000) (hg : g ≤ totS ss) :
    Calls Try.prog 44 #[.agg #[.slice a n c, .int .i64 g, .int .i64 m]] w fun e w' => e = .returned (.int .i64 ((totS ss : Int) - g)) ∧ Below w.heap.size w w' := by
  obtain ⟨w1, hw1⟩ : ∃ W, W = w.alloc (.cells #[.slice a n c, .int .i64 g, .int .i64 m] 43) := ⟨_, rfl⟩
  obtain ⟨X, hX⟩ : ∃ X, X = w.heap.size := ⟨_, rfl⟩
  have hb1 : Below w.heap.size w w1 := by rw [hw1]; exact (Below.refl _ w).alloc (Nat.le_refl _) _
  have k1 : w1.heap[X]? = some (.cells #[.slice a n c, .int .i64 g, .int .i64 m] 43 (0, 0)) := by rw [hw1, hX]; exact alloc_blk_new _ _
  have HH := Lib.hid (h.below hb1)
  have HL := Lib.hid h.1
  have HB := Lib.hid hb1
  have E1 := Lib.hid hw1
  have EX := Lib.hid hX
  have c0 := cell_blk k1 0 _ rfl
  have c1 := cell_blk k1 1 _ rfl
  have lX := blk_lt k1
  clear h hw1 hX hb1 k1
  go_enter Try.func44, Try.ntmps44
  go_upto_region 3 with fail
  rw [← E1.out, ← EX.out]
  go_wp2_with fail
  go_loopg [3, 4] n (fun gk v3 v4 wr => ∃ i : Nat, v3 = .int .i64 (totS (ss.take i)) ∧ v4 = .int .i64 i ∧ i ≤ n ∧ gk = n - i ∧ wr = w1)
  case atStart => exact ⟨0, by simp [totS], rfl, by omega, rfl, rfl⟩
  case round =>
    obtain ⟨i, rfl, rfl, hi, hgk, hwr⟩ := hrel
    subst hwr
    have HG := Lib.hid hgk
    obtain ⟨S, hS⟩ : ∃ S, S = totS (ss.take i) := ⟨_, rfl⟩
    have hSl := totS_le ss i
    rw [← hS] at hSl ⊢
    clear hgk
    by_cases hlt : i < n
    · obtain ⟨b, off, rfl, hb, _, hc⟩ := HH.out.2 (by omega)
      obtain ⟨s, hs⟩ : ∃ s, s = ss.getD i ⟨#[]⟩ := ⟨_, rfl⟩
      have y1 := hc i hlt
      rw [← hs] at y1
      have hst := totS_take ss i (by have := HL.out; omega)
      rw [← hs, ← hS] at hst
      have hSl2 := totS_le ss (i + 1)
      rw [hst] at hSl2
      have HST := Lib.hid hst
      clear hc hs hst hS
      go_wp2_with fail
      go_roundg (n - (i + 1))
      case measure => have := HG.out; omega
      case rel => exact ⟨i + 1, by rw [HST.out]; simp, by go_num, by omega, rfl, rfl⟩
    · obtain rfl : i = n := by omega
      have htk : S = totS ss := by rw [hS, List.take_of_length_le (by have := HL.out; omega)]
      clear hS
      go_wp2
      go_ret
      exact ⟨rfl, HB.out⟩

theorem refNew_bad (m : Int) (w : World) (h : m < 0 ∨ 1048576 < m) : Calls Try.prog 18 #[.int .i64 m] w fun e w' => e = .returned (.tuple #[.agg #[.slice none 0 0, .int .i64 0, .int .i64 0], .int .i64 2]) ∧ Below w.heap.size w w' := by
  rcases h with h | h
  · have t1 : decide (m < 0) = true := by simpa using h
    go_enter Try.func18, Try.ntmps18
    go_wp2
    refine bodyPost_ret (v := .tuple #[.agg #[.slice none 0 0, .int .i64 0, .int .i64 0], .int .i64 2]) (by simp [results, Try.results18, go_sem, *]) rfl ⟨rfl, ?_⟩
    exact (Below.refl _ w).alloc (Nat.le_refl _) _
  · have t1 : decide (m < 0) = false := by simp; omega
    have t2 : decide (1048576 < m) = true := by simpa using h
    go_enter Try.func18, Try.ntmps18
    go_wp2
    refine bodyPost_ret (v := .tuple #[.agg #[.slice none 0 0, .int .i64 0, .int .i64 0], .int .i64 2]) (by simp [results, Try.results18, go_sem, *]) rfl ⟨rfl, ?_⟩
    exact (Below.refl _ w).alloc (Nat.le_refl _) _
theorem refNew_any (m : Int) (w : World) (h0 : 0 ≤ m) (h1 : m ≤ 1048576) : Calls Try.prog 18 #[.int .i64 m] w fun e w' => e = .returned (.tuple #[.agg #[.slice none 0 0, .int .i64 0, .int .i64 m], .int .i64 0]) ∧ Below w.heap.size w w' := by
  have t1 : decide (m < 0) = false := by simp; omega
  have t2 : decide (1048576 < m) = false := by simp; omega
  go_enter Try.func18, Try.ntmps18
  go_wp2
  refine bodyPost_ret (v := .tuple #[.agg #[.slice none 0 0, .int .i64 0, .int .i64 m], .int .i64 0]) (by simp [results, Try.results18, go_sem, *]) rfl ⟨rfl, ?_⟩
  exact (Below.refl _ w).alloc (Nat.le_refl _) _
end Go.Proofs.Ytneeagabmdpjgaa
