/-
  Small functions of the law; timers beside boxes.
-/
import Derived.Test.YtnmbhcekcdicnaaVc
namespace Go.Proofs.Ytnmbhcekcdicnaa
open Go.RowKit
set_option linter.unusedVariables false
set_option linter.unusedSimpArgs false

theorem num13 (x : Int) (w : World) : Calls Try.prog 13 #[.int .i64 x] w fun e w' => e = .returned (.int .i64 x) ∧ w = w' := by
  go_enter Try.func13, Try.ntmps13
  go_wp2
  go_ret
  exact ⟨rfl, rfl⟩
theorem of24 (k i : Int) (w : World) : Calls Try.prog 24 #[.int .i64 k, .int .u64 i] w fun e w' => e = .returned (tmV k i) ∧ Below w.heap.size w w' := by
  go_enter Try.func24, Try.ntmps24
  go_wp2
  have hk := alloc_blk_new w (.cells #[.int .i64 k, .int .u64 i] 26)
  have g0 := cell_blk hk 0 (.int .i64 k) rfl
  have g1 := cell_blk hk 1 (.int .u64 i) rfl
  refine bodyPost_ret (v := tmV k i) (by simp [results, Try.f24, go_sem, g0, g1, tmV]) rfl ⟨rfl, ?_⟩
  exact (Below.refl _ w).alloc (Nat.le_refl _) _
theorem refKind25 (k : Int) (w : World) : Calls Try.prog 25 #[.int .i64 k] w fun e w' => e = .returned (.bool (isKind k)) ∧ w = w' := by
  by_cases h1 : 1 ≤ k
  · have d1 : decide (1 ≤ k) = true := by simpa using h1
    obtain ⟨b, hb⟩ : ∃ b, b = decide (k ≤ 4) := ⟨_, rfl⟩
    have e : isKind k = b := by unfold isKind; rw [d1, hb]; rfl
    have hb' := hb.symm
    rw [e]
    clear e hb h1
    go_enter Try.func25, Try.ntmps25
    go_wp2
    go_ret
    exact ⟨rfl, rfl⟩
  · have d1 : decide (1 ≤ k) = false := by simpa using h1
    have e : isKind k = false := by unfold isKind; rw [d1]; rfl
    rw [e]
    clear e h1
    go_enter Try.func25, Try.ntmps25
    go_wp2
    go_ret
    exact ⟨rfl, rfl⟩
/-- Two timers are one. -/
def tmEq (a b c d : Int) : Bool := decide (a = c ∧ b = d)
theorem eql26 (a b c d : Int) (w : World) : (binOp .eql 26 (.agg #[.int .i64 a, .int .u64 b]) (.agg #[.int .i64 c, .int .u64 d])).run Try.prog w = .ok (.bool (tmEq a b c d)) w := by
  unfold tmEq
  go_simp
  by_cases h1 : a = c <;> by_cases h2 : b = d <;> simp [h1, h2]
theorem neq26 (a b c d : Int) (w : World) : (binOp .neq 26 (.agg #[.int .i64 a, .int .u64 b]) (.agg #[.int .i64 c, .int .u64 d])).run Try.prog w = .ok (.bool (!(tmEq a b c d))) w := by
  unfold tmEq
  go_simp
  by_cases h1 : a = c <;> by_cases h2 : b = d <;> simp [h1, h2]
/-- Timers made behind w0, and boxes that hold timers. -/
structure TB (w0 : World) (p : Nat) (most : Int) (l : List Rw) (B : List (Nat × Int × Int)) (W : World) : Prop where
  ex : ∃ K, TS K p most l W ∧ (∀ k, K k → w0.heap.size ≤ k) ∧ ∀ x ∈ B, W.heap[x.1]? = some (.cells #[.int .i64 x.2.1, .int .u64 x.2.2] 26 (0, 0)) ∧ ¬ K x.1
  bel : Below w0.heap.size w0 W
section
variable {w0 W W' : World} {p : Nat} {most : Int} {l l' : List Rw} {B : List (Nat × Int × Int)}
theorem TB.below (h : TB w0 p most l B W) (hb : Below W.heap.size W W') : TB w0 p most l B W' := by
  obtain ⟨K, h1, h2, h3⟩ := h.ex
  exact ⟨⟨K, h1.below hb, h2, fun x hx => ⟨(hb.block _ (blk_lt (h3 x hx).1)).trans (h3 x hx).1, (h3 x hx).2⟩⟩, h.bel.trans (hb.mono h.bel.size)⟩
theorem TB.box (h : TB w0 p most l B W) (a b : Int) : TB w0 p most l ((W.heap.size, a, b) :: B) (W.alloc (.cells #[.int .i64 a, .int .u64 b] 26)) := by
  obtain ⟨K, h1, h2, h3⟩ := h.ex
  have hb : Below W.heap.size W (W.alloc (.cells #[.int .i64 a, .int .u64 b] 26)) := (Below.refl _ W).alloc (Nat.le_refl _) _
  refine ⟨⟨fun q => K q ∧ q < W.heap.size, h1.old.below hb, fun k e => h2 k e.1, fun x hx => ?_⟩, h.bel.trans (hb.mono h.bel.size)⟩
  rcases List.mem_cons.1 hx with e | e
  · subst e
    exact ⟨alloc_blk_new _ _, fun e => Nat.lt_irrefl _ e.2⟩
  · exact ⟨(hb.block _ (blk_lt (h3 x e).1)).trans (h3 x e).1, fun e' => (h3 x e).2 e'.1⟩
theorem TB.at (h : TB w0 p most l B W) {x : Nat × Int × Int} (hx : x ∈ B) : W.heap[x.1]? = some (.cells #[.int .i64 x.2.1, .int .u64 x.2.2] 26 (0, 0)) := by
  obtain ⟨K, h1, h2, h3⟩ := h.ex
  exact (h3 x hx).1
theorem TB.drop (h : TB w0 p most l B W) {B' : List (Nat × Int × Int)} (hs : ∀ x ∈ B', x ∈ B) : TB w0 p most l B' W := by
  obtain ⟨K, h1, h2, h3⟩ := h.ex
  exact ⟨⟨K, h1, h2, fun x hx => h3 x (hs x hx)⟩, h.bel⟩
/-- A call that turns them. -/
theorem TB.turn (h : TB w0 p most l B W) {f : FuncId} {args : Array Value} {r : Value} (hc : ∀ K, TS K p most l W → Calls Try.prog f args W fun e w' => e = .returned r ∧ Turned K p most l' W w') :
    Calls Try.prog f args W fun e w' => e = .returned r ∧ TB w0 p most l' B w' := by
  obtain ⟨K, h1, h2, h3⟩ := h.ex
  refine (hc K h1).mono ?_
  rintro e w' ⟨rfl, hT⟩
  have hz := h.bel.size
  refine ⟨rfl, ⟨⟨_, hT.st, fun k e => ?_, fun x hx => ?_⟩, ?_⟩⟩
  · rcases e with e | e
    · exact h2 k e
    · omega
  · obtain ⟨g1, g2⟩ := h3 x hx
    refine ⟨(hT.mod.block _ (blk_lt g1) g2).trans g1, fun e => ?_⟩
    rcases e with e | e
    · exact g2 e
    · have := blk_lt g1
      omega
  · exact h.bel.trans ⟨hT.mod.os, hT.mod.tape, hT.mod.output, hT.mod.size, fun k hk => hT.mod.block k (Nat.lt_of_lt_of_le hk hz) (fun e => by have := h2 k e; omega)⟩
/-- A call that reads them. -/
theorem TB.read (h : TB w0 p most l B W) {f : FuncId} {args : Array Value} {r : Value} (hc : ∀ K, TS K p most l W → Calls Try.prog f args W fun e w' => e = .returned r ∧ Below W.heap.size W w') :
    Calls Try.prog f args W fun e w' => e = .returned r ∧ TB w0 p most l B w' := by
  obtain ⟨K, h1, h2, h3⟩ := h.ex
  refine (hc K h1).mono ?_
  rintro e w' ⟨rfl, hb⟩
  exact ⟨rfl, h.below hb⟩
theorem TB.srt (h : TB w0 p most l B W) : Srt l := by
  obtain ⟨K, h1, h2, h3⟩ := h.ex
  exact h1.srt
theorem TB.le (h : TB w0 p most l B W) : (l.length : Int) ≤ most := by
  obtain ⟨K, h1, h2, h3⟩ := h.ex
  exact h1.le
theorem TB.new (w : World) (most : Int) (h0 : 1 ≤ most) (h1 : most ≤ 8192) : Calls Try.prog 9 #[.int .i64 most] w fun e w' => ∃ p, e = .returned (.tuple #[.pointer (some ⟨p, 0, none⟩), .int .i64 0]) ∧ TB w p most [] [] w' := by
  refine (new9 most w h0 h1).mono ?_
  rintro e w' ⟨p, mb, rfl, h, hb⟩
  exact ⟨p, rfl, ⟨⟨_, ⟨_, _, _, _, h⟩, fun k e => e.1, fun x hx => by cases hx⟩, hb⟩⟩
end
end Go.Proofs.Ytnmbhcekcdicnaa
