/-
  FieldEach: where its boxes lie, and what a round of its loops knows.
-/
import Derived.Test.YtfnojmkiajdoaaaSc
import Derived.Deep.CutBlock
namespace Go.Proofs.Ytfnojmkiajdoaaa
open Go.RowKit Go.Shelf
set_option linter.unusedVariables false
set_option linter.unusedSimpArgs false

theorem run_eql_func43 (f : Fn) (x y : Array Value) (w : World) : (binOp .eql 43 (.func f x y) .nilFunc).run Try.prog w = .ok (.bool false) w := by
  have h : ∀ d : Nat, (Op.equalIn (d + 1) 43 (.func f x y) .nilFunc).run Try.prog w = .ok false w := fun d => by
    simp [Op.equalIn, run_underlying Try.underlying43]
  simp only [binOp]
  simp [Op.equal, Op.maxDepth, h 9999]
/-- The law says yes, and keeps to new memory. -/
def Yes (w : World) (e : Ending) (w' : World) : Prop := e = .returned (.bool true) ∧ Below w.heap.size w w'

theorem range_cut {P : Program} {c : Code} {K : Act → World → Prop} {Q' : Exit → Act → World → Prop} {a : Act} {w : World} (R : Nat → World → Prop)
    (first : c.wp P (fun e a' W => e = .normal ∧ ∃ D, a' = { a with defers := { target := .collected D, args := #[] } :: a.defers } ∧ R D W) a w)
    (rest : ∀ D W, R D W → K { a with defers := { target := .collected D, args := #[] } :: a.defers } W) : c.wp P (Exit.then K Q') a w :=
  wp_mono first (fun e a' W h => by obtain ⟨rfl, D, rfl, hr⟩ := h; exact rest D W hr)
theorem prefix_more {α : Type} (T l : List α) (x : α) (h : l <+: T) : (l ++ [x] <+: T) ↔ T[l.length]? = some x := by
  obtain ⟨r, rfl⟩ := h
  rw [List.prefix_append_right_inj]
  cases r with
  | nil => simp
  | cons y ys => simp [List.cons_prefix_cons, eq_comm]
/-- Between two rounds: what came is a beginning of the whole; so many are counted. -/
def Rnd {α : Type} (T : List α) (many : Int) (nb : Nat) (wn : World) (pre : List α) (W : World) : Prop :=
  (pre <+: T ∧ (pre.length = 0 ∨ (pre.length : Int) < many)) ∧ (W.cell? ⟨nb, 0, none⟩ = some (.int .i64 pre.length) ∧ W.frozen? ⟨nb, 0, none⟩ = false) ∧ Below nb wn W
/-- Behind a jump: what came was no beginning of the whole, or enough came. -/
def Rxt {α : Type} (T : List α) (many : Int) (nb : Nat) (wn : World) (x : Nat) (c : Code) (pre : List α) (W : World) : Prop :=
  (c = .ret ∧ ¬ pre <+: T) ∨ (c = .exit x ∧ (pre <+: T ∧ many ≤ (pre.length : Int) ∧ (pre.length = 1 ∨ (pre.length : Int) - 1 < many) ∧ 1 ≤ pre.length) ∧ (W.cell? ⟨nb, 0, none⟩ = some (.int .i64 pre.length) ∧ W.frozen? ⟨nb, 0, none⟩ = false) ∧ Below nb wn W)
section
variable {α : Type} {T : List α} {many : Int} {nb x B : Nat} {wn : World}
theorem Rnd.ahead (h : nb < B) : Ahead B (Rnd T many nb wn) := fun s U V hs hb =>
  ⟨hs.1, ⟨(hb.cell (p := ⟨nb, 0, none⟩) h).trans hs.2.1.1, (hb.frozen (p := ⟨nb, 0, none⟩) h).trans hs.2.1.2⟩, hs.2.2.trans (hb.mono (by omega))⟩
theorem Rxt.ahead (h : nb < B) (c : Code) : Ahead B (Rxt T many nb wn x c) := fun s U V hs hb => by
  rcases hs with g | g
  · exact .inl g
  · exact .inr ⟨g.1, g.2.1, ⟨(hb.cell (p := ⟨nb, 0, none⟩) h).trans g.2.2.1.1, (hb.frozen (p := ⟨nb, 0, none⟩) h).trans g.2.2.1.2⟩, g.2.2.2.trans (hb.mono (by omega))⟩
theorem Rnd.start (hc : wn.cell? ⟨nb, 0, none⟩ = some (.int .i64 0)) (hf : wn.frozen? ⟨nb, 0, none⟩ = false) : Rnd T many nb wn [] wn :=
  ⟨⟨List.nil_prefix, .inl rfl⟩, ⟨hc, hf⟩, Below.refl _ _⟩
theorem Rnd.more {pre : List α} {y : α} {W : World} (hp : pre ++ [y] <+: T) {k : Int} (hk : k = (pre.length : Int) + 1) (hm : k < many) (hc : (W.cell? ⟨nb, 0, none⟩).isSome = true) (hf : W.frozen? ⟨nb, 0, none⟩ = false) (hB : Below nb wn W) :
    Rnd T many nb wn (pre ++ [y]) (W.setCell ⟨nb, 0, none⟩ (.int .i64 k)) := by
  subst hk
  refine ⟨⟨hp, .inr (by simpa using hm)⟩, ⟨?_, by rw [World.frozen?_setCell]; exact hf⟩, hB.setCell (p := ⟨nb, 0, none⟩) (Nat.le_refl _) _⟩
  rw [World.cell?_setCell_same' _ _ _ hc, List.length_append]
  rfl
theorem Rxt.more {pre : List α} {y : α} {W : World} (hp : pre ++ [y] <+: T) {k : Int} (hk : k = (pre.length : Int) + 1) (hm : many ≤ k) (h0 : pre.length = 0 ∨ (pre.length : Int) < many) (hc : (W.cell? ⟨nb, 0, none⟩).isSome = true) (hf : W.frozen? ⟨nb, 0, none⟩ = false) (hB : Below nb wn W) :
    Rxt T many nb wn x (.exit x) (pre ++ [y]) (W.setCell ⟨nb, 0, none⟩ (.int .i64 k)) := by
  subst hk
  refine .inr ⟨rfl, ⟨hp, by simpa using hm, ?_, by simp⟩, ⟨?_, by rw [World.frozen?_setCell]; exact hf⟩, hB.setCell (p := ⟨nb, 0, none⟩) (Nat.le_refl _) _⟩
  · rw [List.length_append, List.length_singleton]; omega
  · rw [World.cell?_setCell_same' _ _ _ hc, List.length_append]
    rfl
/-- How many came, when all came. -/
theorem Rnd.whole {W : World} (h : Rnd T many nb wn T W) : (∃ c : Nat, (c : Int) = min (T.length : Int) (max 1 many) ∧ W.cell? ⟨nb, 0, none⟩ = some (.int .i64 c)) ∧ Below nb wn W :=
  ⟨⟨T.length, by have := h.1.2; omega, h.2.1.1⟩, h.2.2⟩
theorem Rxt.part {pre : List α} {W : World} {c : Code} (h : Rxt T many nb wn x c pre W) (hp : pre <+: T) : c = .exit x ∧ (∃ c : Nat, (c : Int) = min (T.length : Int) (max 1 many) ∧ W.cell? ⟨nb, 0, none⟩ = some (.int .i64 c)) ∧ Below nb wn W := by
  rcases h with g | g
  · exact absurd hp g.2
  · have hl := hp.length_le
    have g2 := g.2.1
    exact ⟨g.1, ⟨pre.length, by omega, g.2.2.1.1⟩, g.2.2.2⟩
end
theorem fin_more (n : Nat) (l : List (Fin n)) (x : Fin n) (h : l <+: List.finRange n) : (l ++ [x] <+: List.finRange n) ↔ x.val = l.length := by
  rw [prefix_more _ _ _ h]
  have hx := x.isLt
  constructor
  · intro e
    have h1 := List.getElem?_eq_some_iff.1 e
    obtain ⟨h2, h3⟩ := h1
    rw [← h3]
    simp
  · intro e
    rw [← e]
    simp [hx]

theorem cnts_lt (l : List ByteArray) : ∀ i, ∀ x ∈ cnts l i, x < i
  | 0, x, h => by simp [cnts] at h
  | i + 1, x, h => by
    unfold cnts at h
    rw [List.mem_append] at h
    rcases h with h | h
    · exact Nat.lt_succ_of_lt (cnts_lt l i x h)
    · split at h
      · simp at h; omega
      · simp at h
theorem cnts_sorted (l : List ByteArray) : ∀ i, (cnts l i).Pairwise (· < ·)
  | 0 => by simp [cnts]
  | i + 1 => by
    unfold cnts
    rw [List.pairwise_append]
    refine ⟨cnts_sorted l i, ?_, fun x hx y hy => ?_⟩
    · split <;> simp
    · split at hy
      · simp at hy; rw [hy]; exact cnts_lt l i x hx
      · simp at hy
theorem cAt_lt (l : List ByteArray) (n : Nat) {x : Nat} (hx : x < (cnts l n).length) : cAt l n x < n := by
  have e : cAt l n x = (cnts l n)[x] := by unfold cAt; rw [List.getD_eq_getElem?_getD, List.getElem?_eq_getElem hx]; rfl
  rw [e]
  exact cnts_lt l n _ (List.getElem_mem hx)
theorem cAt_mono (l : List ByteArray) (n : Nat) {x y : Nat} (hy : y < (cnts l n).length) (h : x < y) : cAt l n x < cAt l n y := by
  have hx : x < (cnts l n).length := by omega
  have ex : cAt l n x = (cnts l n)[x] := by unfold cAt; rw [List.getD_eq_getElem?_getD, List.getElem?_eq_getElem hx]; rfl
  have ey : cAt l n y = (cnts l n)[y] := by unfold cAt; rw [List.getD_eq_getElem?_getD, List.getElem?_eq_getElem hy]; rfl
  rw [ex, ey]
  exact List.pairwise_iff_getElem.1 (cnts_sorted l n) x y hx hy h
theorem cAt_inj (l : List ByteArray) (n : Nat) {x y : Nat} (hx : x < (cnts l n).length) (hy : y < (cnts l n).length) (h : x ≠ y) : cAt l n x ≠ cAt l n y := by
  rcases Nat.lt_or_gt_of_ne h with g | g
  · have := cAt_mono l n hy g; omega
  · have := cAt_mono l n hx g; omega
/-- The numbers of the lines that count, in a block below n₀. -/
def NAhead (n₀ : Nat) (w : World) (ao : Option Addr) (N : Nat) (f : Nat → Nat) : Prop := 0 < N → ∃ b, ao = some ⟨b, 0, none⟩ ∧ b < n₀ ∧ ∀ j, j < N → w.cell? ⟨b, j, none⟩ = some (.int .i64 (f j : Int))
theorem NAhead.below {n₀ : Nat} {w w' : World} {ao : Option Addr} {N : Nat} {f : Nat → Nat} (h : NAhead n₀ w ao N f) (hb : Below n₀ w w') : NAhead n₀ w' ao N f := fun hp => by
  obtain ⟨b, e, hl, hc⟩ := h hp
  exact ⟨b, e, hl, fun j hj => (hb.cell (p := ⟨b, j, none⟩) hl).trans (hc j hj)⟩
/-- Where FieldEach's boxes lie: all below lim. -/
structure Ev (w : World) (many : Int) (L : List ByteArray) (ao : Option Addr) (n cap N : Nat) (la : Option Addr) (lc : Nat) (ea : Option Addr) (ec Eb lim : Nat) (W : World) : Prop where
  b0 : W.heap[w.heap.size]? = some (.cells #[.slice ao n cap] 40 (0, 0))
  b1 : W.heap[w.heap.size + 1]? = some (.cells #[.int .i64 many] 3 (0, 0))
  b2 : W.heap[w.heap.size + 2]? = some (.cells #[.bool false] 4 (0, 0))
  b5 : W.heap[w.heap.size + 3]? = some (.cells #[.slice la N lc] 41 (0, 0))
  be : W.heap[Eb]? = some (.cells #[.slice ea n ec] 40 (0, 0))
  lt : SAhead w.heap.size W ao n L
  ll : NAhead lim W la N (cAt L n)
  le : SAhead lim W ea n L
  l1 : w.heap.size + 3 < lim
  l3 : Eb < lim
  l4 : lim ≤ W.heap.size
  below : Below w.heap.size w W
theorem Ev.bel {w W W' : World} {many : Int} {L : List ByteArray} {n cap N lc ec Eb lim nb : Nat} {ao la ea : Option Addr} (h : Ev w many L ao n cap N la lc ea ec Eb lim W) (hb : Below nb W W') (hl : lim ≤ nb) : Ev w many L ao n cap N la lc ea ec Eb lim W' := by
  have l1 := h.l1
  have l3 := h.l3
  exact ⟨(hb.block _ (by omega)).trans h.b0, (hb.block _ (by omega)).trans h.b1, (hb.block _ (by omega)).trans h.b2, (hb.block _ (by omega)).trans h.b5, (hb.block _ (by omega)).trans h.be, h.lt.below (hb.mono (by omega)), h.ll.below (hb.mono hl), h.le.below (hb.mono hl), l1, l3, Nat.le_trans h.l4 hb.size, h.below.trans (hb.mono (by omega))⟩
end Go.Proofs.Ytfnojmkiajdoaaa
