/-
  UtfEach: where its boxes lie.
-/
import Derived.Test.YtplpgjcdoodmlaaSn
namespace Go.Proofs.Ytplpgjcdoodmlaa
open Go.RowKit Go.Shelf
set_option linter.unusedVariables false
set_option linter.unusedSimpArgs false
attribute [local go_sem] Oper.semAt_some

theorem neq30 (a b c e : Int) (w : World) : (binOp .neq 30 (.agg #[.int .i64 a, .int .i64 b]) (.agg #[.int .i64 c, .int .i64 e])).run Try.prog w = .ok (.bool (!(a == c && b == e))) w := by
  go_simp
  by_cases h1 : a = c <;> by_cases h2 : b = e <;> simp [h1, h2]

/-- Where UtfEach's boxes lie: B: that of the document's answer; Each's own behind it. -/
structure Ev (w : World) (s : ByteArray) (many : Int) (la : Option Addr) (N lc B : Nat) (l : List (Nat × Int)) (W : World) : Prop where
  b0 : W.heap[w.heap.size]? = some (.cells #[.int .i64 many] 3 (0, 0))
  b1 : W.heap[w.heap.size + 1]? = some (.cells #[.bool false] 4 (0, 0))
  b5 : W.heap[B]? = some (.cells #[.slice la N lc] 23 (0, 0))
  bs : W.heap[B + 1]? = some (.cells #[.string s] 9 (0, 0))
  ons : Ons W la N l
  onb : ∀ b, la = some ⟨b, 0, none⟩ → b < B
  lo : w.heap.size + 1 < B
  below : Below w.heap.size w W
section
variable {w W W' : World} {s : ByteArray} {many : Int} {la : Option Addr} {N lc B : Nat} {l : List (Nat × Int)}
theorem Ev.mod {S : Nat → Prop} (h : Ev w s many la N lc B l W) (hm : Mod S W W') (hs : ∀ k, S k → B + 1 < k) : Ev w s many la N lc B l W' := by
  have hlo := h.lo
  have hl := blk_lt h.bs
  exact ⟨(hm.block _ (by omega) (fun e => by have := hs _ e; omega)).trans h.b0, (hm.block _ (by omega) (fun e => by have := hs _ e; omega)).trans h.b1, (hm.block _ (by omega) (fun e => by have := hs _ e; omega)).trans h.b5, (hm.block _ (by omega) (fun e => by have := hs _ e; omega)).trans h.bs,
    h.ons.mod hm (fun b e h' => by have := h.onb b e; have := hs _ h'; omega), h.onb, h.lo, (Mod.trans (S := fun k => w.heap.size ≤ k) (Mod.of_below h.below _) hm (fun k _ e => by have := hs k e; omega)).below (fun k hk => by omega)⟩
theorem Ev.bel (h : Ev w s many la N lc B l W) (hb : Below W.heap.size W W') : Ev w s many la N lc B l W' := h.mod (Mod.of_below hb (fun _ => False)) (fun _ e => e.elim)
theorem Ev.lt (h : Ev w s many la N lc B l W) : B + 1 < W.heap.size := blk_lt h.bs
end
/-- How many come, where one may leave. -/
structure Cnt (tv : Nat) (N : Nat) (many : Int) (c : Nat) : Prop where
  c0 : tv = 0 → (c : Int) = min (N : Int) (max 1 many)
  c1 : tv = 1 → c = N
/-- How a round may be left. -/
def Rx (tv : Nat) (many : Int) (wn : World) (Nb x : Nat) (T : List (Nat × Int)) (c : Code) (H : Nat → Prop) (pre : List (Nat × Int)) (V : World) : Prop :=
  (c = .ret ∧ ¬ pre <+: T) ∨ (c = .exit x ∧ tv = 0 ∧ many ≤ (pre.length : Int) ∧ (pre.length = 1 ∨ (pre.length : Int) - 1 < many) ∧ 1 ≤ pre.length ∧ Rh wn Nb T H pre V)
/-- Between two rounds. -/
def Rg (tv : Nat) (many : Int) (wn : World) (Nb : Nat) (T : List (Nat × Int)) (H : Nat → Prop) (pre : List (Nat × Int)) (V : World) : Prop :=
  Rh wn Nb T H pre V ∧ (tv = 0 → pre.length = 0 ∨ (pre.length : Int) < many)
theorem Rg.steady (tv : Nat) (many : Int) (wn : World) (Nb : Nat) (T : List (Nat × Int)) : Steady (Rg tv many wn Nb T) := fun H H' s U V h hs hn hm => ⟨Rh.steady wn Nb T H H' s U V h.1 hs hn hm, h.2⟩
theorem Rx.steady (tv : Nat) (many : Int) (wn : World) (Nb x : Nat) (T : List (Nat × Int)) (c : Code) : Steady (Rx tv many wn Nb x T c) := fun H H' s U V h hs hn hm => by
  rcases h with h | ⟨h1, h2, h3, h4, h5, h6⟩
  · exact .inl h
  · exact .inr ⟨h1, h2, h3, h4, h5, Rh.steady wn Nb T H H' s U V h6 hs hn hm⟩
theorem Rg.whole {tv : Nat} {many : Int} {wn : World} {Nb : Nat} {T : List (Nat × Int)} {H : Nat → Prop} {V : World} (h : Rg tv many wn Nb T H T V) (ht : tv = 0 ∨ tv = 1) : ∃ c : Nat, Cnt tv T.length many c ∧ V.heap[Nb]? = some (.cells #[.int .i64 c] 3 (0, 0)) ∧ Mod (fun k => k = Nb) wn V :=
  ⟨T.length, ⟨fun e => by have := h.2 e; omega, fun _ => rfl⟩, h.1.n, h.1.md⟩
theorem Rx.part {tv : Nat} {many : Int} {wn : World} {Nb x : Nat} {T : List (Nat × Int)} {c : Code} {H : Nat → Prop} {pre : List (Nat × Int)} {V : World} (h : Rx tv many wn Nb x T c H pre V) (hp : pre <+: T) : c = .exit x ∧ ∃ k : Nat, Cnt tv T.length many k ∧ V.heap[Nb]? = some (.cells #[.int .i64 k] 3 (0, 0)) ∧ Mod (fun k => k = Nb) wn V := by
  rcases h with h | ⟨h1, h2, h3, h4, h5, h6⟩
  · exact absurd hp h.2
  · have hl := hp.length_le
    exact ⟨h1, pre.length, ⟨fun _ => by omega, fun e => by omega⟩, h6.n, h6.md⟩
theorem range_cut {P : Program} {c : Code} {K : Act → World → Prop} {Q' : Exit → Act → World → Prop} {a : Act} {w : World} (R : Nat → World → Prop)
    (first : c.wp P (fun e a' W => e = .normal ∧ ∃ D, a' = { a with defers := { target := .collected D, args := #[] } :: a.defers } ∧ R D W) a w)
    (rest : ∀ D W, R D W → K { a with defers := { target := .collected D, args := #[] } :: a.defers } W) : c.wp P (Exit.then K Q') a w :=
  wp_mono first (fun e a' W h => by obtain ⟨rfl, D, rfl, hr⟩ := h; exact rest D W hr)

theorem allP_ons {w : World} {la : Option Addr} {N : Nat} {l : List (Nat × Int)} (h : Ons w la N l) : l.length = N := h.1
end Go.Proofs.Ytplpgjcdoodmlaa
