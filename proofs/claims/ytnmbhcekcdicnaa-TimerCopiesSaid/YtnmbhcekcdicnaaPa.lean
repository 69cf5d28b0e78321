/-
  Timers and the document's, beside boxes.
-/
import Derived.Test.YtnmbhcekcdicnaaZj
import Derived.Test.YtnmbhcekcdicnaaIs
namespace Go.Proofs.Ytnmbhcekcdicnaa
open Go.RowKit
set_option linter.unusedVariables false
set_option linter.unusedSimpArgs false

/-- A short box is no row. -/
theorem DR.skip {A : Nat → Prop} {W W' : World} {bo : Option Addr} {m bc : Nat} {l : List Rw} {X : Nat} {C : Array Value} {t : TypeId} (h : DR A W bo m bc l) (hX : W.heap[X]? = some (.cells C t (0, 0))) (hc : C.size ≤ 2) (hs : W.heap.size ≤ W'.heap.size) (hb : ∀ q, q < W.heap.size → q ≠ X → W'.heap[q]? = W.heap[q]?) : DR A W' bo m bc l :=
  have hd : 0 < m → ∃ b off, bo = some ⟨b, off, none⟩ ∧ A b ∧ b < W.heap.size ∧ b ≠ X ∧ ∀ j, j < m → W.cell? ⟨b, off + j * 3, none⟩ = some (.int .i64 (rAt l j).k) ∧ W.cell? ⟨b, off + j * 3 + 1, none⟩ = some (.int .u64 (rAt l j).i) ∧ W.cell? ⟨b, off + j * 3 + 2, none⟩ = some (.int .u64 (rAt l j).d) := fun hp => by
    obtain ⟨b, off, e, h1, h2, h3⟩ := h.at_ hp
    refine ⟨b, off, e, h1, h2, ?_, h3⟩
    intro g
    have h4 := (h3 0 hp).2.2
    subst g
    simp only [World.cell?, hX] at h4
    have := (Array.getElem?_eq_some_iff.1 (by simpa using h4)).1
    omega
  ⟨h.len, h.cap, fun hp => by
    obtain ⟨b, off, e, h1, h2, hne, h3⟩ := hd hp
    have hc : ∀ j, W'.cell? ⟨b, j, none⟩ = W.cell? ⟨b, j, none⟩ := fun j => World.cell?_of_block (w := W) (hb b h2 hne)
    exact ⟨b, off, e, h1, by omega, fun j hj => ⟨(hc _).trans (h3 j hj).1, (hc _).trans (h3 j hj).2.1, (hc _).trans (h3 j hj).2.2⟩⟩, fun hp => by
    obtain ⟨b, off, e, h1, h2, hne, h3⟩ := hd hp
    obtain ⟨b', off', cur, e', hc⟩ := h.ty hp
    have hbb : b' = b := by rw [e] at e'; cases e'; rfl
    subst hbb
    exact ⟨b', off', cur, e', (hb b' h2 hne).trans hc⟩⟩
/-- The document's box. -/
def wantO (bo : Option Addr) (m bc : Nat) (most : Int) : Obj := .cells #[.slice bo m bc, .int .i64 most] 36 (0, 0)
def tmO (k i : Int) : Obj := .cells #[.int .i64 k, .int .u64 i] 26 (0, 0)
/-- Timers and the document's, made behind w0, and boxes. -/
structure PS (w0 : World) (p : Nat) (most : Int) (l : List Rw) (bo : Option Addr) (m bc : Nat) (B : List (Nat × Obj)) (W : World) : Prop where
  ex : ∃ K, AS K p most l bo m bc W ∧ (∀ q, K q → w0.heap.size ≤ q) ∧ ∀ x ∈ B, W.heap[x.1]? = some x.2 ∧ ¬ K x.1
  bel : Below w0.heap.size w0 W
section
variable {w0 W W' : World} {p : Nat} {most : Int} {l : List Rw} {bo : Option Addr} {m bc : Nat} {B B' : List (Nat × Obj)}
theorem PS.mle (h : PS w0 p most l bo m bc B W) : m ≤ 8192 := by
  obtain ⟨K, h1, _⟩ := h.ex
  exact h1.m
theorem PS.at (h : PS w0 p most l bo m bc B W) {x : Nat} {o : Obj} (hx : (x, o) ∈ B) : W.heap[x]? = some o := by
  obtain ⟨K, h1, h2, h3⟩ := h.ex
  exact (h3 _ hx).1
theorem PS.less (h : PS w0 p most l bo m bc B W) (hs : ∀ x ∈ B', x ∈ B) : PS w0 p most l bo m bc B' W := by
  obtain ⟨K, h1, h2, h3⟩ := h.ex
  exact ⟨⟨K, h1, h2, fun x hx => h3 x (hs x hx)⟩, h.bel⟩
theorem PS.below (h : PS w0 p most l bo m bc B W) (hb : Below W.heap.size W W') : PS w0 p most l bo m bc B W' := by
  obtain ⟨K, h1, h2, h3⟩ := h.ex
  exact ⟨⟨K, h1.below hb, h2, fun x hx => ⟨(hb.block _ (blk_lt (h3 x hx).1)).trans (h3 x hx).1, (h3 x hx).2⟩⟩, h.bel.trans (hb.mono h.bel.size)⟩
theorem PS.add (h : PS w0 p most l bo m bc B W) (o : Obj) : PS w0 p most l bo m bc ((W.heap.size, o) :: B) (W.alloc o) := by
  obtain ⟨K, h1, h2, h3⟩ := h.ex
  have hb : Below W.heap.size W (W.alloc o) := (Below.refl _ W).alloc (Nat.le_refl _) _
  refine ⟨⟨_, h1.old.below hb, fun q e => h2 q e.1, fun x hx => ?_⟩, h.bel.trans (hb.mono h.bel.size)⟩
  rcases List.mem_cons.1 hx with e | e
  · subst e
    exact ⟨alloc_blk_new _ _, fun e => Nat.lt_irrefl _ e.2⟩
  · exact ⟨(hb.block _ (blk_lt (h3 x e).1)).trans (h3 x e).1, fun g => (h3 x e).2 g.1⟩
/-- A box that lay there ahead. -/
theorem PS.was (h : PS w0 p most l bo m bc B W) {X : Nat} {o : Obj} (hX : W.heap[X]? = some o) (hl : X < w0.heap.size) : PS w0 p most l bo m bc ((X, o) :: B) W := by
  obtain ⟨K, h1, h2, h3⟩ := h.ex
  refine ⟨⟨K, h1, h2, fun x hx => ?_⟩, h.bel⟩
  rcases List.mem_cons.1 hx with e | e
  · subst e
    exact ⟨hX, fun g => by have := h2 _ g; simp only at this; omega⟩
  · exact h3 x e
/-- A short box is written over. -/
theorem PS.set {X : Nat} {C C' : Array Value} {t : TypeId} (h : PS w0 p most l bo m bc ((X, .cells C t (0, 0)) :: B) W) (hX : w0.heap.size ≤ X) (hc : C.size ≤ 2) (h1 : t ≠ 56) (h2 : t ≠ 80) (hB : ∀ x ∈ B, x.1 ≠ X) (hn : W'.heap[X]? = some (.cells C' t (0, 0))) (hm : Mod (fun q => q = X) W W') : PS w0 p most l bo m bc ((X, .cells C' t (0, 0)) :: B) W' := by
  obtain ⟨K, g1, g2, g3⟩ := h.ex
  have hx := (g3 _ (List.mem_cons_self ..)).1
  simp only at hx
  have hk : ∀ q, q < W.heap.size → q ≠ X → W'.heap[q]? = W.heap[q]? := fun q hq hn => hm.block q hq hn
  refine ⟨⟨K, ⟨g1.ts.skip hx h1 h2 hk, g1.dr.skip hx hc hm.size hk⟩, g2, fun x hx' => ?_⟩, h.bel.trans ⟨hm.os, hm.tape, hm.output, hm.size, fun q hq => hk q (Nat.lt_of_lt_of_le hq h.bel.size) (by omega)⟩⟩
  rcases List.mem_cons.1 hx' with e | e
  · subst e
    exact ⟨hn, (g3 _ (List.mem_cons_self ..)).2⟩
  · obtain ⟨q1, q2⟩ := g3 x (by simp [e])
    exact ⟨(hk x.1 (blk_lt q1) (hB x e)).trans q1, q2⟩
/-- Another list of the document's, of the same rows. -/
theorem PS.act (h : PS w0 p most l bo m bc B W) (what k i n : Int) (k0 : -9223372036854775808 ≤ k) (k1 : k ≤ 9223372036854775807) (i0 : 0 ≤ i) (i1 : i ≤ 18446744073709551615) (n0 : 0 ≤ n) (n1 : n ≤ 18446744073709551615) :
    Calls Try.prog 11 #[.pointer (some ⟨p, 0, none⟩), .agg #[.slice bo m bc, .int .i64 most], .agg #[.int .i64 what, .int .i64 k, .int .u64 i, .int .u64 n]] W fun e w' => ∃ p' bo' m' bc', e = .returned (.tuple #[.pointer (some ⟨p', 0, none⟩), .agg #[.slice bo' m' bc', .int .i64 most], .bool true]) ∧ PS w0 p' most (actL most l what k i n) bo' m' bc' B w' := by
  obtain ⟨K, h1, h2, h3⟩ := h.ex
  refine (act_any h1 what k i n k0 k1 i0 i1 n0 n1).mono ?_
  rintro e w' ⟨p', bo', m', bc', rfl, ⟨K', hk, has⟩, hm⟩
  have hz := h.bel.size
  refine ⟨p', bo', m', bc', rfl, ⟨⟨K', has, fun q e => ?_, fun x hx => ?_⟩, ?_⟩⟩
  · rcases hk q e with g | g
    · exact h2 q g
    · omega
  · obtain ⟨g1, g2⟩ := h3 x hx
    refine ⟨(hm.block _ (blk_lt g1) g2).trans g1, fun e => ?_⟩
    rcases hk _ e with g | g
    · exact g2 g
    · have := blk_lt g1
      omega
  · exact h.bel.trans ⟨hm.os, hm.tape, hm.output, hm.size, fun q hq => hm.block q (Nat.lt_of_lt_of_le hq hz) (fun e => by have := h2 q e; omega)⟩
theorem PS.is (h : PS w0 p most l bo m bc B W) (k i many : Int) (k0 : -9223372036854775808 ≤ k) (k1 : k ≤ 9223372036854775807) (i0 : 0 ≤ i) (i1 : i ≤ 18446744073709551615) (hm0 : -9223372036854775808 ≤ many) (hm1 : many ≤ 9223372036854775807) :
    Calls Try.prog 16 #[.pointer (some ⟨p, 0, none⟩), .agg #[.slice bo m bc, .int .i64 most], .agg #[.int .i64 k, .int .u64 i], .int .i64 many] W fun e w' => e = .returned (.bool true) ∧ PS w0 p most l bo m bc B w' := by
  obtain ⟨K, h1, h2, h3⟩ := h.ex
  refine (is_any h1 k i many k0 k1 i0 i1 hm0 hm1).mono ?_
  rintro e w' ⟨rfl, hb⟩
  exact ⟨rfl, h.below hb⟩
/-- New timers, and the document's. -/
theorem PS.new (w : World) (most : Int) (h0 : 1 ≤ most) (h1 : most ≤ 8192) : Calls Try.prog 9 #[.int .i64 most] w fun e w' => ∃ p, e = .returned (.tuple #[.pointer (some ⟨p, 0, none⟩), .int .i64 0]) ∧ PS w p most [] none 0 0 [] w' := by
  refine (new9 most w h0 h1).mono ?_
  rintro e w' ⟨p, mb, rfl, h, hb⟩
  exact ⟨p, rfl, ⟨⟨_, ⟨⟨_, _, _, _, h⟩, DR.nil _ _⟩, fun k e => e.1, fun x hx => by cases hx⟩, hb⟩⟩
end
/-- Calls that came in. -/
def AArg (w : World) (ao : Option Addr) (n : Nat) (z : Nat → Int × Int × Int × Int) : Prop :=
  0 < n → ∃ b off, ao = some ⟨b, off, none⟩ ∧ b < w.heap.size ∧ ∀ j, j < n → (w.cell? ⟨b, off + j * 4, none⟩ = some (.int .i64 (z j).1) ∧ w.cell? ⟨b, off + j * 4 + 1, none⟩ = some (.int .i64 (z j).2.1) ∧ w.cell? ⟨b, off + j * 4 + 2, none⟩ = some (.int .u64 (z j).2.2.1) ∧ w.cell? ⟨b, off + j * 4 + 3, none⟩ = some (.int .u64 (z j).2.2.2)) ∧
    (-9223372036854775808 ≤ (z j).2.1 ∧ (z j).2.1 ≤ 9223372036854775807) ∧ (0 ≤ (z j).2.2.1 ∧ (z j).2.2.1 ≤ 18446744073709551615) ∧ 0 ≤ (z j).2.2.2 ∧ (z j).2.2.2 ≤ 18446744073709551615
/-- The rows behind so many calls. -/
def runL (most : Int) (z : Nat → Int × Int × Int × Int) : Nat → List Rw
  | 0 => []
  | j + 1 => actL most (runL most z j) (z j).1 (z j).2.1 (z j).2.2.1 (z j).2.2.2
end Go.Proofs.Ytnmbhcekcdicnaa
