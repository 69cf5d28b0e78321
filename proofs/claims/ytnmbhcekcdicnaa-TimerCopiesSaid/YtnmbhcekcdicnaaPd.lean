/-
  Timers to go over, and what calls behind leave of them.
-/
import Derived.Test.YtnmbhcekcdicnaaPa
namespace Go.Proofs.Ytnmbhcekcdicnaa
open Go.RowKit
set_option linter.unusedVariables false
set_option linter.unusedSimpArgs false

section
variable {w0 W W' : World} {p : Nat} {most : Int} {l : List Rw} {bo : Option Addr} {m bc : Nat} {B B' : List (Nat × Obj)}
/-- The document's rows, kept as a box. -/
theorem PS.guard (h : PS w0 p most l bo m bc B W) : ∃ Ks, PS w0 p most l bo m bc (Ks ++ B) W ∧ ∀ W', (∀ x ∈ Ks, W'.heap[x.1]? = some x.2) → DR (fun q => q < W'.heap.size) W' bo m bc l := by
  obtain ⟨K, h1, h2, h3⟩ := h.ex
  by_cases hp : 0 < m
  · obtain ⟨b, off, e, g1, g2, g3⟩ := h1.dr.at_ hp
    obtain ⟨b', off', cur, e', ho⟩ := h1.dr.ty hp
    have hbb : b' = b := by rw [e] at e'; cases e'; rfl
    subst hbb
    obtain ⟨o, hoo⟩ : ∃ o : Obj, o = .cells cur 46 (0, 0) := ⟨_, rfl⟩
    rw [← hoo] at ho
    refine ⟨[(b', o)], ⟨⟨K, h1, h2, fun x hx => ?_⟩, h.bel⟩, fun W' hk => ⟨h1.dr.len, h1.dr.cap, fun _ => ⟨b', off, e, blk_lt (hk (b', o) (by simp)), blk_lt (hk (b', o) (by simp)), fun j hj => ?_⟩, fun _ => ⟨b', off, cur, e, by rw [← hoo]; exact hk (b', o) (by simp)⟩⟩⟩
    · simp only [List.cons_append, List.nil_append] at hx
      rcases List.mem_cons.1 hx with e | e
      · subst e
        exact ⟨ho, g1⟩
      · exact h3 x e
    · have hb : W'.heap[b']? = W.heap[b']? := by rw [ho]; exact hk (b', o) (by simp)
      have hc : ∀ j, W'.cell? ⟨b', j, none⟩ = W.cell? ⟨b', j, none⟩ := fun j => World.cell?_of_block (w := W) hb
      exact ⟨(hc _).trans (g3 j hj).1, (hc _).trans (g3 j hj).2.1, (hc _).trans (g3 j hj).2.2⟩
  · exact ⟨[], by simpa using h, fun W' _ => ⟨h1.dr.len, h1.dr.cap, fun hp' => absurd hp' hp, fun hp' => absurd hp' hp⟩⟩
theorem PS.srt (h : PS w0 p most l bo m bc B W) : Srt l := by
  obtain ⟨K, h1, _⟩ := h.ex
  exact h1.ts.srt
/-- All of them, kept as boxes. -/
theorem PS.all (h : PS w0 p most l bo m bc B W) : Calls Try.prog 12 #[.pointer (some ⟨p, 0, none⟩)] W fun e w' => ∃ B0 Ks, e = .returned (.func (.func 32) #[] #[.pointer (some ⟨B0, 0, none⟩)]) ∧ PS w0 p most l bo m bc (Ks ++ B) w' ∧ ∀ W', (∀ x ∈ Ks, W'.heap[x.1]? = some x.2) → SeqAt (fun q => q < W'.heap.size) W' B0 l := by
  obtain ⟨K, h1, h2, h3⟩ := h.ex
  refine h1.ts.all.mono ?_
  rintro e w' ⟨B0, rfl, hsq, hb⟩
  obtain ⟨ao, n, c, k1, hr⟩ := hsq.ex
  have hok := hsq.ok
  have hlt := blk_lt k1
  have hB : ∀ x ∈ B, w'.heap[x.1]? = some x.2 ∧ ¬ (K x.1 ∧ x.1 < W.heap.size) := fun x hx => ⟨(hb.block _ (blk_lt (h3 x hx).1)).trans (h3 x hx).1, fun g => (h3 x hx).2 g.1⟩
  have has := h1.old.below hb
  have hbel := h.bel.trans (hb.mono h.bel.size)
  cases hao : ao with
  | none =>
    subst hao
    refine ⟨B0, [(B0, .cells #[.slice none n c] 53 (0, 0))], rfl, ⟨⟨_, has, fun q e => h2 q e.1, fun x hx => ?_⟩, hbel⟩, fun W' hk => ⟨by have g := hk (B0, .cells #[.slice none n c] 53 (0, 0)) (by simp); exact blk_lt g, none, n, c, hk (B0, _) (by simp), hr.len, hr.cap, hr.none_, hr.big, fun a e => by cases e⟩⟩
    simp only [List.cons_append, List.nil_append] at hx
    rcases List.mem_cons.1 hx with e | e
    · subst e
      exact ⟨k1, fun g => by have := g.2; simp only at this; omega⟩
    · exact hB x e
  | some a =>
    subst hao
    obtain ⟨b, cur, rfl, r1, r2, r3⟩ := hr.some_ a rfl
    refine ⟨B0, [(B0, .cells #[.slice (some ⟨b, 0, none⟩) n c] 53 (0, 0)), (b, .cells cur 80 (0, 0))], rfl, ⟨⟨_, has, fun q e => h2 q e.1, fun x hx => ?_⟩, hbel⟩, fun W' hk => ⟨by have g := hk (B0, .cells #[.slice (some ⟨b, 0, none⟩) n c] 53 (0, 0)) (by simp); exact blk_lt g, some ⟨b, 0, none⟩, n, c, hk (B0, _) (by simp), hr.len, hr.cap, hr.none_, hr.big, fun a e => by cases e; have g := hk (b, .cells cur 80 (0, 0)) (by simp); exact ⟨b, cur, rfl, blk_lt g, g, r3⟩⟩⟩
    simp only [List.cons_append, List.nil_append] at hx
    rcases List.mem_cons.1 hx with e | e
    · subst e
      exact ⟨k1, fun g => by have := g.2; simp only at this; omega⟩
    · rcases List.mem_cons.1 e with e | e
      · subst e
        exact ⟨r2, fun g => by have := g.2; simp only at this; omega⟩
      · exact hB x e
end
/-- A call's box. -/
def actO (what k i n : Int) : Obj := .cells #[.int .i64 what, .int .i64 k, .int .u64 i, .int .u64 n] 28 (0, 0)
/-- What the rounds want. -/
structure Ev (w : World) (X8 T Eb : Nat) (bo : Option Addr) (m bc : Nat) (most : Int) (l : List Rw) (lim : Nat) (W : World) : Prop where
  b8 : W.heap[X8]? = some (.cells #[.bool false] 4 (0, 0))
  bt : W.heap[T]? = some (wantO bo m bc most)
  dr : DR (fun q => q < lim) W bo m bc l
  sq : SeqAt (fun q => q < lim) W Eb l
  l8 : X8 < lim
  lt : T < lim
  ll : lim ≤ W.heap.size
  w8 : w.heap.size ≤ X8
  bel : Below w.heap.size w W
theorem Ev.to {w : World} {X8 T Eb : Nat} {bo : Option Addr} {m bc : Nat} {most : Int} {l : List Rw} {lim nb : Nat} {W W' : World} (h : Ev w X8 T Eb bo m bc most l lim W) (hb : Below nb W W') (hn : lim ≤ nb) : Ev w X8 T Eb bo m bc most l lim W' :=
  ⟨(hb.block _ (Nat.lt_of_lt_of_le h.l8 hn)).trans h.b8, (hb.block _ (Nat.lt_of_lt_of_le h.lt hn)).trans h.bt, h.dr.keep hb.size (fun _ e _ => e) (fun q e _ => hb.block q (Nat.lt_of_lt_of_le e hn)), h.sq.keep (fun _ e _ => e) (fun q e _ => hb.block q (Nat.lt_of_lt_of_le e hn)), h.l8, h.lt, Nat.le_trans h.ll hb.size, h.w8, h.bel.trans (hb.mono (by have := h.w8; have := h.l8; omega))⟩
end Go.Proofs.Ytnmbhcekcdicnaa
