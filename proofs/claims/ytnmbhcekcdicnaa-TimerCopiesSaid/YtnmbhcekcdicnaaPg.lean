/-
  Two timers, each beside the document's.
-/
import Derived.Test.YtnmbhcekcdicnaaPd
import Derived.Test.YtnmbhcekcdicnaaNo
import Derived.Test.YtnmbhcekcdicnaaRs
namespace Go.Proofs.Ytnmbhcekcdicnaa
open Go.RowKit
set_option linter.unusedVariables false
set_option linter.unusedSimpArgs false

/-- Blocks as they are. -/
def Kp (Ks : List (Nat × Obj)) (W : World) : Prop := ∀ x ∈ Ks, W.heap[x.1]? = some x.2
def InK (Ks : List (Nat × Obj)) (q : Nat) : Prop := ∃ x ∈ Ks, x.1 = q
def no46 (Ks : List (Nat × Obj)) : Prop := ∀ x ∈ Ks, ∀ cur, x.2 ≠ .cells cur 46 (0, 0)
def all46 (Ks : List (Nat × Obj)) : Prop := ∀ x ∈ Ks, ∃ cur, x.2 = .cells cur 46 (0, 0)
theorem apart46 {Ks Kd : List (Nat × Obj)} {W : World} (h1 : Kp Ks W) (h2 : Kp Kd W) (n : no46 Ks) (y : all46 Kd) {q : Nat} (hd : InK Kd q) : ¬ InK Ks q := by
  obtain ⟨x, hx, rfl⟩ := hd
  rintro ⟨z, hz, hzx⟩
  have e1 := h1 z hz
  rw [hzx, h2 x hx] at e1
  obtain ⟨cur, hc⟩ := y x hx
  exact n z hz cur (by injection e1 with e1; rw [← e1, hc])
theorem TS.kept {K : Nat → Prop} {p : Nat} {most : Int} {l : List Rw} {W : World} (h : TS K p most l W) : ∃ Ks, Kp Ks W ∧ (∀ x ∈ Ks, K x.1) ∧ no46 Ks ∧ ∀ W', Kp Ks W' → TS (InK Ks) p most l W' := by
  obtain ⟨ao, n, c, mb, g⟩ := h.ex
  obtain ⟨es, clock, hb, hrest⟩ := g.map.ex
  cases ao with
  | none =>
    refine ⟨[(p, .cells #[.slice none n c, .map (some mb), .int .i64 most] 56 (0, 0)), (mb, .map es clock)], fun x hx => ?_, fun x hx => ?_, fun x hx cur => ?_, fun W' hk => ⟨none, n, c, mb, ?_⟩⟩
    · simp at hx
      rcases hx with rfl | rfl
      · exact g.blk
      · exact hb
    · simp at hx
      rcases hx with rfl | rfl
      · exact g.kp
      · exact g.km
    · simp at hx
      rcases hx with rfl | rfl <;> simp
    · have k1 := hk (p, .cells #[.slice none n c, .map (some mb), .int .i64 most] 56 (0, 0)) (by simp)
      have k2 := hk (mb, .map es clock) (by simp)
      exact ⟨k1, ⟨es, clock, k2, hrest⟩, ⟨g.rows.len, g.rows.cap, g.rows.none_, g.rows.big, fun a e => by cases e⟩, ⟨_, List.mem_cons_self .., rfl⟩, ⟨(mb, .map es clock), by simp, rfl⟩, g.srt, g.m0, g.m1, g.le⟩
  | some a =>
    obtain ⟨b, cur, rfl, r1, r2, r3⟩ := g.rows.some_ a rfl
    refine ⟨[(p, .cells #[.slice (some ⟨b, 0, none⟩) n c, .map (some mb), .int .i64 most] 56 (0, 0)), (mb, .map es clock), (b, .cells cur 80 (0, 0))], fun x hx => ?_, fun x hx => ?_, fun x hx cur => ?_, fun W' hk => ⟨some ⟨b, 0, none⟩, n, c, mb, ?_⟩⟩
    · simp at hx
      rcases hx with rfl | rfl | rfl
      · exact g.blk
      · exact hb
      · exact r2
    · simp at hx
      rcases hx with rfl | rfl | rfl
      · exact g.kp
      · exact g.km
      · exact r1
    · simp at hx
      rcases hx with rfl | rfl | rfl <;> simp
    · have k1 := hk (p, .cells #[.slice (some ⟨b, 0, none⟩) n c, .map (some mb), .int .i64 most] 56 (0, 0)) (by simp)
      have k2 := hk (mb, .map es clock) (by simp)
      have k3 := hk (b, .cells cur 80 (0, 0)) (by simp)
      exact ⟨k1, ⟨es, clock, k2, hrest⟩, ⟨g.rows.len, g.rows.cap, g.rows.none_, g.rows.big, fun a e => by cases e; exact ⟨b, cur, rfl, ⟨(b, .cells cur 80 (0, 0)), by simp, rfl⟩, k3, r3⟩⟩, ⟨_, List.mem_cons_self .., rfl⟩, ⟨(mb, .map es clock), by simp, rfl⟩, g.srt, g.m0, g.m1, g.le⟩
theorem DR.kept {A : Nat → Prop} {W : World} {bo : Option Addr} {m bc : Nat} {l : List Rw} (h : DR A W bo m bc l) : ∃ Ks, Kp Ks W ∧ (∀ x ∈ Ks, A x.1) ∧ all46 Ks ∧ ∀ W', Kp Ks W' → DR (InK Ks) W' bo m bc l := by
  by_cases hp : 0 < m
  · obtain ⟨b, off, e, g1, g2, g3⟩ := h.at_ hp
    obtain ⟨b', off', cur, e', ho⟩ := h.ty hp
    have hbb : b' = b := by rw [e] at e'; cases e'; rfl
    subst hbb
    refine ⟨[(b', .cells cur 46 (0, 0))], fun x hx => ?_, fun x hx => ?_, fun x hx => ?_, fun W' hk => ?_⟩
    · simp at hx; subst hx; exact ho
    · simp at hx; subst hx; exact g1
    · simp at hx; subst hx; exact ⟨cur, rfl⟩
    · have k1 := hk (b', .cells cur 46 (0, 0)) (by simp)
      have hb : W'.heap[b']? = W.heap[b']? := by rw [ho]; exact k1
      have hc : ∀ j, W'.cell? ⟨b', j, none⟩ = W.cell? ⟨b', j, none⟩ := fun j => World.cell?_of_block (w := W) hb
      exact ⟨h.len, h.cap, fun _ => ⟨b', off, e, ⟨(b', .cells cur 46 (0, 0)), by simp, rfl⟩, blk_lt k1, fun j hj => ⟨(hc _).trans (g3 j hj).1, (hc _).trans (g3 j hj).2.1, (hc _).trans (g3 j hj).2.2⟩⟩, fun _ => ⟨b', off, cur, e, k1⟩⟩
  · refine ⟨[], ?_, ?_, ?_, fun W' _ => ⟨h.len, h.cap, fun hp' => absurd hp' hp, fun hp' => absurd hp' hp⟩⟩ <;> (intro x hx; cases hx)
section
variable {w0 W W' : World} {p p1 p2 : Nat} {most : Int} {l l1 l2 : List Rw} {bo bo1 bo2 : Option Addr} {m bc m1 bc1 m2 bc2 : Nat} {B Kc Kg Kt Kd : List (Nat × Obj)}
/-- The document's rows, kept. -/
theorem PS.keepDR (h : PS w0 p most l bo m bc B W) : ∃ Kg, PS w0 p most l bo m bc (Kg ++ B) W ∧ all46 Kg ∧ ∀ W', Kp Kg W' → DR (InK Kg) W' bo m bc l := by
  obtain ⟨K, h1, h2, h3⟩ := h.ex
  obtain ⟨Kg, g1, g2, g3, g4⟩ := h1.dr.kept
  refine ⟨Kg, ⟨⟨K, h1, h2, fun x hx => ?_⟩, h.bel⟩, g3, g4⟩
  rcases List.mem_append.1 hx with e | e
  · exact ⟨g1 x e, g2 x e⟩
  · exact h3 x e
/-- A copy, kept beside. -/
theorem PS.copy (h : PS w0 p most l bo m bc B W) : Calls Try.prog 14 #[.pointer (some ⟨p, 0, none⟩)] W fun e w' => ∃ p2 Kc, e = .returned (.pointer (some ⟨p2, 0, none⟩)) ∧ PS w0 p most l bo m bc (Kc ++ B) w' ∧ no46 Kc ∧ (∀ x ∈ Kc, W.heap.size ≤ x.1) ∧ ∀ W', Kp Kc W' → TS (InK Kc) p2 most l W' := by
  obtain ⟨K, h1, h2, h3⟩ := h.ex
  refine h1.ts.copy.mono ?_
  rintro e w' ⟨p2, rfl, hts, hb⟩
  obtain ⟨Kc, g1, g2, g3, g4⟩ := hts.kept
  refine ⟨p2, Kc, rfl, ⟨⟨_, h1.old.below hb, fun q e => h2 q e.1, fun x hx => ?_⟩, h.bel.trans (hb.mono h.bel.size)⟩, g3, fun x hx => (g2 x hx).1, g4⟩
  rcases List.mem_append.1 hx with e | e
  · exact ⟨g1 x e, fun g => by have h4 := (g2 x e).1; have h5 := g.2; omega⟩
  · exact ⟨(hb.block _ (blk_lt (h3 x e).1)).trans (h3 x e).1, fun g => (h3 x e).2 g.1⟩
/-- The other one's turn. -/
theorem PS.swap (h : PS w0 p1 most l1 bo1 m1 bc1 (Kc ++ (Kg ++ B)) W) (hc : ∀ W', Kp Kc W' → TS (InK Kc) p2 most l2 W') (n46 : no46 Kc) (hw : ∀ x ∈ Kc, w0.heap.size ≤ x.1) (hd : ∀ x ∈ Kc, ∀ y ∈ Kg ++ B, x.1 ≠ y.1) (hg : ∀ W', Kp Kg W' → DR (InK Kg) W' bo2 m2 bc2 l2) :
    ∃ Kt Kd, PS w0 p2 most l2 bo2 m2 bc2 (Kt ++ (Kd ++ B)) W ∧ no46 Kt ∧ all46 Kd ∧ (∀ W', Kp Kt W' → TS (InK Kt) p1 most l1 W') ∧ ∀ W', Kp Kd W' → DR (InK Kd) W' bo1 m1 bc1 l1 := by
  obtain ⟨K, h1, h2, h3⟩ := h.ex
  obtain ⟨Kt, t1, t2, t3, t4⟩ := h1.ts.kept
  obtain ⟨Kd, d1, d2, d3, d4⟩ := h1.dr.kept
  have kc : Kp Kc W := fun x hx => (h3 x (by simp [hx])).1
  have kg : Kp Kg W := fun x hx => (h3 x (by simp [hx])).1
  refine ⟨Kt, Kd, ⟨⟨InK Kc, ⟨hc W kc, (hg W kg).keep (Nat.le_refl _) ?_ fun _ _ _ => rfl⟩, ?_, fun x hx => ?_⟩, h.bel⟩, t3, d3, t4, d4⟩
  · rintro q ⟨y, hy, rfl⟩ - ⟨x, hx, e⟩
    exact hd x hx y (by simp [hy]) e
  · rintro q ⟨x, hx, rfl⟩
    exact hw x hx
  · rcases List.mem_append.1 hx with e | e
    · refine ⟨t1 x e, ?_⟩
      rintro ⟨y, hy, g⟩
      exact (h3 y (by simp [hy])).2 (by rw [g]; exact t2 x e)
    · rcases List.mem_append.1 e with e | e
      · exact ⟨d1 x e, apart46 kc d1 n46 d3 ⟨x, e, rfl⟩⟩
      · refine ⟨(h3 x (by simp [e])).1, ?_⟩
        rintro ⟨y, hy, g⟩
        exact hd y hy x (by simp [e]) g
/-- Both, and boxes. -/
structure Two (w0 : World) (p1 p2 : Nat) (most : Int) (l1 l2 : List Rw) (bo1 : Option Addr) (m1 bc1 : Nat) (bo2 : Option Addr) (m2 bc2 : Nat) (B : List (Nat × Obj)) (W : World) : Prop where
  a : ∃ K, AS K p1 most l1 bo1 m1 bc1 W
  b : ∃ K, AS K p2 most l2 bo2 m2 bc2 W
  bx : Kp B W
  bel : Below w0.heap.size w0 W
theorem PS.two (h : PS w0 p2 most l2 bo2 m2 bc2 (Kt ++ (Kd ++ B)) W) (n : no46 Kt) (y : all46 Kd) (ht : ∀ W', Kp Kt W' → TS (InK Kt) p1 most l1 W') (hd : ∀ W', Kp Kd W' → DR (InK Kd) W' bo1 m1 bc1 l1) : Two w0 p1 p2 most l1 l2 bo1 m1 bc1 bo2 m2 bc2 B W := by
  obtain ⟨K, h1, h2, h3⟩ := h.ex
  have kt : Kp Kt W := fun x hx => (h3 x (by simp [hx])).1
  have kd : Kp Kd W := fun x hx => (h3 x (by simp [hx])).1
  exact ⟨⟨InK Kt, ht W kt, (hd W kd).keep (Nat.le_refl _) (fun q e _ => apart46 kt kd n y e) fun _ _ _ => rfl⟩, ⟨K, h1⟩, fun x hx => (h3 x (by simp [hx])).1, h.bel⟩
theorem Two.below (h : Two w0 p1 p2 most l1 l2 bo1 m1 bc1 bo2 m2 bc2 B W) (hb : Below W.heap.size W W') : Two w0 p1 p2 most l1 l2 bo1 m1 bc1 bo2 m2 bc2 B W' := by
  obtain ⟨K, a⟩ := h.a
  obtain ⟨K', b⟩ := h.b
  exact ⟨⟨K, a.below hb⟩, ⟨K', b.below hb⟩, fun x hx => (hb.block _ (blk_lt (h.bx x hx))).trans (h.bx x hx), h.bel.trans (hb.mono h.bel.size)⟩
theorem Two.isA (h : Two w0 p1 p2 most l1 l2 bo1 m1 bc1 bo2 m2 bc2 B W) (k i many : Int) (k0 : -9223372036854775808 ≤ k) (k1 : k ≤ 9223372036854775807) (i0 : 0 ≤ i) (i1 : i ≤ 18446744073709551615) (hm0 : -9223372036854775808 ≤ many) (hm1 : many ≤ 9223372036854775807) :
    Calls Try.prog 16 #[.pointer (some ⟨p1, 0, none⟩), .agg #[.slice bo1 m1 bc1, .int .i64 most], .agg #[.int .i64 k, .int .u64 i], .int .i64 many] W fun e w' => e = .returned (.bool true) ∧ Below W.heap.size W w' := by
  obtain ⟨K, a⟩ := h.a
  exact is_any a k i many k0 k1 i0 i1 hm0 hm1
theorem Two.isB (h : Two w0 p1 p2 most l1 l2 bo1 m1 bc1 bo2 m2 bc2 B W) (k i many : Int) (k0 : -9223372036854775808 ≤ k) (k1 : k ≤ 9223372036854775807) (i0 : 0 ≤ i) (i1 : i ≤ 18446744073709551615) (hm0 : -9223372036854775808 ≤ many) (hm1 : many ≤ 9223372036854775807) :
    Calls Try.prog 16 #[.pointer (some ⟨p2, 0, none⟩), .agg #[.slice bo2 m2 bc2, .int .i64 most], .agg #[.int .i64 k, .int .u64 i], .int .i64 many] W fun e w' => e = .returned (.bool true) ∧ Below W.heap.size W w' := by
  obtain ⟨K, a⟩ := h.b
  exact is_any a k i many k0 k1 i0 i1 hm0 hm1
theorem Two.same (h : Two w0 p1 p2 most l1 l2 bo1 m1 bc1 bo2 m2 bc2 B W) :
    Calls Try.prog 17 #[.pointer (some ⟨p1, 0, none⟩), .pointer (some ⟨p2, 0, none⟩)] W fun e w' => e = .returned (.bool (decide (l1 = l2))) ∧ Below W.heap.size W w' := by
  obtain ⟨K, a⟩ := h.a
  obtain ⟨K', b⟩ := h.b
  exact a.ts.same b.ts
theorem Two.emas (h : Two w0 p1 p2 most l1 l2 bo1 m1 bc1 bo2 m2 bc2 B W) :
    Calls Try.prog 17 #[.pointer (some ⟨p2, 0, none⟩), .pointer (some ⟨p1, 0, none⟩)] W fun e w' => e = .returned (.bool (decide (l1 = l2))) ∧ Below W.heap.size W w' := by
  obtain ⟨K, a⟩ := h.a
  obtain ⟨K', b⟩ := h.b
  have := b.ts.same a.ts
  rw [show decide (l2 = l1) = decide (l1 = l2) from by rw [Bool.eq_iff_iff]; simp [eq_comm]] at this
  exact this
theorem Two.rsame (h : Two w0 p1 p2 most l1 l2 bo1 m1 bc1 bo2 m2 bc2 B W) :
    Calls Try.prog 15 #[.agg #[.slice bo1 m1 bc1, .int .i64 most], .agg #[.slice bo2 m2 bc2, .int .i64 most]] W fun e w' => e = .returned (.bool (decide (l1 = l2))) ∧ Below W.heap.size W w' := by
  obtain ⟨K, a⟩ := h.a
  obtain ⟨K', b⟩ := h.b
  exact refSame15 a.dr b.dr (by have := a.m; omega) (by have := b.m; omega) most
theorem Two.not_none (h : Two w0 p1 p2 most l1 l2 bo1 m1 bc1 bo2 m2 bc2 B W) {v : Value} (hn : NilT v W) : Calls Try.prog 17 #[.pointer (some ⟨p1, 0, none⟩), v] W fun e w' => e = .returned (.bool false) ∧ W = w' := by
  obtain ⟨K, a⟩ := h.a
  exact a.ts.not_none hn
end
/-- Two calls' box. -/
def twoO (r0 r1 r2 r3 q0 q1 q2 q3 : Int) : Obj := .cells #[.int .i64 r0, .int .i64 r1, .int .u64 r2, .int .u64 r3, .int .i64 q0, .int .i64 q1, .int .u64 q2, .int .u64 q3] 48 (0, 0)
end Go.Proofs.Ytnmbhcekcdicnaa
