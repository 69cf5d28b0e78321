/-
  WindowCopies, walked.
-/
import Derived.Test.YtagdenhcbafblaaRb
namespace Go.Proofs.Ytagdenhcbafblaa
open Go.RowKit Go.Shelf
set_option linter.unusedVariables false
set_option linter.unusedSimpArgs false
attribute [local go_sem] Oper.semAt_some
attribute [local go_sem high] eql39

theorem run_eql_func49 (f : Fn) (x y : Array Value) (w : World) : (binOp .eql 49 (.func f x y) .nilFunc).run Try.prog w = .ok (.bool false) w := by
  have h : ∀ d : Nat, (Op.equalIn (d + 1) 49 (.func f x y) .nilFunc).run Try.prog w = .ok false w := fun d => by
    simp [Op.equalIn, run_underlying Try.underlying49]
  simp only [binOp]
  simp [Op.equal, Op.maxDepth, h 9999]
attribute [local go_sem] run_eql_func49

/-- Where the boxes of what came in and of the answer lie. -/
structure Came (w : World) (a0 a1 a2 a3 a4 a5 : Int) (W : World) : Prop where
  a : W.heap[w.heap.size]? = some (.cells #[.int .i64 a0, .int .i64 a1, .int .u64 a2, .int .i64 a3, .int .i64 a4, .int .u64 a5] 53 (0, 0))
  r : W.heap[w.heap.size + 1]? = some (.cells #[.bool false] 4 (0, 0))
  below : Below w.heap.size w W
theorem Came.lt {w W : World} {a0 a1 a2 a3 a4 a5 : Int} (h : Came w a0 a1 a2 a3 a4 a5 W) : w.heap.size + 1 < W.heap.size := blk_lt h.r
theorem Came.mod {w W W' : World} {S : Nat → Prop} {a0 a1 a2 a3 a4 a5 : Int} (h : Came w a0 a1 a2 a3 a4 a5 W) (hm : Mod S W W') (hs : ∀ k, k < w.heap.size + 2 → ¬ S k) : Came w a0 a1 a2 a3 a4 a5 W' := by
  have hl := h.lt
  exact ⟨(hm.block _ (by omega) (hs _ (by omega))).trans h.a, (hm.block _ (by omega) (hs _ (by omega))).trans h.r,
    ⟨hm.os.trans h.below.os, hm.tape.trans h.below.tape, hm.output.trans h.below.output, Nat.le_trans h.below.size hm.size, fun k hk => (hm.block k (by omega) (hs k (by omega))).trans (h.below.block k hk)⟩⟩
theorem Came.bel {w W W' : World} {a0 a1 a2 a3 a4 a5 : Int} (h : Came w a0 a1 a2 a3 a4 a5 W) (hb : Below W.heap.size W W') : Came w a0 a1 a2 a3 a4 a5 W' :=
  h.mod (Mod.of_below hb (fun _ => False)) (fun _ _ h => h)
theorem Came.start (w : World) (a0 a1 a2 a3 a4 a5 : Int) :
    Came w a0 a1 a2 a3 a4 a5 ((w.alloc (.cells #[.int .i64 a0, .int .i64 a1, .int .u64 a2, .int .i64 a3, .int .i64 a4, .int .u64 a5] 53)).alloc (.cells #[.bool false] 4)) := by
  have e1 : (w.alloc (.cells #[.int .i64 a0, .int .i64 a1, .int .u64 a2, .int .i64 a3, .int .i64 a4, .int .u64 a5] 53)).heap.size = w.heap.size + 1 := by simp
  refine ⟨alloc_blk (alloc_blk_new _ _) _, ?_, ((Below.refl _ w).alloc (Nat.le_refl _) _).alloc (by simp) _⟩
  have := alloc_blk_new (w.alloc (.cells #[.int .i64 a0, .int .i64 a1, .int .u64 a2, .int .i64 a3, .int .i64 a4, .int .u64 a5] 53)) (.cells #[.bool false] 4)
  rw [e1] at this
  exact this
theorem Came.cells {w W : World} {a0 a1 a2 a3 a4 a5 : Int} (h : Came w a0 a1 a2 a3 a4 a5 W) :
    (W.cell? ⟨w.heap.size, 0, none⟩ = some (.int .i64 a0) ∧ W.cell? ⟨w.heap.size, 1, none⟩ = some (.int .i64 a1) ∧ W.cell? ⟨w.heap.size, 2, none⟩ = some (.int .u64 a2)) ∧
    (W.cell? ⟨w.heap.size, 3, none⟩ = some (.int .i64 a3) ∧ W.cell? ⟨w.heap.size, 4, none⟩ = some (.int .i64 a4) ∧ W.cell? ⟨w.heap.size, 5, none⟩ = some (.int .u64 a5)) ∧
    W.cell? ⟨w.heap.size + 1, 0, none⟩ = some (.bool false) ∧ W.frozen? ⟨w.heap.size + 1, 0, none⟩ = false :=
  ⟨⟨cell_blk h.a 0 _ rfl, cell_blk h.a 1 _ rfl, cell_blk h.a 2 _ rfl⟩, ⟨cell_blk h.a 3 _ rfl, cell_blk h.a 4 _ rfl, cell_blk h.a 5 _ rfl⟩, cell_blk h.r 0 _ rfl, frozen_blk h.r 0⟩

/-- What the last region finds. -/
structure Fin (w : World) (pb pc r1 r2 D : Nat) (l1 g1 : Int) (s1 : Bool) (l2 g2 : Int) (s2 : Bool) (W : World) : Prop where
  b : Wi W pb l1 g1 s1
  c : Wi W pc l2 g2 s2
  x : W.heap[r1]? = some (.cells #[.int .u64 l1, .int .u64 g1, .bool s1] 39 (0, 0))
  y : W.heap[r2]? = some (.cells #[.int .u64 l2, .int .u64 g2, .bool s2] 39 (0, 0))
  d : W.heap[D]? = some (.deferred (some []))
  r : ∃ v, W.heap[w.heap.size + 1]? = some (.cells #[v] 4 (0, 0))
  below : Below w.heap.size w W
  n : w.heap.size + 1 < pb ∧ w.heap.size + 1 < pc ∧ w.heap.size + 1 < r1 ∧ w.heap.size + 1 < r2 ∧ w.heap.size + 1 < D
theorem Fin.bel {w : World} {pb pc r1 r2 D : Nat} {l1 g1 : Int} {s1 : Bool} {l2 g2 : Int} {s2 : Bool} {W W' : World} (h : Fin w pb pc r1 r2 D l1 g1 s1 l2 g2 s2 W) (hb : Below W.heap.size W W') : Fin w pb pc r1 r2 D l1 g1 s1 l2 g2 s2 W' := by
  obtain ⟨v, hv⟩ := h.r
  exact ⟨h.b.below hb, h.c.below hb, (hb.block _ (blk_lt h.x)).trans h.x, (hb.block _ (blk_lt h.y)).trans h.y, (hb.block _ (Array.getElem?_eq_some_iff.1 h.d).1).trans h.d, ⟨v, (hb.block _ (blk_lt hv)).trans hv⟩, h.below.trans (hb.mono h.below.size), h.n⟩
theorem Fin.drewN {w : World} {pb pc r1 r2 D : Nat} {l1 g1 : Int} {s1 : Bool} {l2 g2 : Int} {s2 : Bool} {W : World} (h : Fin w pb pc r1 r2 D l1 g1 s1 l2 g2 s2 W) (n : Nat) : Fin w pb pc r1 r2 D l1 g1 s1 l2 g2 s2 (W.drewN n) :=
  ⟨h.b.drewN n, h.c.drewN n, h.x, h.y, h.d, h.r, ⟨h.below.os, h.below.tape, h.below.output, h.below.size, h.below.block⟩, h.n⟩
theorem Fin.put {w : World} {pb pc r1 r2 D : Nat} {l1 g1 : Int} {s1 : Bool} {l2 g2 : Int} {s2 : Bool} {W : World} (h : Fin w pb pc r1 r2 D l1 g1 s1 l2 g2 s2 W) (v : Value) : Fin w pb pc r1 r2 D l1 g1 s1 l2 g2 s2 (W.setCell ⟨w.heap.size + 1, 0, none⟩ v) := by
  obtain ⟨n1, n2, n3, n4, n5⟩ := h.n
  obtain ⟨u, hu⟩ := h.r
  have hm : Mod (fun q => q = w.heap.size + 1) W (W.setCell ⟨w.heap.size + 1, 0, none⟩ v) := (Mod.refl (fun q => q = w.heap.size + 1) W).setCell ⟨w.heap.size + 1, 0, none⟩ (.inl rfl) v
  exact ⟨h.b.mod hm (by show ¬ pb = _; omega), h.c.mod hm (by show ¬ pc = _; omega), (hm.block _ (blk_lt h.x) (by show ¬ r1 = _; omega)).trans h.x, (hm.block _ (blk_lt h.y) (by show ¬ r2 = _; omega)).trans h.y, (hm.block _ (Array.getElem?_eq_some_iff.1 h.d).1 (by show ¬ D = _; omega)).trans h.d,
    ⟨v, by rw [setCell_blk hu]; rfl⟩, h.below.setCell (p := ⟨w.heap.size + 1, 0, none⟩) (by simp) v, h.n⟩
theorem Fin.res {w : World} {pb pc r1 r2 D : Nat} {l1 g1 : Int} {s1 : Bool} {l2 g2 : Int} {s2 : Bool} {W : World} (h : Fin w pb pc r1 r2 D l1 g1 s1 l2 g2 s2 W) : ∃ v, W.cell? ⟨w.heap.size + 1, 0, none⟩ = some v ∧ W.frozen? ⟨w.heap.size + 1, 0, none⟩ = false := by
  obtain ⟨u, hu⟩ := h.r
  exact ⟨u, cell_blk hu 0 _ rfl, frozen_blk hu 0⟩
def Sees (w : World) (pb pc r1 r2 D : Nat) (l1 g1 : Int) (s1 : Bool) (l2 g2 : Int) (s2 : Bool) (W : World) : Prop :=
  ((W.cell? ⟨r1, 0, none⟩ = some (.int .u64 l1) ∧ W.cell? ⟨r1, 1, none⟩ = some (.int .u64 g1) ∧ W.cell? ⟨r1, 2, none⟩ = some (.bool s1)) ∧ (W.cell? ⟨r2, 0, none⟩ = some (.int .u64 l2) ∧ W.cell? ⟨r2, 1, none⟩ = some (.int .u64 g2) ∧ W.cell? ⟨r2, 2, none⟩ = some (.bool s2)) ∧ Fin w pb pc r1 r2 D l1 g1 s1 l2 g2 s2 W)
theorem Sees.of {w : World} {pb pc r1 r2 D : Nat} {l1 g1 : Int} {s1 : Bool} {l2 g2 : Int} {s2 : Bool} {W : World} (h : Fin w pb pc r1 r2 D l1 g1 s1 l2 g2 s2 W) : Sees w pb pc r1 r2 D l1 g1 s1 l2 g2 s2 W := by
  obtain ⟨l0, l1, l2, f0, f1, f2⟩ := three h.x
  obtain ⟨m0, m1, m2, n0, n1, n2⟩ := three h.y
  exact ⟨⟨l0, l1, l2⟩, ⟨m0, m1, m2⟩, h⟩
theorem Sees.fin {w : World} {pb pc r1 r2 D : Nat} {l1 g1 : Int} {s1 : Bool} {l2 g2 : Int} {s2 : Bool} {W : World} (h : Sees w pb pc r1 r2 D l1 g1 s1 l2 g2 s2 W) : Fin w pb pc r1 r2 D l1 g1 s1 l2 g2 s2 W := h.2.2
/-- Which window a pointer is. -/
def Which (w : World) (pb pc r1 r2 D : Nat) (l1 g1 : Int) (s1 : Bool) (l2 g2 : Int) (s2 : Bool) (p : Nat) (l g : Int) (s : Bool) : Prop := (p = pb ∧ l = l1 ∧ g = g1 ∧ s = s1) ∨ (p = pc ∧ l = l2 ∧ g = g2 ∧ s = s2)
theorem Which.wi {w : World} {pb pc r1 r2 D : Nat} {l1 g1 : Int} {s1 : Bool} {l2 g2 : Int} {s2 : Bool} {p : Nat} {l g : Int} {s : Bool} {W : World} (h : Which w pb pc r1 r2 D l1 g1 s1 l2 g2 s2 p l g s) (hF : Fin w pb pc r1 r2 D l1 g1 s1 l2 g2 s2 W) : Wi W p l g s := by
  rcases h with ⟨rfl, rfl, rfl, rfl⟩ | ⟨rfl, rfl, rfl, rfl⟩
  · exact hF.b
  · exact hF.c
theorem is_sees (w : World) (pb pc r1 r2 D : Nat) (l1 g1 : Int) (s1 : Bool) (l2 g2 : Int) (s2 : Bool) (p : Nat) (l g : Int) (s : Bool) (W : World) (hS : Sees w pb pc r1 r2 D l1 g1 s1 l2 g2 s2 W) (hp : Which w pb pc r1 r2 D l1 g1 s1 l2 g2 s2 p l g s) :
    Calls Try.prog 16 #[.pointer (some ⟨p, 0, none⟩), .agg #[.int .u64 l, .int .u64 g, .bool s]] W fun e W' => e = .returned (.bool true) ∧ Sees w pb pc r1 r2 D l1 g1 s1 l2 g2 s2 W' :=
  (is_wi p l g s W (hp.wi hS.fin)).mono fun e W' q => ⟨q.1, Sees.of (hS.fin.bel q.2)⟩
theorem same_sees (w : World) (pb pc r1 r2 D : Nat) (l1 g1 : Int) (s1 : Bool) (l2 g2 : Int) (s2 : Bool) (p q : Nat) (l g : Int) (s : Bool) (l' g' : Int) (s' : Bool) (W : World) (hS : Sees w pb pc r1 r2 D l1 g1 s1 l2 g2 s2 W) (hp : Which w pb pc r1 r2 D l1 g1 s1 l2 g2 s2 p l g s) (hq : Which w pb pc r1 r2 D l1 g1 s1 l2 g2 s2 q l' g' s') :
    Calls Try.prog 23 #[.pointer (some ⟨p, 0, none⟩), .pointer (some ⟨q, 0, none⟩)] W fun e W' => e = .returned (.bool (eq3 l g s l' g' s')) ∧ Sees w pb pc r1 r2 D l1 g1 s1 l2 g2 s2 W' :=
  (Same_wi p q l g l' g' s s' W (hp.wi hS.fin) (hq.wi hS.fin)).mono fun e W' h => ⟨h.1, by obtain ⟨n, rfl⟩ := h.2; exact Sees.of (hS.fin.drewN n)⟩
theorem works_sees (w : World) (pb pc r1 r2 D : Nat) (l1 g1 : Int) (s1 : Bool) (l2 g2 : Int) (s2 : Bool) (W : World) (hS : Sees w pb pc r1 r2 D l1 g1 s1 l2 g2 s2 W) :
    Calls Try.prog 7 #[] W fun e W' => e = .returned (.bool true) ∧ Sees w pb pc r1 r2 D l1 g1 s1 l2 g2 s2 W' :=
  (works_true W).mono fun e W' q => ⟨q.1, Sees.of (hS.fin.bel q.2)⟩

def args (a0 a1 a2 a3 a4 a5 : Int) (ao : Option Addr) (n cap : Nat) (zero : Bool) : Array Value :=
  #[.slice ao n cap, .agg #[.int .i64 a0, .int .i64 a1, .int .u64 a2, .int .i64 a3, .int .i64 a4, .int .u64 a5], .bool zero]

set_option maxHeartbeats 1600000 in
set_option maxRecDepth 100000 in
theorem copies_out (a0 a1 a2 a3 a4 a5 : Int) (ao : Option Addr) (n cap : Nat) (zero : Bool) (w : World) (hn : n ≤ maxLen) (h : 30 < n) :
    Calls Try.prog 6 (args a0 a1 a2 a3 a4 a5 ao n cap zero) w (Yes w) := by
  unfold maxLen at hn
  unfold args
  have HW := Lib.hid works_true
  have HA := Lib.hid (Came.start w a0 a1 a2 a3 a4 a5)
  have t1 : decide (30 < n) = true := by simpa using h
  have t2 : decide ((30 : Int) < n) = true := by simp; omega
  refine (callsIn_wide (n := 5)).1 ?_
  refine callsIn_of_wp_marks Try.func6 rfl trivial ?_ rfl
  simp only [Try.ntmps6, List.size_toArray, List.length_cons, List.length_nil, Nat.reduceAdd, Nat.reduceSub, Array.replicate_succ, Array.replicate_zero, List.push_toArray, List.append_toArray, List.nil_append, List.cons_append]
  refine wpIn_wide.2 ?_
  go_wp2_with fail
  refine (HW.out _).mono ?_
  rintro e w' ⟨rfl, hb⟩
  have A1 := Lib.hid (HA.out.bel hb)
  obtain ⟨_, _, c6, f6⟩ := A1.out.cells
  clear hb HA
  go_wp2_with fail
  have hc5 := World.cell?_setCell_same' w' ⟨w.heap.size + 1, 0, none⟩ (.bool true) (by rw [c6]; rfl)
  refine ⟨.bool true, ?_, rfl, A1.out.below.setCell (p := ⟨w.heap.size + 1, 0, none⟩) (by simp) _⟩
  simp [results, Try.f6, go_sem, hc5]

set_option maxHeartbeats 6400000 in
set_option maxRecDepth 100000 in
theorem copies_in (a0 a1 a2 a3 a4 a5 : Int) (ao : Option Addr) (n cap : Nat) (zero : Bool) (zs : List (Int × Int × Int)) (w : World) (hn : n ≤ 30) (h1 : a1 ≤ 9223372036854775807) (h2 : 0 ≤ a2) (h4 : a4 ≤ 9223372036854775807) (h5 : 0 ≤ a5) (ha : Acts w ao n zs) :
    Calls Try.prog 6 (args a0 a1 a2 a3 a4 a5 ao n cap zero) w (Yes w) := by
  unfold args
  have HNum := Lib.hid num_any
  have HW := Lib.hid works_true
  have HAr := Lib.hid (Came.start w a0 a1 a2 a3 a4 a5)
  have t1 : decide (30 < n) = false := by simp; omega
  have t2 : decide ((30 : Int) < n) = false := by simp; omega
  have HA := Lib.hid ha
  clear ha
  refine (callsIn_wide (n := 5)).1 ?_
  refine callsIn_of_wp_marks Try.func6 rfl trivial ?_ rfl
  simp only [Try.ntmps6, List.size_toArray, List.length_cons, List.length_nil, Nat.reduceAdd, Nat.reduceSub, Array.replicate_succ, Array.replicate_zero, List.push_toArray, List.append_toArray, List.nil_append, List.cons_append]
  refine wpIn_wide.2 ?_
  go_wp2_with fail
  refine (New_wi _).mono ?_
  rintro e w3 ⟨rfl, hr, hb⟩
  obtain ⟨p, hp⟩ : ∃ p, p = ((w.alloc (.cells #[.int .i64 a0, .int .i64 a1, .int .u64 a2, .int .i64 a3, .int .i64 a4, .int .u64 a5] 53)).alloc (.cells #[.bool false] 4)).heap.size := ⟨_, rfl⟩
  rw [← hp] at hr ⊢
  have hpw : w.heap.size + 2 ≤ p := by have := HAr.out.lt; omega
  have hbA := (Below.refl _ w3).alloc (Nat.le_refl _) (.cells #[.int .u64 0, .int .u64 0, .bool false] 39)
  have A4 := Lib.hid ((HAr.out.bel hb).bel hbA)
  have R4 := Lib.hid (hr.below hbA)
  have K4 := Lib.hid (alloc_blk_new w3 (.cells #[.int .u64 0, .int .u64 0, .bool false] 39))
  have hpb : p < w3.heap.size := hr.lt
  obtain ⟨q, hq⟩ : ∃ q, q = w3.heap.size := ⟨_, rfl⟩
  have HQ := Lib.hid hq
  clear hb hbA hr HAr hp hq
  go_wp2_with fail
  rw [← HQ.out] at K4 hpb ⊢
  go_loopg [7, 9] n (fun gk v7 v9 wr => ∃ i : Nat, ∃ pi : Nat, ∃ l g : Int, ∃ s : Bool, v7 = .pointer (some ⟨pi, 0, none⟩) ∧ v9 = .int .i64 i ∧ i ≤ n ∧ gk = n - i ∧ w.heap.size + 2 ≤ pi ∧ pi ≠ q ∧ w.heap.size + 2 ≤ q ∧ Wi wr pi l g s ∧ Came w a0 a1 a2 a3 a4 a5 wr ∧ wr.heap[q]? = some (.cells #[.int .u64 l, .int .u64 g, .bool s] 39 (0, 0)))
  case atStart => exact ⟨0, p, 0, 0, false, rfl, rfl, by omega, rfl, by omega, by omega, by omega, R4.out, A4.out, K4.out⟩
  case round =>
    obtain ⟨i, pi, l, g, s, rfl, rfl, hin, hgk, g1, g2, g3, hr, hA, hK⟩ := hrel
    have HG := Lib.hid hgk
    have R := Lib.hid hr
    have A := Lib.hid hA
    have K := Lib.hid hK
    clear hgk hr hA hK A4 R4 K4
    by_cases hlt : i < n
    · obtain ⟨b, off, rfl, hbw, hcz⟩ := HA.out.2 (by omega)
      obtain ⟨what, hwhat⟩ : ∃ x, x = (zs.getD i (0, 0, 0)).1 := ⟨_, rfl⟩
      obtain ⟨m, hm⟩ : ∃ x, x = (zs.getD i (0, 0, 0)).2.1 := ⟨_, rfl⟩
      obtain ⟨d, hd⟩ : ∃ x, x = (zs.getD i (0, 0, 0)).2.2 := ⟨_, rfl⟩
      obtain ⟨z1, z2, z3, z4, z5⟩ := hcz i hlt
      rw [← hwhat] at z1
      rw [← hm] at z2 z4
      rw [← hd] at z3 z5
      have y1 := (A.out.below.cell (p := ⟨b, off + i * 3, none⟩) hbw).trans z1
      have y2 := (A.out.below.cell (p := ⟨b, off + i * 3 + 1, none⟩) hbw).trans z2
      have y3 := (A.out.below.cell (p := ⟨b, off + i * 3 + 2, none⟩) hbw).trans z3
      obtain ⟨l0, l1, l2, f0, f1, f2⟩ := three K.out
      have hlq := blk_lt K.out
      have hsz := A.out.lt
      have hpi := R.out.lt
      have hbr : b < wr.heap.size := by omega
      have HAct := Lib.hid (act_any pi l g what m d s wr.drew (R.out.drewN 1) z5 z4)
      clear hcz z1 z2 z3 z4 z5 hwhat hm hd
      go_upto_region 7 with fail
      refine wp_region_noPanic ?_
      go_region_with (go_at_call 15; refine HAct.out.mono ?_; rintro e w5 ⟨l', g', s', p', rfl, hr5, hm5, hp5⟩; have tt := (hm5.block q hlq (by show ¬ q = pi; omega)).trans K.out; obtain ⟨m0, m1, m2, n0, n1, n2⟩ := three tt; have TT := Lib.hid tt; have R5 := Lib.hid hr5; have M5 := Lib.hid hm5; have P5 := Lib.hid hp5; clear hr5 hm5 hp5 tt)
      all_goals
        refine NoPanic.normal ?_
        go_wp2_with fail
        obtain ⟨s1, s2⟩ := set3 TT.out (.int .u64 l') (.int .u64 g') (.bool s')
        have P6 : p' = pi ∨ wr.heap.size ≤ p' := P5.out
        have hA5 := A.out.mod (S := fun q => q = pi) (W' := w5) ⟨M5.out.os, M5.out.tape, M5.out.output, M5.out.size, fun k hk hn => M5.out.block k hk hn⟩ (fun k hk e => by omega)
        go_roundg (n - (i + 1))
        case measure => have := HG.out; omega
        case rel => exact ⟨i + 1, p', l', g', s', rfl, by go_num, by omega, rfl, by omega, by omega, g3, R5.out.mod s2 (by show ¬ p' = q; omega), hA5.mod s2 (fun k hk e => by omega), s1⟩
    · obtain rfl : i = n := by omega
      have HC := Lib.hid (Copy_wi pi l g s wr R.out)
      go_wp2_with fail
      refine HC.out.mono ?_
      rintro e w5 ⟨pc, rfl, hpc, hr5, hb5⟩
      have hs1 := R.out.lt
      have hs2 := hb5.size
      have hs3 := A.out.lt
      have hs4 := blk_lt K.out
      have hpc1 : pi < pc ∧ q < pc ∧ w.heap.size + 2 ≤ pc := by omega
      have C5 := Lib.hid hr5
      have B5 := Lib.hid (R.out.below hb5)
      have A5 := Lib.hid (A.out.bel hb5)
      have K5 := Lib.hid ((hb5.block q hs4).trans K.out)
      have hpc5 := hr5.lt
      clear hr5 hb5 R A K HC hpc
      obtain ⟨⟨c0, c1, c2⟩, ⟨c3, c4, c5⟩, c6, f6⟩ := A5.out.cells
      obtain ⟨l0, l1, l2, f0, f1, f2⟩ := three K5.out
      have HAct := Lib.hid (act_any pi l g a0 a1 a2 s w5 B5.out h2 h1)
      go_wp2_with fail
      refine HAct.out.mono ?_
      rintro e w6 ⟨l1', g1', s1', pb, rfl, hr6, hm6, hp6⟩
      go_upto_region 10 with fail
      have hbA := (Below.refl _ w6).alloc (Nat.le_refl _) (.cells #[.int .u64 l1', .int .u64 g1', .bool s1'] 39)
      have hs6 := hm6.size
      have A6 := Lib.hid ((A5.out.mod hm6 (fun k hk e => by omega)).bel hbA)
      have B6 := Lib.hid (hr6.below hbA)
      have C6 := Lib.hid ((C5.out.mod hm6 (by show ¬ pc = pi; omega)).below hbA)
      have K6 := Lib.hid ((hbA.block q (by omega)).trans ((hm6.block q (by omega) (by show ¬ q = pi; omega)).trans K5.out))
      have X6 := Lib.hid (alloc_blk_new w6 (.cells #[.int .u64 l1', .int .u64 g1', .bool s1'] 39))
      have hpb6 := hr6.lt
      have hpbc : pb ≠ pc ∧ pb ≠ q ∧ w.heap.size + 2 ≤ pb := by omega
      obtain ⟨r1, hr1⟩ : ∃ r, r = w6.heap.size := ⟨_, rfl⟩
      have hr1c : pc < r1 ∧ pb < r1 := by omega
      obtain ⟨W6, hW6⟩ : ∃ W, W = w6.alloc (.cells #[.int .u64 l1', .int .u64 g1', .bool s1'] 39) := ⟨_, rfl⟩
      have hz6 : W6.heap.size = r1 + 1 := by rw [hW6, hr1]; simp
      rw [← hr1, ← hW6] at X6
      rw [← hW6] at A6 B6 C6 K6
      rw [← hr1, ← hW6]
      clear hr6 hm6 hp6 A5 B5 C5 K5 HAct c0 c1 c2 c3 c4 c5 c6 f6 l0 l1 l2 f0 f1 f2 hbA hr1 hW6 hs6 hpb6 hs1 hs2 hs3 hs4 hpc5
      obtain ⟨⟨c0, c1, c2⟩, ⟨c3, c4, c5⟩, c6, f6⟩ := A6.out.cells
      obtain ⟨l0, l1, l2, f0, f1, f2⟩ := three K6.out
      have HAct := Lib.hid (act_any pc l g a3 a4 a5 s W6 C6.out h5 h4)
      have HZ6 := Lib.hid hz6
      clear hz6
      go_wp2_with fail
      refine HAct.out.mono ?_
      rintro e w7 ⟨l2', g2', s2', pc', rfl, hr7, hm7, hp7⟩
      go_upto_region 11 with fail
      have hs7 := hm7.size
      have hz6 := HZ6.out
      have hbA := (Below.refl _ w7).alloc (Nat.le_refl _) (.cells #[.int .u64 l2', .int .u64 g2', .bool s2'] 39)
      have A7 := Lib.hid ((A6.out.mod hm7 (fun k hk e => by omega)).bel hbA)
      have B7 := Lib.hid ((B6.out.mod hm7 (by show ¬ pb = pc; omega)).below hbA)
      have C7 := Lib.hid (hr7.below hbA)
      have X7 := Lib.hid ((hbA.block r1 (by omega)).trans ((hm7.block r1 (by omega) (by show ¬ r1 = pc; omega)).trans X6.out))
      have Y7 := Lib.hid (alloc_blk_new w7 (.cells #[.int .u64 l2', .int .u64 g2', .bool s2'] 39))
      have hpc7 : w.heap.size + 2 ≤ pc' := by omega
      obtain ⟨r2, hr2⟩ : ∃ r, r = w7.heap.size := ⟨_, rfl⟩
      have hr2c : r1 < r2 := by omega
      obtain ⟨W7, hW7⟩ : ∃ W, W = w7.alloc (.cells #[.int .u64 l2', .int .u64 g2', .bool s2'] 39) := ⟨_, rfl⟩
      rw [← hr2, ← hW7] at Y7
      rw [← hW7] at A7 B7 C7 X7
      rw [← hr2, ← hW7]
      clear hr7 hm7 A6 B6 C6 K6 X6 HAct c0 c1 c2 c3 c4 c5 c6 f6 l0 l1 l2 f0 f1 f2 hbA hr2 hW7 hs7 hp7 hz6 HZ6
      go_upto_region 12 with fail
      go_upto_if 66 with fail
      go_cut [15] from 66 to 68 (fun v15 wx => ∃ a, v15 = .pointer a ∧ Nil wx a ∧ Below W7.heap.size W7 wx)
      case first =>
        cases zero with
        | true =>
          go_wp2
          go_meet
          refine ⟨some ⟨W7.heap.size, 0, none⟩, rfl, .inr ⟨_, rfl, by simp, ?_⟩, (Below.refl _ W7).alloc (Nat.le_refl _) _⟩
          exact cell_blk (alloc_blk_new W7 (.cells #[.int .u64 0, .int .u64 0, .bool false, .bool false] 58)) 3 _ rfl
        | false =>
          go_wp2
          go_meet
          exact ⟨none, rfl, .inl rfl, Below.refl _ _⟩
      case rest =>
        obtain ⟨a, rfl, hN, hB⟩ := hcut
        have A8 := Lib.hid (A7.out.bel hB)
        have B8 := Lib.hid (B7.out.below hB)
        have C8 := Lib.hid (C7.out.below hB)
        have X8 := Lib.hid ((hB.block r1 (blk_lt X7.out)).trans X7.out)
        have Y8 := Lib.hid ((hB.block r2 (blk_lt Y7.out)).trans Y7.out)
        clear hB A7 B7 C7 X7 Y7
        have HGr := Lib.hid (Grant_nil a 1 wc hN)
        have HTa := Lib.hid (Take_nil a 1 wc hN)
        have hbA := (Below.refl _ wc).alloc (Nat.le_refl _) (.cells #[.int .i64 1] 22)
        have HSh := Lib.hid (Share_nil a (some ⟨wc.heap.size, 0, none⟩) 1 1 _ (hN.below ((Below.refl _ wc).alloc (Nat.le_refl _) (.cells #[.int .i64 1] 3))))
        have HN := Lib.hid hN
        clear hN hbA
        go_wp2_with (first | (go_at_call 9; refine HGr.out.mono ?_; rintro e w' ⟨rfl, rfl⟩) | (go_at_call 11; refine HTa.out.mono ?_; rintro e w' ⟨rfl, rfl⟩) | (go_at_call 14; fail))
        have hbA := (Below.refl _ wc).alloc (Nat.le_refl _) (.cells #[.int .i64 1] 3)
        refine HSh.out.mono ?_
        rintro e w9 ⟨rfl, hb9⟩
        have hb := hbA.trans (hb9.mono (by simp))
        have A9 := Lib.hid (A8.out.bel hb)
        have B9 := Lib.hid (B8.out.below hb)
        have C9 := Lib.hid (C8.out.below hb)
        have X9 := Lib.hid ((hb.block r1 (blk_lt X8.out)).trans X8.out)
        have Y9 := Lib.hid ((hb.block r2 (blk_lt Y8.out)).trans Y8.out)
        have hN9 := HN.out.below hb
        have HSs := Lib.hid (Shares_nil a (some ⟨w9.heap.size, 0, none⟩) 1 1 _ (hN9.below ((Below.refl _ w9).alloc (Nat.le_refl _) (.cells #[.int .i64 1] 3))))
        have hbA2 := Lib.hid ((Below.refl _ w9).alloc (Nat.le_refl _) (.cells #[.int .i64 1] 3))
        have HN9 := Lib.hid hN9
        clear hb hb9 hbA A8 B8 C8 X8 Y8 HN HGr HTa HSh hN9
        go_wp2_with fail
        refine HSs.out.mono ?_
        rintro e w4 ⟨B, hBl, rfl, hc4, hl4, hb4⟩
        have hb5 := hbA2.out.trans (hb4.mono (by simp))
        have HN4 := Lib.hid (HN9.out.below hb5)
        have A4 := Lib.hid (A9.out.bel hb5)
        have B4 := Lib.hid (B9.out.below hb5)
        have C4 := Lib.hid (C9.out.below hb5)
        have X4 := Lib.hid ((hb5.block r1 (blk_lt X9.out)).trans X9.out)
        have Y4 := Lib.hid ((hb5.block r2 (blk_lt Y9.out)).trans Y9.out)
        have HC4 := Lib.hid hc4
        have HL4 := Lib.hid hl4
        clear hc4 hl4 hb4 hb5 HSs HN9 A9 B9 C9 X9 Y9 hBl hbA2
        go_wp2_with fail
        refine (wpIn_wide (n := 5)).1 ?_
        refine' wpIn_rangeFunc_ownF (F := Fence.wide) rfl (by omega) (gf := 35) (lb := #[.pointer (some ⟨B, 0, none⟩)]) rfl trivial (enters_of Try.func35 (by kernel_rfl) rfl)
          (shares_stops Fence.wide 4 trivial rfl (by omega) B w4.heap.size none 0 0 [] (by omega) w4 HL4.out (Nat.le_refl _) HC4.out (fun h => absurd h (by omega))) belowK_t (belowK_b (Nat.le_refl _)) (Below.refl _ _) (fun _ => rfl)
          (fun _ W => Below w4.heap.size w4 W) (fun _ _ _ => False) (ownFrom_below (Nat.le_refl _) (Nat.le_refl _)) (fun _ _ _ _ _ hs _ _ => hs) (Below.refl _ _) _ (fun l x W K hK => wpIn_skip hK) ?body ?done ?stop
        case body =>
          intro l pre x W hI hlt
          exact absurd hlt (by omega)
        case stop =>
          rintro D c pre W _ _ h _
          exact h.elim
        case done =>
          rintro D ys w5 hD rfl hI hKd
          have hN5 : Nil w5 a := HN4.out.below hI
          have hA4 := A4.out.bel hI
          have hlt4 := A4.out.lt
          have hF5 : Fin w pb pc' r1 r2 D l1' g1' s1' l2' g2' s2' w5 := ⟨B4.out.below hI, C4.out.below hI, (hI.block _ (blk_lt X4.out)).trans X4.out, (hI.block _ (blk_lt Y4.out)).trans Y4.out, hKd, ⟨_, hA4.r⟩, hA4.below, by omega⟩
          have H1 := Lib.hid (Shut_nil a w5 hN5)
          have H2 := Lib.hid (Open_nil a w5 hN5)
          have H3 := Lib.hid (Left_nil a w5 hN5)
          have H4 := Lib.hid (Gone_nil a w5 hN5)
          have H5 := Lib.hid (Copy_nil a w5 hN5)
          have H6 := Lib.hid (Same_nil a none w5 hN5 (.inl rfl))
          have H7 := Lib.hid (Same_one pb l1' g1' s1' a w5 hF5.b hN5)
          have HF5 := Lib.hid hF5
          clear hN5 hA4 hI hKd hF5 HN4 A4 B4 C4 X4 Y4 HC4 HL4 hD hlt4
          go_wp2_with (first | (go_at_call 10; refine (HNum.out _ _).mono ?_; rintro e w' ⟨rfl, rfl⟩) | (go_at_call 21; refine H1.out.mono ?_; rintro e w' ⟨rfl, rfl⟩) | (go_at_call 22; refine H2.out.mono ?_; rintro e w' ⟨rfl, rfl⟩) | (go_at_call 13; refine H3.out.mono ?_; rintro e w' ⟨rfl, rfl⟩) | (go_at_call 12; refine H4.out.mono ?_; rintro e w' ⟨rfl, rfl⟩) | (go_at_call 20; refine H5.out.mono ?_; rintro e w' ⟨rfl, rfl⟩) | (go_at_call 23; refine H6.out.mono ?_; clear H6; rintro e w' ⟨rfl, rfl⟩) | (go_at_call 23; fail))
          refine H7.out.mono ?_
          rintro e w' ⟨rfl, rfl⟩
          clear H1 H2 H3 H4 H5 H7
          go_upto_region 24 with fail
          have hF0 : Fin w pb pc' r1 r2 D l1' g1' s1' l2' g2' s2' w5.drew := HF5.out.drewN 1
          have hS0 : Sees w pb pc' r1 r2 D l1' g1' s1' l2' g2' s2' w5.drew := Sees.of hF0
          have HIs := Lib.hid (is_sees w pb pc' r1 r2 D l1' g1' s1' l2' g2' s2')
          have HSm := Lib.hid (same_sees w pb pc' r1 r2 D l1' g1' s1' l2' g2' s2')
          have HWk := Lib.hid (works_sees w pb pc' r1 r2 D l1' g1' s1' l2' g2' s2')
          have hsy := eq3_symm l2' g2' s2' l1' g1' s1'
          have hput : ∀ (W : World) (v : Value), Sees w pb pc' r1 r2 D l1' g1' s1' l2' g2' s2' W → Sees w pb pc' r1 r2 D l1' g1' s1' l2' g2' s2' (W.setCell ⟨w.heap.size + 1, 0, none⟩ v) := fun W v h => Sees.of (h.fin.put v)
          clear hF0 HF5 HW HA
          go_region_held3 (fun W => ((W.cell? ⟨r1, 0, none⟩ = some (.int .u64 l1') ∧ W.cell? ⟨r1, 1, none⟩ = some (.int .u64 g1') ∧ W.cell? ⟨r1, 2, none⟩ = some (.bool s1')) ∧ (W.cell? ⟨r2, 0, none⟩ = some (.int .u64 l2') ∧ W.cell? ⟨r2, 1, none⟩ = some (.int .u64 g2') ∧ W.cell? ⟨r2, 2, none⟩ = some (.bool s2')) ∧ Fin w pb pc' r1 r2 D l1' g1' s1' l2' g2' s2' W)) (first | assumption | exact hput _ _ (by assumption)) (first | (go_at_call 16; refine (HIs.out _ _ _ _ _ (by assumption) (by first | exact Or.inl ⟨rfl, rfl, rfl, rfl⟩ | exact Or.inr ⟨rfl, rfl, rfl, rfl⟩)).mono ?_; rintro e w' ⟨rfl, hS⟩; obtain ⟨v, hv, hf⟩ := hS.fin.res) | (go_at_call 23; refine (HSm.out _ _ _ _ _ _ _ _ _ (by assumption) (by first | exact Or.inl ⟨rfl, rfl, rfl, rfl⟩ | exact Or.inr ⟨rfl, rfl, rfl, rfl⟩) (by first | exact Or.inl ⟨rfl, rfl, rfl, rfl⟩ | exact Or.inr ⟨rfl, rfl, rfl, rfl⟩)).mono ?_; rintro e w' ⟨rfl, hS⟩; obtain ⟨v, hv, hf⟩ := hS.fin.res) | (go_at_call 7; refine (HWk.out _ (by assumption)).mono ?_; rintro e w' ⟨rfl, hS⟩; obtain ⟨v, hv, hf⟩ := hS.fin.res))
          all_goals
            go_wp2
            have hFf : Fin w pb pc' r1 r2 D l1' g1' s1' l2' g2' s2' (w'.setCell ⟨w.heap.size + 1, 0, none⟩ (.bool true)) := (hput w' (.bool true) hS).fin
            have hDn := hFf.n
            have hd := hFf.d
            have hc5 := cell_kept (World.cell?_setCell_same' w' ⟨w.heap.size + 1, 0, none⟩ (.bool true) (by rw [hv]; rfl)) (grownBy_putObj' _ D (.deferred none)) (fun r e => by cases e; exact ⟨_, hd, rfl⟩)
            refine ⟨by simp, .inl ⟨_, _, rfl, run_takeDeferred hd, ?_⟩⟩
            refine ⟨.bool true, ?_, rfl, hFf.below.trans (belowK_b (w := w) (Nat.le_refl _) _ D _ _ (by omega) hd rfl rfl)⟩
            simp [results, Try.f6, go_sem, hc5]
end Go.Proofs.Ytagdenhcbafblaa
