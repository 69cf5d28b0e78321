/-
  WindowShares, walked: where its boxes lie; the ways out.
-/
import Derived.Test.YtagdenhcbafblaaSc
import Derived.Deep.CutBlock
namespace Go.Proofs.Ytagdenhcbafblaa
open Go.RowKit Go.Shelf
set_option linter.unusedVariables false
set_option linter.unusedSimpArgs false
attribute [local go_sem] Oper.semAt_some

theorem run_eql_func49 (f : Fn) (x y : Array Value) (w : World) : (binOp .eql 49 (.func f x y) .nilFunc).run Try.prog w = .ok (.bool false) w := by
  have h : ∀ d : Nat, (Op.equalIn (d + 1) 49 (.func f x y) .nilFunc).run Try.prog w = .ok false w := fun d => by
    simp [Op.equalIn, run_underlying Try.underlying49]
  simp only [binOp]
  simp [Op.equal, Op.maxDepth, h 9999]

/-- Where the boxes of what came in and of the answer lie. -/
structure Cm (w : World) (many what m d : Int) (W : World) : Prop where
  mm : W.heap[w.heap.size]? = some (.cells #[.int .i64 many] 3 (0, 0))
  x : W.heap[w.heap.size + 1]? = some (.cells #[.int .i64 what, .int .i64 m, .int .u64 d] 43 (0, 0))
  r : W.heap[w.heap.size + 2]? = some (.cells #[.bool false] 4 (0, 0))
  below : Below w.heap.size w W
theorem Cm.lt {w W : World} {many what m d : Int} (h : Cm w many what m d W) : w.heap.size + 2 < W.heap.size := blk_lt h.r
theorem Cm.mod {w W W' : World} {S : Nat → Prop} {many what m d : Int} (h : Cm w many what m d W) (hm : Mod S W W') (hs : ∀ k, k < w.heap.size + 3 → ¬ S k) : Cm w many what m d W' := by
  have hl := h.lt
  exact ⟨(hm.block _ (by omega) (hs _ (by omega))).trans h.mm, (hm.block _ (by omega) (hs _ (by omega))).trans h.x, (hm.block _ (by omega) (hs _ (by omega))).trans h.r,
    ⟨hm.os.trans h.below.os, hm.tape.trans h.below.tape, hm.output.trans h.below.output, Nat.le_trans h.below.size hm.size, fun k hk => (hm.block k (by omega) (hs k (by omega))).trans (h.below.block k hk)⟩⟩
theorem Cm.bel {w W W' : World} {many what m d : Int} (h : Cm w many what m d W) (hb : Below W.heap.size W W') : Cm w many what m d W' :=
  h.mod (Mod.of_below hb (fun _ => False)) (fun _ _ h => h)
def cmStart (w : World) (many what m d : Int) : World := ((w.alloc (.cells #[.int .i64 many] 3)).alloc (.cells #[.int .i64 what, .int .i64 m, .int .u64 d] 43)).alloc (.cells #[.bool false] 4)
theorem Cm.start (w : World) (many what m d : Int) : Cm w many what m d (cmStart w many what m d) := by
  unfold cmStart
  have s1 : ∀ (W : World) (o : Obj), (W.alloc o).heap.size = W.heap.size + 1 := fun W o => by simp
  obtain ⟨W1, h1⟩ : ∃ W, W = w.alloc (.cells #[.int .i64 many] 3) := ⟨_, rfl⟩
  obtain ⟨W2, h2⟩ : ∃ W, W = W1.alloc (.cells #[.int .i64 what, .int .i64 m, .int .u64 d] 43) := ⟨_, rfl⟩
  have z1 : W1.heap.size = w.heap.size + 1 := by rw [h1]; exact s1 _ _
  have z2 : W2.heap.size = w.heap.size + 2 := by rw [h2, s1, z1]
  have b1 : W1.heap[w.heap.size]? = some (.cells #[.int .i64 many] 3 (0, 0)) := by rw [h1]; exact alloc_blk_new _ _
  have b2 : W2.heap[w.heap.size + 1]? = some (.cells #[.int .i64 what, .int .i64 m, .int .u64 d] 43 (0, 0)) := by rw [h2, ← z1]; exact alloc_blk_new _ _
  rw [← h1, ← h2]
  refine ⟨?_, alloc_blk b2 _, ?_, ?_⟩
  · have := alloc_blk b1 (.cells #[.int .i64 what, .int .i64 m, .int .u64 d] 43)
    rw [← h2] at this
    exact alloc_blk this _
  · rw [← z2]; exact alloc_blk_new _ _
  · have c1 : Below w.heap.size w W1 := by rw [h1]; exact (Below.refl _ w).alloc (Nat.le_refl _) _
    have c2 : Below w.heap.size w W2 := by rw [h2]; exact c1.alloc (by omega) _
    exact c2.alloc (by omega) _
theorem Cm.cells {w W : World} {many what m d : Int} (h : Cm w many what m d W) :
    W.cell? ⟨w.heap.size, 0, none⟩ = some (.int .i64 many) ∧ (W.cell? ⟨w.heap.size + 1, 0, none⟩ = some (.int .i64 what) ∧ W.cell? ⟨w.heap.size + 1, 1, none⟩ = some (.int .i64 m) ∧ W.cell? ⟨w.heap.size + 1, 2, none⟩ = some (.int .u64 d)) ∧
    W.cell? ⟨w.heap.size + 1 + 1, 0, none⟩ = some (.bool false) ∧ W.frozen? ⟨w.heap.size + 1 + 1, 0, none⟩ = false :=
  ⟨cell_blk h.mm 0 _ rfl, ⟨cell_blk h.x 0 _ rfl, cell_blk h.x 1 _ rfl, cell_blk h.x 2 _ rfl⟩, cell_blk h.r 0 _ rfl, frozen_blk h.r 0⟩

def sargs (many what m d : Int) (ao : Option Addr) (n cap : Nat) (bo : Option Addr) (k bcap : Nat) : Array Value :=
  #[.slice ao n cap, .slice bo k bcap, .int .i64 many, .agg #[.int .i64 what, .int .i64 m, .int .u64 d]]

set_option maxHeartbeats 1600000 in
set_option maxRecDepth 100000 in
theorem shares_out (many what m d : Int) (ao : Option Addr) (n cap : Nat) (bo : Option Addr) (k bcap : Nat) (w : World) (hn : n ≤ maxLen) (hk : k ≤ maxLen) (h : 20 < n ∨ (n ≤ 20 ∧ 30 < k)) :
    Calls Try.prog 5 (sargs many what m d ao n cap bo k bcap) w (Yes w) := by
  unfold maxLen at hn hk
  unfold sargs
  have HW := Lib.hid works_true
  have HA := Lib.hid (Cm.start w many what m d)
  unfold cmStart at HA
  rcases h with h | ⟨h, h2⟩
  · have t1 : decide (20 < n) = true := by simpa using h
    have t2 : decide ((20 : Int) < n) = true := by simp; omega
    refine (callsIn_wide (n := 5)).1 ?_
    refine callsIn_of_wp_marks Try.func5 rfl trivial ?_ rfl
    simp only [Try.ntmps5, List.size_toArray, List.length_cons, List.length_nil, Nat.reduceAdd, Nat.reduceSub, Array.replicate_succ, Array.replicate_zero, List.push_toArray, List.append_toArray, List.nil_append, List.cons_append]
    refine wpIn_wide.2 ?_
    go_wp2_with (go_at_call 7; fail)
    refine (HW.out _).mono ?_
    rintro e w' ⟨rfl, hb⟩
    have A1 := Lib.hid (HA.out.bel hb)
    obtain ⟨_, _, c6, f6⟩ := A1.out.cells
    clear hb HA
    go_wp2_with fail
    have hc5 := World.cell?_setCell_same' w' ⟨w.heap.size + 1 + 1, 0, none⟩ (.bool true) (by rw [c6]; rfl)
    refine ⟨.bool true, ?_, rfl, A1.out.below.setCell (p := ⟨w.heap.size + 1 + 1, 0, none⟩) (by simp; omega) _⟩
    simp [results, Try.f5, go_sem, hc5]
  · have t1 : decide (20 < n) = false := by simp; omega
    have t2 : decide ((20 : Int) < n) = false := by simp; omega
    have t3 : decide (30 < k) = true := by simpa using h2
    have t4 : decide ((30 : Int) < k) = true := by simp; omega
    refine (callsIn_wide (n := 5)).1 ?_
    refine callsIn_of_wp_marks Try.func5 rfl trivial ?_ rfl
    simp only [Try.ntmps5, List.size_toArray, List.length_cons, List.length_nil, Nat.reduceAdd, Nat.reduceSub, Array.replicate_succ, Array.replicate_zero, List.push_toArray, List.append_toArray, List.nil_append, List.cons_append]
    refine wpIn_wide.2 ?_
    go_wp2_with (go_at_call 7; fail)
    refine (HW.out _).mono ?_
    rintro e w' ⟨rfl, hb⟩
    have A1 := Lib.hid (HA.out.bel hb)
    obtain ⟨_, _, c6, f6⟩ := A1.out.cells
    clear hb HA
    go_wp2_with fail
    have hc5 := World.cell?_setCell_same' w' ⟨w.heap.size + 1 + 1, 0, none⟩ (.bool true) (by rw [c6]; rfl)
    refine ⟨.bool true, ?_, rfl, A1.out.below.setCell (p := ⟨w.heap.size + 1 + 1, 0, none⟩) (by simp; omega) _⟩
    simp [results, Try.f5, go_sem, hc5]

theorem range_cut {P : Program} {c : Code} {K : Act → World → Prop} {Q' : Exit → Act → World → Prop} {a : Act} {w : World} (R : Nat → World → Prop)
    (first : c.wp P (fun e a' W => e = .normal ∧ ∃ D, a' = { a with defers := { target := .collected D, args := #[] } :: a.defers } ∧ R D W) a w)
    (rest : ∀ D W, R D W → K { a with defers := { target := .collected D, args := #[] } :: a.defers } W) : c.wp P (Exit.then K Q') a w :=
  wp_mono first (fun e a' W h => by obtain ⟨rfl, D, rfl, hr⟩ := h; exact rest D W hr)
theorem prefix_more {α : Type} (T l : List α) (x : α) (h : l <+: T) : (l ++ [x] <+: T) ↔ T[l.length]? = some x := by
  obtain ⟨r, rfl⟩ := h
  rw [List.prefix_append_right_inj]
  cases r with
  | nil => simp
  | cons y ys => simp [List.cons_prefix_cons, eq_comm]
theorem alloc_other {W : World} {D : Nat} {x : Obj} (h : W.heap[D]? = some x) (o : Obj) : (W.alloc o).heap[D]? = some x :=
  (Below.heap_alloc W o D (Array.getElem?_eq_some_iff.1 h).1).trans h
end Go.Proofs.Ytagdenhcbafblaa
