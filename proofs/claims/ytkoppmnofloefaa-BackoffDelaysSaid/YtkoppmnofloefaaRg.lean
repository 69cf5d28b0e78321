/-
  BackoffDelays, walked.
-/
import Derived.Test.YtkoppmnofloefaaRf
import Derived.Test.YtkoppmnofloefaaX
import Derived.Deep.CutBlock
namespace Go.Proofs.Ytkoppmnofloefaa
open Go.RowKit Go.Shelf
set_option linter.unusedVariables false
set_option linter.unusedSimpArgs false
attribute [local go_sem] Oper.semAt_some

theorem run_eql_func52 (f : Fn) (x y : Array Value) (w : World) : (binOp .eql 52 (.func f x y) .nilFunc).run Try.prog w = .ok (.bool false) w := by
  have h : ∀ d : Nat, (Op.equalIn (d + 1) 52 (.func f x y) .nilFunc).run Try.prog w = .ok false w := fun d => by
    simp [Op.equalIn, run_underlying Try.underlying52]
  simp only [binOp]
  simp [Op.equal, Op.maxDepth, h 9999]
attribute [local go_sem] run_eql_func52

/-- Where the boxes of what came in and of the answer lie. -/
structure Cm (w : World) (L M J many what d : Int) (W : World) : Prop where
  a : W.heap[w.heap.size]? = some (.cells #[.int .u64 L, .int .u64 M, .int .u64 J] 24 (0, 0))
  m : W.heap[w.heap.size + 1]? = some (.cells #[.int .i64 many] 3 (0, 0))
  x : W.heap[w.heap.size + 2]? = some (.cells #[.int .i64 what, .int .u64 d] 43 (0, 0))
  r : W.heap[w.heap.size + 3]? = some (.cells #[.bool false] 4 (0, 0))
  below : Below w.heap.size w W
theorem Cm.lt {w W : World} {L M J many what d : Int} (h : Cm w L M J many what d W) : w.heap.size + 3 < W.heap.size := blk_lt h.r
theorem Cm.mod {w W W' : World} {S : Nat → Prop} {L M J many what d : Int} (h : Cm w L M J many what d W) (hm : Mod S W W') (hs : ∀ k, k < w.heap.size + 4 → ¬ S k) : Cm w L M J many what d W' := by
  have hl := h.lt
  exact ⟨(hm.block _ (by omega) (hs _ (by omega))).trans h.a, (hm.block _ (by omega) (hs _ (by omega))).trans h.m, (hm.block _ (by omega) (hs _ (by omega))).trans h.x, (hm.block _ (by omega) (hs _ (by omega))).trans h.r,
    ⟨hm.os.trans h.below.os, hm.tape.trans h.below.tape, hm.output.trans h.below.output, Nat.le_trans h.below.size hm.size, fun k hk => (hm.block k (by omega) (hs k (by omega))).trans (h.below.block k hk)⟩⟩
theorem Cm.bel {w W W' : World} {L M J many what d : Int} (h : Cm w L M J many what d W) (hb : Below W.heap.size W W') : Cm w L M J many what d W' :=
  h.mod (Mod.of_below hb (fun _ => False)) (fun _ _ h => h)
def cmStart (w : World) (L M J many what d : Int) : World := (((w.alloc (.cells #[.int .u64 L, .int .u64 M, .int .u64 J] 24)).alloc (.cells #[.int .i64 many] 3)).alloc (.cells #[.int .i64 what, .int .u64 d] 43)).alloc (.cells #[.bool false] 4)
theorem Cm.start (w : World) (L M J many what d : Int) : Cm w L M J many what d (cmStart w L M J many what d) := by
  unfold cmStart
  have s1 : ∀ (W : World) (o : Obj), (W.alloc o).heap.size = W.heap.size + 1 := fun W o => by simp
  obtain ⟨W1, h1⟩ : ∃ W, W = w.alloc (.cells #[.int .u64 L, .int .u64 M, .int .u64 J] 24) := ⟨_, rfl⟩
  obtain ⟨W2, h2⟩ : ∃ W, W = W1.alloc (.cells #[.int .i64 many] 3) := ⟨_, rfl⟩
  obtain ⟨W3, h3⟩ : ∃ W, W = W2.alloc (.cells #[.int .i64 what, .int .u64 d] 43) := ⟨_, rfl⟩
  have z1 : W1.heap.size = w.heap.size + 1 := by rw [h1]; exact s1 _ _
  have z2 : W2.heap.size = w.heap.size + 2 := by rw [h2, s1, z1]
  have z3 : W3.heap.size = w.heap.size + 3 := by rw [h3, s1, z2]
  have b1 : W1.heap[w.heap.size]? = some (.cells #[.int .u64 L, .int .u64 M, .int .u64 J] 24 (0, 0)) := by rw [h1]; exact alloc_blk_new _ _
  have b2 : W2.heap[w.heap.size + 1]? = some (.cells #[.int .i64 many] 3 (0, 0)) := by rw [h2, ← z1]; exact alloc_blk_new _ _
  have b3 : W3.heap[w.heap.size + 2]? = some (.cells #[.int .i64 what, .int .u64 d] 43 (0, 0)) := by rw [h3, ← z2]; exact alloc_blk_new _ _
  rw [← h1, ← h2, ← h3]
  refine ⟨?_, ?_, alloc_blk b3 _, ?_, ?_⟩
  · have := alloc_blk b1 (.cells #[.int .i64 many] 3)
    rw [← h2] at this
    have := alloc_blk this (.cells #[.int .i64 what, .int .u64 d] 43)
    rw [← h3] at this
    exact alloc_blk this _
  · have := alloc_blk b2 (.cells #[.int .i64 what, .int .u64 d] 43)
    rw [← h3] at this
    exact alloc_blk this _
  · rw [← z3]; exact alloc_blk_new _ _
  · have c1 : Below w.heap.size w W1 := by rw [h1]; exact (Below.refl _ w).alloc (Nat.le_refl _) _
    have c2 : Below w.heap.size w W2 := by rw [h2]; exact c1.alloc (by omega) _
    have c3 : Below w.heap.size w W3 := by rw [h3]; exact c2.alloc (by omega) _
    exact c3.alloc (by omega) _
theorem Cm.cells {w W : World} {L M J many what d : Int} (h : Cm w L M J many what d W) :
    (W.cell? ⟨w.heap.size, 0, none⟩ = some (.int .u64 L) ∧ W.cell? ⟨w.heap.size, 1, none⟩ = some (.int .u64 M) ∧ W.cell? ⟨w.heap.size, 2, none⟩ = some (.int .u64 J)) ∧
    W.cell? ⟨w.heap.size + 1, 0, none⟩ = some (.int .i64 many) ∧ (W.cell? ⟨w.heap.size + 1 + 1, 0, none⟩ = some (.int .i64 what) ∧ W.cell? ⟨w.heap.size + 1 + 1, 1, none⟩ = some (.int .u64 d)) ∧
    W.cell? ⟨w.heap.size + 1 + 1 + 1, 0, none⟩ = some (.bool false) ∧ W.frozen? ⟨w.heap.size + 1 + 1 + 1, 0, none⟩ = false :=
  ⟨⟨cell_blk h.a 0 _ rfl, cell_blk h.a 1 _ rfl, cell_blk h.a 2 _ rfl⟩, cell_blk h.m 0 _ rfl, ⟨cell_blk h.x 0 _ rfl, cell_blk h.x 1 _ rfl⟩, cell_blk h.r 0 _ rfl, frozen_blk h.r 0⟩

def dargs (L M J many what d : Int) (ao : Option Addr) (n cap : Nat) (bo : Option Addr) (m bcap : Nat) : Array Value :=
  #[.agg #[.int .u64 L, .int .u64 M, .int .u64 J], .slice ao n cap, .slice bo m bcap, .int .i64 many, .agg #[.int .i64 what, .int .u64 d]]

set_option maxHeartbeats 1600000 in
set_option maxRecDepth 100000 in
theorem delays_out (L M J many what d : Int) (ao : Option Addr) (n cap : Nat) (bo : Option Addr) (m bcap : Nat) (w : World) (hn : n ≤ maxLen) (hm : m ≤ maxLen) (h : 80 < n ∨ (n ≤ 80 ∧ 70 < m) ∨ (n ≤ 80 ∧ m ≤ 70 ∧ okW L M J = false)) :
    Calls Try.prog 6 (dargs L M J many what d ao n cap bo m bcap) w (Yes w) := by
  unfold maxLen at hn hm
  unfold dargs
  have HW := Lib.hid works_true
  have HA := Lib.hid (Cm.start w L M J many what d)
  have HRt := Lib.hid (refRight L M J)
  unfold cmStart at HA
  have END : ∀ (w' : World), Cm w L M J many what d w' → (∃ v, (results Try.f6 #[]).run Try.prog w' = .ok v w' → True) := fun _ _ => ⟨.bool true, fun _ => trivial⟩
  clear END
  rcases h with h | ⟨h, h2⟩ | ⟨h, h2, ho⟩
  · have t1 : decide (80 < n) = true := by simpa using h
    have t2 : decide ((80 : Int) < n) = true := by simp; omega
    refine (callsIn_wide (n := 5)).1 ?_
    refine callsIn_of_wp_marks Try.func6 rfl trivial ?_ rfl
    simp only [Try.ntmps6, List.size_toArray, List.length_cons, List.length_nil, Nat.reduceAdd, Nat.reduceSub, Array.replicate_succ, Array.replicate_zero, List.push_toArray, List.append_toArray, List.nil_append, List.cons_append]
    refine wpIn_wide.2 ?_
    go_wp2_with (go_at_call 8; fail)
    refine (HW.out _).mono ?_
    rintro e w' ⟨rfl, hb⟩
    have A1 := Lib.hid (HA.out.bel hb)
    obtain ⟨_, _, _, c6, f6⟩ := A1.out.cells
    clear hb HA
    go_wp2_with fail
    have hc5 := World.cell?_setCell_same' w' ⟨w.heap.size + 1 + 1 + 1, 0, none⟩ (.bool true) (by rw [c6]; rfl)
    refine ⟨.bool true, ?_, rfl, A1.out.below.setCell (p := ⟨w.heap.size + 1 + 1 + 1, 0, none⟩) (by simp; omega) _⟩
    simp [results, Try.f6, go_sem, hc5]
  · have t1 : decide (80 < n) = false := by simp; omega
    have t2 : decide ((80 : Int) < n) = false := by simp; omega
    have t3 : decide (70 < m) = true := by simpa using h2
    have t4 : decide ((70 : Int) < m) = true := by simp; omega
    refine (callsIn_wide (n := 5)).1 ?_
    refine callsIn_of_wp_marks Try.func6 rfl trivial ?_ rfl
    simp only [Try.ntmps6, List.size_toArray, List.length_cons, List.length_nil, Nat.reduceAdd, Nat.reduceSub, Array.replicate_succ, Array.replicate_zero, List.push_toArray, List.append_toArray, List.nil_append, List.cons_append]
    refine wpIn_wide.2 ?_
    go_wp2_with (go_at_call 8; fail)
    refine (HW.out _).mono ?_
    rintro e w' ⟨rfl, hb⟩
    have A1 := Lib.hid (HA.out.bel hb)
    obtain ⟨_, _, _, c6, f6⟩ := A1.out.cells
    clear hb HA
    go_wp2_with fail
    have hc5 := World.cell?_setCell_same' w' ⟨w.heap.size + 1 + 1 + 1, 0, none⟩ (.bool true) (by rw [c6]; rfl)
    refine ⟨.bool true, ?_, rfl, A1.out.below.setCell (p := ⟨w.heap.size + 1 + 1 + 1, 0, none⟩) (by simp; omega) _⟩
    simp [results, Try.f6, go_sem, hc5]
  · have t1 : decide (80 < n) = false := by simp; omega
    have t2 : decide ((80 : Int) < n) = false := by simp; omega
    have t3 : decide (70 < m) = false := by simp; omega
    have t4 : decide ((70 : Int) < m) = false := by simp; omega
    refine (callsIn_wide (n := 5)).1 ?_
    refine callsIn_of_wp_marks Try.func6 rfl trivial ?_ rfl
    simp only [Try.ntmps6, List.size_toArray, List.length_cons, List.length_nil, Nat.reduceAdd, Nat.reduceSub, Array.replicate_succ, Array.replicate_zero, List.push_toArray, List.append_toArray, List.nil_append, List.cons_append]
    refine wpIn_wide.2 ?_
    go_wp2_with fail
    refine (HRt.out _).mono ?_
    rintro e w2 ⟨rfl, hb⟩
    have A2 := Lib.hid (HA.out.bel hb)
    rw [ho]
    clear hb HA
    go_wp2_with (go_at_call 8; fail)
    refine (HW.out _).mono ?_
    rintro e w' ⟨rfl, hb⟩
    have A1 := Lib.hid (A2.out.bel hb)
    obtain ⟨_, _, _, c6, f6⟩ := A1.out.cells
    clear hb A2
    go_wp2_with fail
    have hc5 := World.cell?_setCell_same' w' ⟨w.heap.size + 1 + 1 + 1, 0, none⟩ (.bool true) (by rw [c6]; rfl)
    refine ⟨.bool true, ?_, rfl, A1.out.below.setCell (p := ⟨w.heap.size + 1 + 1 + 1, 0, none⟩) (by simp; omega) _⟩
    simp [results, Try.f6, go_sem, hc5]
end Go.Proofs.Ytkoppmnofloefaa
