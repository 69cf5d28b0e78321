/-
  BackoffCopies, walked: what came in; the ways out.
-/
import Derived.Test.YtkoppmnofloefaaV
import Derived.Test.YtkoppmnofloefaaT
namespace Go.Proofs.Ytkoppmnofloefaa
open Go.RowKit
set_option linter.unusedVariables false
set_option linter.unusedSimpArgs false

/-- Where the three boxes of what came in lie. -/
structure Arg (w : World) (L M J L' M' J' s0 d0 s1 d1 : Int) (W : World) : Prop where
  a : W.heap[w.heap.size]? = some (.cells #[.int .u64 L, .int .u64 M, .int .u64 J] 24 (0, 0))
  b : W.heap[w.heap.size + 1]? = some (.cells #[.int .u64 L', .int .u64 M', .int .u64 J'] 24 (0, 0))
  c : W.heap[w.heap.size + 2]? = some (.cells #[.int .i64 s0, .int .u64 d0, .int .i64 s1, .int .u64 d1] 46 (0, 0))
  below : Below w.heap.size w W
theorem Arg.lt {w W : World} {L M J L' M' J' s0 d0 s1 d1 : Int} (h : Arg w L M J L' M' J' s0 d0 s1 d1 W) : w.heap.size + 2 < W.heap.size := blk_lt h.c
theorem Arg.mod {w W W' : World} {S : Nat → Prop} {L M J L' M' J' s0 d0 s1 d1 : Int} (h : Arg w L M J L' M' J' s0 d0 s1 d1 W) (hm : Mod S W W') (hs : ∀ k, k < w.heap.size + 3 → ¬ S k) : Arg w L M J L' M' J' s0 d0 s1 d1 W' := by
  have hl := h.lt
  exact ⟨(hm.block _ (by omega) (hs _ (by omega))).trans h.a, (hm.block _ (by omega) (hs _ (by omega))).trans h.b, (hm.block _ (by omega) (hs _ (by omega))).trans h.c,
    ⟨hm.os.trans h.below.os, hm.tape.trans h.below.tape, hm.output.trans h.below.output, Nat.le_trans h.below.size hm.size, fun k hk => (hm.block k (by omega) (hs k (by omega))).trans (h.below.block k hk)⟩⟩
theorem Arg.bel {w W W' : World} {L M J L' M' J' s0 d0 s1 d1 : Int} (h : Arg w L M J L' M' J' s0 d0 s1 d1 W) (hb : Below W.heap.size W W') : Arg w L M J L' M' J' s0 d0 s1 d1 W' :=
  h.mod (Mod.of_below hb (fun _ => False)) (fun _ _ h => h)
theorem Arg.al {w W : World} {L M J L' M' J' s0 d0 s1 d1 : Int} (h : Arg w L M J L' M' J' s0 d0 s1 d1 W) (o : Obj) : Arg w L M J L' M' J' s0 d0 s1 d1 (W.alloc o) :=
  h.bel ((Below.refl _ W).alloc (Nat.le_refl _) o)
theorem Arg.start (w : World) (L M J L' M' J' s0 d0 s1 d1 : Int) :
    Arg w L M J L' M' J' s0 d0 s1 d1 (((w.alloc (.cells #[.int .u64 L, .int .u64 M, .int .u64 J] 24)).alloc (.cells #[.int .u64 L', .int .u64 M', .int .u64 J'] 24)).alloc (.cells #[.int .i64 s0, .int .u64 d0, .int .i64 s1, .int .u64 d1] 46)) := by
  have e1 : (w.alloc (.cells #[.int .u64 L, .int .u64 M, .int .u64 J] 24)).heap.size = w.heap.size + 1 := by simp
  have e2 : ((w.alloc (.cells #[.int .u64 L, .int .u64 M, .int .u64 J] 24)).alloc (.cells #[.int .u64 L', .int .u64 M', .int .u64 J'] 24)).heap.size = w.heap.size + 2 := by simp
  refine ⟨alloc_blk (alloc_blk (alloc_blk_new _ _) _) _, ?_, ?_, (((Below.refl _ w).alloc (Nat.le_refl _) _).alloc (by simp) _).alloc (by simp; omega) _⟩
  · have := alloc_blk_new (w.alloc (.cells #[.int .u64 L, .int .u64 M, .int .u64 J] 24)) (.cells #[.int .u64 L', .int .u64 M', .int .u64 J'] 24)
    rw [e1] at this
    exact alloc_blk this _
  · have := alloc_blk_new ((w.alloc (.cells #[.int .u64 L, .int .u64 M, .int .u64 J] 24)).alloc (.cells #[.int .u64 L', .int .u64 M', .int .u64 J'] 24)) (.cells #[.int .i64 s0, .int .u64 d0, .int .i64 s1, .int .u64 d1] 46)
    rw [e2] at this
    exact this
theorem Arg.cells {w W : World} {L M J L' M' J' s0 d0 s1 d1 : Int} (h : Arg w L M J L' M' J' s0 d0 s1 d1 W) :
    W.cell? ⟨w.heap.size, 0, none⟩ = some (.int .u64 L) ∧ W.cell? ⟨w.heap.size, 1, none⟩ = some (.int .u64 M) ∧ W.cell? ⟨w.heap.size, 2, none⟩ = some (.int .u64 J) ∧
    W.cell? ⟨w.heap.size + 1, 0, none⟩ = some (.int .u64 L') ∧ W.cell? ⟨w.heap.size + 1, 1, none⟩ = some (.int .u64 M') ∧ W.cell? ⟨w.heap.size + 1, 2, none⟩ = some (.int .u64 J') ∧
    W.cell? ⟨w.heap.size + 2, 0, none⟩ = some (.int .i64 s0) ∧ W.cell? ⟨w.heap.size + 2, 1, none⟩ = some (.int .u64 d0) ∧ W.cell? ⟨w.heap.size + 2, 2, none⟩ = some (.int .i64 s1) ∧ W.cell? ⟨w.heap.size + 2, 3, none⟩ = some (.int .u64 d1) :=
  ⟨cell_blk h.a 0 _ rfl, cell_blk h.a 1 _ rfl, cell_blk h.a 2 _ rfl, cell_blk h.b 0 _ rfl, cell_blk h.b 1 _ rfl, cell_blk h.b 2 _ rfl, cell_blk h.c 0 _ rfl, cell_blk h.c 1 _ rfl, cell_blk h.c 2 _ rfl, cell_blk h.c 3 _ rfl⟩

def args (L M J L' M' J' s0 d0 s1 d1 : Int) (ao : Option Addr) (n cap : Nat) : Array Value :=
  #[.agg #[.int .u64 L, .int .u64 M, .int .u64 J], .agg #[.int .u64 L', .int .u64 M', .int .u64 J'], .slice ao n cap, .agg #[.int .i64 s0, .int .u64 d0, .int .i64 s1, .int .u64 d1]]

set_option maxHeartbeats 1600000 in
set_option maxRecDepth 100000 in
theorem copies_out (L M J L' M' J' s0 d0 s1 d1 : Int) (ao : Option Addr) (n cap : Nat) (w : World) (hn : n ≤ maxLen) (h : 80 < n) :
    Calls Try.prog 5 (args L M J L' M' J' s0 d0 s1 d1 ao n cap) w (Yes w) := by
  unfold maxLen at hn
  unfold args
  have HW := Lib.hid works_true
  have HA := Lib.hid (Arg.start w L M J L' M' J' s0 d0 s1 d1)
  have t1 : decide (80 < n) = true := by simpa using h
  have t2 : decide ((80 : Int) < n) = true := by simp; omega
  go_enter Try.func5, Try.ntmps5
  go_wp2_with (go_at_call 8; refine (HW.out _).mono ?_; rintro e w' ⟨rfl, hb⟩)
  go_ret
  exact ⟨rfl, (HA.out.bel hb).below⟩

set_option maxHeartbeats 1600000 in
set_option maxRecDepth 100000 in
theorem copies_bad (L M J L' M' J' s0 d0 s1 d1 : Int) (ao : Option Addr) (n cap : Nat) (w : World) (hn : n ≤ 80) (h : okW L M J = false ∨ (okW L M J = true ∧ okW L' M' J' = false)) :
    Calls Try.prog 5 (args L M J L' M' J' s0 d0 s1 d1 ao n cap) w (Yes w) := by
  unfold args
  have HW := Lib.hid works_true
  have HR1 := Lib.hid (refRight L M J)
  have HR2 := Lib.hid (refRight L' M' J')
  have HA := Lib.hid (Arg.start w L M J L' M' J' s0 d0 s1 d1)
  have t1 : decide (80 < n) = false := by simp; omega
  have t2 : decide ((80 : Int) < n) = false := by simp; omega
  have HO := Lib.hid h
  clear h
  go_enter Try.func5, Try.ntmps5
  go_wp2_with fail
  refine (HR1.out _).mono ?_
  rintro e w1 ⟨rfl, hb⟩
  have A1 := Lib.hid (HA.out.bel hb)
  obtain ⟨c0, c1, c2, c3, c4, c5, c6, c7, c8, c9⟩ := A1.out.cells
  clear hb HA
  rcases HO.out with ho | ⟨ho, ho'⟩
  · rw [ho]
    go_wp2_with (go_at_call 8; refine (HW.out _).mono ?_; rintro e w' ⟨rfl, hb⟩)
    go_ret
    exact ⟨rfl, (A1.out.bel hb).below⟩
  · rw [ho]
    go_wp2_with fail
    refine (HR2.out _).mono ?_
    rintro e w2 ⟨rfl, hb⟩
    have A2 := Lib.hid (A1.out.bel hb)
    clear hb A1
    rw [ho']
    go_wp2_with (go_at_call 8; refine (HW.out _).mono ?_; rintro e w' ⟨rfl, hb⟩)
    go_ret
    exact ⟨rfl, (A2.out.bel hb).below⟩
end Go.Proofs.Ytkoppmnofloefaa
