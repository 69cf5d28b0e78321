/-
  TimerCopies, walked.
-/
import Derived.Test.YtnmbhcekcdicnaaPg
namespace Go.Proofs.Ytnmbhcekcdicnaa
open Go.RowKit
set_option linter.unusedVariables false
set_option linter.unusedSimpArgs false
attribute [local go_sem] Oper.semAt_some run_eql_func42
attribute [local go_sem high] eql26 neq26

/-- Two boxes. -/
theorem boxes2 (w : World) (x y : Obj) : ((w.alloc x).alloc y).heap[w.heap.size]? = some x ∧ ((w.alloc x).alloc y).heap[w.heap.size + 1]? = some y ∧ ((w.alloc x).alloc y).heap.size = w.heap.size + 1 + 1 ∧ Below w.heap.size w ((w.alloc x).alloc y) := by
  have s1 : ∀ (W : World) (o : Obj), (W.alloc o).heap.size = W.heap.size + 1 := fun W o => by simp
  have c1 : Below w.heap.size w (w.alloc x) := (Below.refl _ w).alloc (Nat.le_refl _) _
  refine ⟨alloc_blk (alloc_blk_new _ _) _, ?_, by rw [s1, s1], c1.alloc (by rw [s1]; omega) _⟩
  rw [← s1 w x]
  exact alloc_blk_new _ _
/-- What the boxes hold. -/
theorem Two.cells {w0 W : World} {p1 p2 T17 T15 T11 X8 X6 m1 bc1 m2 bc2 m bc : Nat} {most : Int} {l1 l2 : List Rw} {bo bo1 bo2 : Option Addr} {r0 r1 r2 r3 q0 q1 q2 q3 : Int} (h : Two w0 p1 p2 most l1 l2 bo1 m1 bc1 bo2 m2 bc2 [(T17, wantO bo2 m2 bc2 most), (T15, wantO bo1 m1 bc1 most), (T11, wantO bo m bc most), (X8, .cells #[.bool false] 4 (0, 0)), (X6, twoO r0 r1 r2 r3 q0 q1 q2 q3)] W) :
    (W.cell? ⟨T15, 0, none⟩ = some (.slice bo1 m1 bc1) ∧ W.cell? ⟨T15, 1, none⟩ = some (.int .i64 most) ∧ W.cell? ⟨T17, 0, none⟩ = some (.slice bo2 m2 bc2) ∧ W.cell? ⟨T17, 1, none⟩ = some (.int .i64 most)) ∧ (W.cell? ⟨X6, 1, none⟩ = some (.int .i64 r1) ∧ W.cell? ⟨X6, 2, none⟩ = some (.int .u64 r2) ∧ W.cell? ⟨X6, 3, none⟩ = some (.int .u64 r3) ∧ W.cell? ⟨X6, 5, none⟩ = some (.int .i64 q1) ∧ W.cell? ⟨X6, 6, none⟩ = some (.int .u64 q2)) ∧
    W.heap[X8]? = some (.cells #[.bool false] 4 (0, 0)) ∧ T15 < W.heap.size ∧ T17 < W.heap.size ∧ X6 < W.heap.size ∧ X8 < W.heap.size := by
  have h1 := h.bx (T17, wantO bo2 m2 bc2 most) (by simp)
  have h2 := h.bx (T15, wantO bo1 m1 bc1 most) (by simp)
  have h3 := h.bx (X8, .cells #[.bool false] 4 (0, 0)) (by simp)
  have h4 := h.bx (X6, twoO r0 r1 r2 r3 q0 q1 q2 q3) (by simp)
  exact ⟨⟨cell_blk h2 0 _ rfl, cell_blk h2 1 _ rfl, cell_blk h1 0 _ rfl, cell_blk h1 1 _ rfl⟩, ⟨cell_blk h4 1 _ rfl, cell_blk h4 2 _ rfl, cell_blk h4 3 _ rfl, cell_blk h4 5 _ rfl, cell_blk h4 6 _ rfl⟩, h3, blk_lt h2, blk_lt h1, blk_lt h4, blk_lt h3⟩
section
set_option maxHeartbeats 12800000
set_option maxRecDepth 100000
theorem copies_out (most : Int) (ao : Option Addr) (n ca : Nat) (r0 r1 r2 r3 q0 q1 q2 q3 : Int) (zero : Bool) (w : World) (hn : 40 < n) (hn2 : n ≤ maxLen) :
    Calls Try.prog 4 #[.int .i64 most, .slice ao n ca, .agg #[.int .i64 r0, .int .i64 r1, .int .u64 r2, .int .u64 r3, .int .i64 q0, .int .i64 q1, .int .u64 q2, .int .u64 q3], .bool zero] w (Yes w) := by
  have HWk := Lib.hid works_true
  have d1 : decide (40 < n) = true := by simpa using hn
  have d2 : decide ((40 : Int) < n) = true := by simp; omega
  clear hn
  obtain ⟨u, hu⟩ : ∃ W, W = (w.alloc (twoO r0 r1 r2 r3 q0 q1 q2 q3)).alloc (.cells #[.bool false] 4 (0, 0)) := ⟨_, rfl⟩
  obtain ⟨X6, hX6⟩ : ∃ X, X = w.heap.size := ⟨_, rfl⟩
  obtain ⟨X8, hX8⟩ : ∃ X, X = X6 + 1 := ⟨_, rfl⟩
  have BT := Lib.hid (boxes2 w (twoO r0 r1 r2 r3 q0 q1 q2 q3) (.cells #[.bool false] 4 (0, 0)))
  rw [← hu, ← hX6, ← hX8] at BT
  have c8 := cell_blk BT.out.2.1 0 (.bool false) rfl
  have f8 := frozen_blk BT.out.2.1 0
  have l8 := blk_lt BT.out.2.1
  have B1 : Hid (Below w.heap.size w u) := Lib.hid (by rw [← hX6]; exact BT.out.2.2.2)
  have HX8 : Hid (w.heap.size ≤ X8) := Lib.hid (by omega)
  have HU := Lib.hid (And.intro hu (And.intro hX6 hX8))
  clear hu hX6 hX8
  refine (callsIn_wide (n := 5)).1 ?_
  refine callsIn_of_wp_marks Try.func4 rfl trivial ?_ rfl
  simp only [Try.ntmps4, List.size_toArray, List.length_cons, List.length_nil, Nat.reduceAdd, Nat.reduceSub, Array.replicate_succ, Array.replicate_zero, List.push_toArray, List.append_toArray, List.nil_append, List.cons_append]
  refine wpIn_wide.2 ?_
  go_upto_region 1 with fail
  unfold twoO at HU
  rw [← HU.out.2.1, ← HU.out.2.2, ← HU.out.1]
  go_wp2_with (go_at_call 8; fail)
  refine (HWk.out _).mono ?_
  rintro e v ⟨rfl, hb⟩
  have k8 := (hb.block _ l8).trans BT.out.2.1
  have HB8 := Lib.hid k8
  have c9 := cell_blk k8 0 (.bool false) rfl
  have f9 := frozen_blk k8 0
  have l9 := blk_lt k8
  have B2 := Lib.hid (B1.out.trans (hb.mono B1.out.size))
  clear k8 hb c8 f8 l8
  go_wp2_with fail
  refine ⟨.bool true, ?_, rfl, B2.out.setCell (p := ⟨X8, 0, none⟩) HX8.out _⟩
  simp [results, Try.f4, go_sem, cell_blk (setCell_blk HB8.out 0 (.bool true)) 0 (.bool true) rfl]
theorem copies_low (most : Int) (ao : Option Addr) (n ca : Nat) (r0 r1 r2 r3 q0 q1 q2 q3 : Int) (zero : Bool) (w : World) (hn : n ≤ 40) (hm : most < 1) (hn2 : n ≤ maxLen) :
    Calls Try.prog 4 #[.int .i64 most, .slice ao n ca, .agg #[.int .i64 r0, .int .i64 r1, .int .u64 r2, .int .u64 r3, .int .i64 q0, .int .i64 q1, .int .u64 q2, .int .u64 q3], .bool zero] w (Yes w) := by
  have HWk := Lib.hid works_true
  have d1 : decide (40 < n) = false := by simp; omega
  have d2 : decide ((40 : Int) < n) = false := by simp; omega
  have d3 : decide (most < 1) = true := by simpa using hm
  clear hn hm
  obtain ⟨u, hu⟩ : ∃ W, W = (w.alloc (twoO r0 r1 r2 r3 q0 q1 q2 q3)).alloc (.cells #[.bool false] 4 (0, 0)) := ⟨_, rfl⟩
  obtain ⟨X6, hX6⟩ : ∃ X, X = w.heap.size := ⟨_, rfl⟩
  obtain ⟨X8, hX8⟩ : ∃ X, X = X6 + 1 := ⟨_, rfl⟩
  have BT := Lib.hid (boxes2 w (twoO r0 r1 r2 r3 q0 q1 q2 q3) (.cells #[.bool false] 4 (0, 0)))
  rw [← hu, ← hX6, ← hX8] at BT
  have c8 := cell_blk BT.out.2.1 0 (.bool false) rfl
  have f8 := frozen_blk BT.out.2.1 0
  have l8 := blk_lt BT.out.2.1
  have B1 : Hid (Below w.heap.size w u) := Lib.hid (by rw [← hX6]; exact BT.out.2.2.2)
  have HX8 : Hid (w.heap.size ≤ X8) := Lib.hid (by omega)
  have HU := Lib.hid (And.intro hu (And.intro hX6 hX8))
  clear hu hX6 hX8
  refine (callsIn_wide (n := 5)).1 ?_
  refine callsIn_of_wp_marks Try.func4 rfl trivial ?_ rfl
  simp only [Try.ntmps4, List.size_toArray, List.length_cons, List.length_nil, Nat.reduceAdd, Nat.reduceSub, Array.replicate_succ, Array.replicate_zero, List.push_toArray, List.append_toArray, List.nil_append, List.cons_append]
  refine wpIn_wide.2 ?_
  go_upto_region 1 with fail
  unfold twoO at HU
  rw [← HU.out.2.1, ← HU.out.2.2, ← HU.out.1]
  go_wp2_with (go_at_call 8; fail)
  refine (HWk.out _).mono ?_
  rintro e v ⟨rfl, hb⟩
  have k8 := (hb.block _ l8).trans BT.out.2.1
  have HB8 := Lib.hid k8
  have c9 := cell_blk k8 0 (.bool false) rfl
  have f9 := frozen_blk k8 0
  have l9 := blk_lt k8
  have B2 := Lib.hid (B1.out.trans (hb.mono B1.out.size))
  clear k8 hb c8 f8 l8
  go_wp2_with fail
  refine ⟨.bool true, ?_, rfl, B2.out.setCell (p := ⟨X8, 0, none⟩) HX8.out _⟩
  simp [results, Try.f4, go_sem, cell_blk (setCell_blk HB8.out 0 (.bool true)) 0 (.bool true) rfl]
theorem copies_high (most : Int) (ao : Option Addr) (n ca : Nat) (r0 r1 r2 r3 q0 q1 q2 q3 : Int) (zero : Bool) (w : World) (hn : n ≤ 40) (hm : 8192 < most) (hn2 : n ≤ maxLen) :
    Calls Try.prog 4 #[.int .i64 most, .slice ao n ca, .agg #[.int .i64 r0, .int .i64 r1, .int .u64 r2, .int .u64 r3, .int .i64 q0, .int .i64 q1, .int .u64 q2, .int .u64 q3], .bool zero] w (Yes w) := by
  have HWk := Lib.hid works_true
  have d1 : decide (40 < n) = false := by simp; omega
  have d2 : decide ((40 : Int) < n) = false := by simp; omega
  have d3 : decide (most < 1) = false := by simp; omega
  have d4 : decide (8192 < most) = true := by simpa using hm
  clear hn hm
  obtain ⟨u, hu⟩ : ∃ W, W = (w.alloc (twoO r0 r1 r2 r3 q0 q1 q2 q3)).alloc (.cells #[.bool false] 4 (0, 0)) := ⟨_, rfl⟩
  obtain ⟨X6, hX6⟩ : ∃ X, X = w.heap.size := ⟨_, rfl⟩
  obtain ⟨X8, hX8⟩ : ∃ X, X = X6 + 1 := ⟨_, rfl⟩
  have BT := Lib.hid (boxes2 w (twoO r0 r1 r2 r3 q0 q1 q2 q3) (.cells #[.bool false] 4 (0, 0)))
  rw [← hu, ← hX6, ← hX8] at BT
  have c8 := cell_blk BT.out.2.1 0 (.bool false) rfl
  have f8 := frozen_blk BT.out.2.1 0
  have l8 := blk_lt BT.out.2.1
  have B1 : Hid (Below w.heap.size w u) := Lib.hid (by rw [← hX6]; exact BT.out.2.2.2)
  have HX8 : Hid (w.heap.size ≤ X8) := Lib.hid (by omega)
  have HU := Lib.hid (And.intro hu (And.intro hX6 hX8))
  clear hu hX6 hX8
  refine (callsIn_wide (n := 5)).1 ?_
  refine callsIn_of_wp_marks Try.func4 rfl trivial ?_ rfl
  simp only [Try.ntmps4, List.size_toArray, List.length_cons, List.length_nil, Nat.reduceAdd, Nat.reduceSub, Array.replicate_succ, Array.replicate_zero, List.push_toArray, List.append_toArray, List.nil_append, List.cons_append]
  refine wpIn_wide.2 ?_
  go_upto_region 1 with fail
  unfold twoO at HU
  rw [← HU.out.2.1, ← HU.out.2.2, ← HU.out.1]
  go_wp2_with (go_at_call 8; fail)
  refine (HWk.out _).mono ?_
  rintro e v ⟨rfl, hb⟩
  have k8 := (hb.block _ l8).trans BT.out.2.1
  have HB8 := Lib.hid k8
  have c9 := cell_blk k8 0 (.bool false) rfl
  have f9 := frozen_blk k8 0
  have l9 := blk_lt k8
  have B2 := Lib.hid (B1.out.trans (hb.mono B1.out.size))
  clear k8 hb c8 f8 l8
  go_wp2_with fail
  refine ⟨.bool true, ?_, rfl, B2.out.setCell (p := ⟨X8, 0, none⟩) HX8.out _⟩
  simp [results, Try.f4, go_sem, cell_blk (setCell_blk HB8.out 0 (.bool true)) 0 (.bool true) rfl]
theorem copies_in (most : Int) (ao : Option Addr) (n ca : Nat) (r0 r1 r2 r3 q0 q1 q2 q3 : Int) (zero : Bool) (z : Nat → Int × Int × Int × Int) (w : World) (hn : n ≤ 40) (m0 : 1 ≤ most) (m1 : most ≤ 8192) (ha : AArg w ao n z)
    (ra : -9223372036854775808 ≤ r1) (rb : r1 ≤ 9223372036854775807) (rc : 0 ≤ r2) (rd : r2 ≤ 18446744073709551615) (re : 0 ≤ r3) (rf : r3 ≤ 18446744073709551615)
    (qa : -9223372036854775808 ≤ q1) (qb : q1 ≤ 9223372036854775807) (qc : 0 ≤ q2) (qd : q2 ≤ 18446744073709551615) (qe : 0 ≤ q3) (qf : q3 ≤ 18446744073709551615) :
    Calls Try.prog 4 #[.int .i64 most, .slice ao n ca, .agg #[.int .i64 r0, .int .i64 r1, .int .u64 r2, .int .u64 r3, .int .i64 q0, .int .i64 q1, .int .u64 q2, .int .u64 q3], .bool zero] w (Yes w) := by
  have HWk := Lib.hid works_true
  have HNum := Lib.hid num13
  have d1 : decide (40 < n) = false := by simp; omega
  have d2 : decide ((40 : Int) < n) = false := by simp; omega
  have d3 : decide (most < 1) = false := by simp; omega
  have d4 : decide (8192 < most) = false := by simp; omega
  have HR := Lib.hid (And.intro (And.intro ra (And.intro rb (And.intro rc (And.intro rd (And.intro re rf))))) (And.intro qa (And.intro qb (And.intro qc (And.intro qd (And.intro qe qf))))))
  have HA := Lib.hid ha
  clear ra rb rc rd re rf qa qb qc qd qe qf ha
  obtain ⟨u, hu⟩ : ∃ W, W = (w.alloc (twoO r0 r1 r2 r3 q0 q1 q2 q3)).alloc (.cells #[.bool false] 4 (0, 0)) := ⟨_, rfl⟩
  obtain ⟨X6, hX6⟩ : ∃ X, X = w.heap.size := ⟨_, rfl⟩
  obtain ⟨X8, hX8⟩ : ∃ X, X = X6 + 1 := ⟨_, rfl⟩
  have BT := Lib.hid (boxes2 w (twoO r0 r1 r2 r3 q0 q1 q2 q3) (.cells #[.bool false] 4 (0, 0)))
  rw [← hu, ← hX6, ← hX8] at BT
  have c8 := cell_blk BT.out.2.1 0 (.bool false) rfl
  have f8 := frozen_blk BT.out.2.1 0
  have l8 := blk_lt BT.out.2.1
  have B1 : Hid (Below w.heap.size w u) := Lib.hid (by rw [← hX6]; exact BT.out.2.2.2)
  have HX8 : Hid (w.heap.size ≤ X6 ∧ X6 < u.heap.size ∧ X8 < u.heap.size ∧ w.heap.size ≤ X8) := Lib.hid (by have := BT.out.2.2.1; omega)
  have HU := Lib.hid (And.intro hu (And.intro hX6 hX8))
  have HN9 := Lib.hid (PS.new u most m0 m1)
  have HN10 := Lib.hid (fun W => refNew10 most W m0 m1)
  clear hu hX6 hX8
  refine (callsIn_wide (n := 5)).1 ?_
  refine callsIn_of_wp_marks Try.func4 rfl trivial ?_ rfl
  simp only [Try.ntmps4, List.size_toArray, List.length_cons, List.length_nil, Nat.reduceAdd, Nat.reduceSub, Array.replicate_succ, Array.replicate_zero, List.push_toArray, List.append_toArray, List.nil_append, List.cons_append]
  refine wpIn_wide.2 ?_
  go_upto_region 1 with fail
  unfold twoO at HU
  rw [← HU.out.2.1, ← HU.out.2.2, ← HU.out.1]
  clear HU c8 f8 l8
  go_wp2_with (go_at_call 9; fail)
  refine HN9.out.mono ?_
  rintro e v1 ⟨p, rfl, hps⟩
  have P1 : Hid (PS u p most [] none 0 0 [(X8, .cells #[.bool false] 4 (0, 0)), (X6, twoO r0 r1 r2 r3 q0 q1 q2 q3)] v1) := Lib.hid (by
    obtain ⟨g6, g8, -, -⟩ := BT.out
    obtain ⟨-, h6, h8, -⟩ := HX8.out
    have hb := hps.bel
    exact (hps.was ((hb.block _ h6).trans g6) h6).was ((hb.block _ h8).trans g8) h8)
  clear hps d1 d2 d3 d4
  go_wp2_with (go_at_call 10; fail)
  refine (HN10.out _).mono ?_
  rintro e v2 ⟨rfl, hb⟩
  have P2 := Lib.hid (P1.out.below hb)
  clear hb P1 HN9 HN10
  go_upto_region 5 with fail
  obtain ⟨T11, hT⟩ : ∃ X, X = v2.heap.size := ⟨_, rfl⟩
  obtain ⟨v3, hv3⟩ : ∃ W, W = v2.alloc (.cells #[.slice none 0 0, .int .i64 most] 36) := ⟨_, rfl⟩
  have hps := P2.out.add (.cells #[.slice none 0 0, .int .i64 most] 36)
  rw [← hv3, ← hT] at hps ⊢
  have P3 : Hid (PS u p most [] none 0 0 [(T11, wantO none 0 0 most), (X8, .cells #[.bool false] 4 (0, 0)), (X6, twoO r0 r1 r2 r3 q0 q1 q2 q3)] v3) := Lib.hid hps
  have HT : Hid (u.heap.size ≤ T11 ∧ X8 < T11 ∧ X6 < T11) := Lib.hid (by
    have h1 := P2.out.bel.size
    have h2 := HX8.out
    omega)
  clear hps hv3 hT P2
  go_wp2_with fail
  go_loopg [9, 13] n (fun gk v9 v13 wr => ∃ (j p : Nat) (bo : Option Addr) (m bc : Nat), v9 = .pointer (some ⟨p, 0, none⟩) ∧ v13 = .int .i64 j ∧ j ≤ n ∧ gk = n - j ∧ PS u p most (runL most z j) bo m bc [(T11, wantO bo m bc most), (X8, .cells #[.bool false] 4 (0, 0)), (X6, twoO r0 r1 r2 r3 q0 q1 q2 q3)] wr)
  case atStart => exact ⟨0, p, none, 0, 0, rfl, rfl, by omega, rfl, P3.out⟩
  case round =>
    clear P3
    obtain ⟨j, p, bo, m, bc, rfl, rfl, hj, hgk, hps⟩ := hrel
    have HG := Lib.hid hgk
    have P := Lib.hid hps
    have kt := hps.at (x := T11) (o := wantO bo m bc most) (by simp)
    unfold wantO at kt
    have c0 := cell_blk kt 0 _ rfl
    have c1 := cell_blk kt 1 _ rfl
    have lt := blk_lt kt
    clear hgk hps kt
    by_cases hlt : j < n
    · have e1 : decide ((j : Int) < n) = true := by simp; omega
      obtain ⟨ab, off, rfl, hab, hac⟩ := HA.out (by omega)
      obtain ⟨⟨y0, y1, y2, y3⟩, hk, hi, hnn⟩ := hac j hlt
      have hnext : runL most z (j + 1) = actL most (runL most z j) (z j).1 (z j).2.1 (z j).2.2.1 (z j).2.2.2 := rfl
      obtain ⟨L1, hL1⟩ : ∃ L, L = runL most z (j + 1) := ⟨_, rfl⟩
      rw [← hL1] at hnext
      obtain ⟨xw, hxw⟩ : ∃ x, x = (z j).1 := ⟨_, rfl⟩
      obtain ⟨xk, hxk⟩ : ∃ x, x = (z j).2.1 := ⟨_, rfl⟩
      obtain ⟨xi, hxi⟩ : ∃ x, x = (z j).2.2.1 := ⟨_, rfl⟩
      obtain ⟨xn, hxn⟩ : ∃ x, x = (z j).2.2.2 := ⟨_, rfl⟩
      rw [← hxw] at y0 hnext
      rw [← hxk] at y1 hk hnext
      rw [← hxi] at y2 hi hnext
      rw [← hxn] at y3 hnn hnext
      have HCA : Hid (∀ W', Below w.heap.size w W' → (W'.cell? ⟨ab, off + j * 4, none⟩ = some (.int .i64 xw) ∧ W'.cell? ⟨ab, off + j * 4 + 1, none⟩ = some (.int .i64 xk) ∧ W'.cell? ⟨ab, off + j * 4 + 2, none⟩ = some (.int .u64 xi) ∧ W'.cell? ⟨ab, off + j * 4 + 3, none⟩ = some (.int .u64 xn)) ∧ ab < W'.heap.size) := Lib.hid fun W' hW =>
        ⟨⟨(hW.cell (p := ⟨ab, off + j * 4, none⟩) hab).trans y0, (hW.cell (p := ⟨ab, off + j * 4 + 1, none⟩) hab).trans y1, (hW.cell (p := ⟨ab, off + j * 4 + 2, none⟩) hab).trans y2, (hW.cell (p := ⟨ab, off + j * 4 + 3, none⟩) hab).trans y3⟩, Nat.lt_of_lt_of_le hab hW.size⟩
      have HXR := Lib.hid (And.intro hk (And.intro hi hnn))
      have HNx := Lib.hid hnext
      have HL1 := Lib.hid hL1
      have hjn : (j : Int) < n := by omega
      clear hac y0 y1 y2 y3 hk hi hnn hxw hxk hxi hxn hnext hL1
      have hw1 : IntKind.i64.wrap ((j : Int) + 1) = (j : Int) + 1 := by rw [IntKind.wrap_i64]; omega
      go_upto_block 1 with fail
      go_cut [9] from 56 to 72 (fun s9 wx => ∃ (p' : Nat) (bo' : Option Addr) (m' bc' : Nat), s9 = .pointer (some ⟨p', 0, none⟩) ∧ PS u p' most L1 bo' m' bc' [(T11, wantO bo' m' bc' most), (X8, .cells #[.bool false] 4 (0, 0)), (X6, twoO r0 r1 r2 r3 q0 q1 q2 q3)] wx)
      case first =>
        go_upto_region 8 with fail
        refine wp_region_noPanic ?_
        refine wp_region_K 6 (fun W => PS u p most (runL most z j) bo m bc [(T11, wantO bo m bc most), (X8, .cells #[.bool false] 4 (0, 0)), (X6, twoO r0 r1 r2 r3 q0 q1 q2 q3)] W) (by kernel_rfl) ?_
        obtain ⟨wd, hwd⟩ : ∃ W, W = (wr).drew := ⟨_, rfl⟩
        have HBd : Hid (Below (wr).heap.size (wr) wd) := Lib.hid (by rw [hwd]; exact Below.drewN' (wr) 1)
        have hS0 : (fun W : World => PS u p most (runL most z j) bo m bc [(T11, wantO bo m bc most), (X8, .cells #[.bool false] 4 (0, 0)), (X6, twoO r0 r1 r2 r3 q0 q1 q2 q3)] W) wd := by rw [hwd]; exact (P.out.below (Below.drewN' wr 1))
        rw [← hwd]
        clear hwd
        refine' wpAnyK_take (i := 0) (oi := { dst := some 63, op := Op.move (Operand.tmp 9), type := 30, pos := "law.go:147", after := #[], guard := none }) (v := ?v701001) rfl (by kernel_rfl) (by kernel_rfl) (by kernel_rfl) [] (by kernel_rfl) (by decide) (by kernel_rfl) (by kernel_rfl) (fun _ _ _ h => h) hS0 (.inl ⟨by first | rfl | simp [Region.wanted, yielded], ?hy701001⟩) ?rest701001
        case hy701001 => (intro W hW; have g1 := hW.at (x := T11) (o := wantO bo m bc most) (by simp); unfold wantO at g1; have f1 := cell_blk g1 0 _ rfl; have f2 := cell_blk g1 1 _ rfl; have f3 := blk_lt g1; obtain ⟨⟨f4, f5, f6, f7⟩, f8⟩ := HCA.out _ (B1.out.trans (hW.bel.mono B1.out.size)); go_simp; try with_reducible rfl)
        simp only [Act.put, List.setIfInBounds_toArray, List.set_cons_zero, List.set_cons_succ]
        refine' wpAnyK_take (i := 1) (oi := { dst := some 64, op := Op.load 36 (Operand.tmp 11), type := 36, pos := "law.go:147", after := #[], guard := none }) (v := ?v701002) rfl (by kernel_rfl) (by kernel_rfl) (by kernel_rfl) [] (by kernel_rfl) (by decide) (by kernel_rfl) (by kernel_rfl) (fun _ _ _ h => h) hS0 (.inl ⟨by first | rfl | simp [Region.wanted, yielded], ?hy701002⟩) ?rest701002
        case hy701002 => (intro W hW; have g1 := hW.at (x := T11) (o := wantO bo m bc most) (by simp); unfold wantO at g1; have f1 := cell_blk g1 0 _ rfl; have f2 := cell_blk g1 1 _ rfl; have f3 := blk_lt g1; obtain ⟨⟨f4, f5, f6, f7⟩, f8⟩ := HCA.out _ (B1.out.trans (hW.bel.mono B1.out.size)); go_simp; try with_reducible rfl)
        simp only [Act.put, List.setIfInBounds_toArray, List.set_cons_zero, List.set_cons_succ]
        refine' wpAnyK_take (i := 2) (oi := { dst := some 65, op := Op.move (Operand.tmp 1), type := 22, pos := "law.go:147", after := #[], guard := none }) (v := ?v701003) rfl (by kernel_rfl) (by kernel_rfl) (by kernel_rfl) [5, 4] (by kernel_rfl) (by decide) (by kernel_rfl) (by kernel_rfl) (fun _ _ _ h => h) hS0 (.inl ⟨by first | rfl | simp [Region.wanted, yielded], ?hy701003⟩) ?rest701003
        case hy701003 => (intro W hW; have g1 := hW.at (x := T11) (o := wantO bo m bc most) (by simp); unfold wantO at g1; have f1 := cell_blk g1 0 _ rfl; have f2 := cell_blk g1 1 _ rfl; have f3 := blk_lt g1; obtain ⟨⟨f4, f5, f6, f7⟩, f8⟩ := HCA.out _ (B1.out.trans (hW.bel.mono B1.out.size)); go_simp; try with_reducible rfl)
        simp only [Act.put, List.setIfInBounds_toArray, List.set_cons_zero, List.set_cons_succ]
        refine' wpAnyK_take (i := 3) (oi := { dst := some 66, op := Op.move (Operand.tmp 13), type := 3, pos := "law.go:147", after := #[], guard := none }) (v := ?v701004) rfl (by kernel_rfl) (by kernel_rfl) (by kernel_rfl) [5, 4] (by kernel_rfl) (by decide) (by kernel_rfl) (by kernel_rfl) (fun _ _ _ h => h) hS0 (.inl ⟨by first | rfl | simp [Region.wanted, yielded], ?hy701004⟩) ?rest701004
        case hy701004 => (intro W hW; have g1 := hW.at (x := T11) (o := wantO bo m bc most) (by simp); unfold wantO at g1; have f1 := cell_blk g1 0 _ rfl; have f2 := cell_blk g1 1 _ rfl; have f3 := blk_lt g1; obtain ⟨⟨f4, f5, f6, f7⟩, f8⟩ := HCA.out _ (B1.out.trans (hW.bel.mono B1.out.size)); go_simp; try with_reducible rfl)
        simp only [Act.put, List.setIfInBounds_toArray, List.set_cons_zero, List.set_cons_succ]
        refine' wpAnyK_take (i := 4) (oi := { dst := some 67, op := Op.indexAddr 22 (Operand.tmp 65) (Operand.tmp 66), type := 0, pos := "law.go:147", after := #[{ on := 2, ground := Ground.data }, { on := 3, ground := Ground.data }], guard := none }) (v := ?v701005) rfl (by kernel_rfl) (by kernel_rfl) (by kernel_rfl) [5] (by kernel_rfl) (by decide) (by kernel_rfl) (by kernel_rfl) (fun _ _ _ h => h) hS0 (.inl ⟨by first | rfl | simp [Region.wanted, yielded], ?hy701005⟩) ?rest701005
        case hy701005 => (intro W hW; have g1 := hW.at (x := T11) (o := wantO bo m bc most) (by simp); unfold wantO at g1; have f1 := cell_blk g1 0 _ rfl; have f2 := cell_blk g1 1 _ rfl; have f3 := blk_lt g1; obtain ⟨⟨f4, f5, f6, f7⟩, f8⟩ := HCA.out _ (B1.out.trans (hW.bel.mono B1.out.size)); go_simp; try with_reducible rfl)
        simp only [Act.put, List.setIfInBounds_toArray, List.set_cons_zero, List.set_cons_succ]
        refine' wpAnyK_take (i := 5) (oi := { dst := some 68, op := Op.load 28 (Operand.tmp 67), type := 28, pos := "law.go:147", after := #[{ on := 4, ground := Ground.data }], guard := none }) (v := ?v701006) rfl (by kernel_rfl) (by kernel_rfl) (by kernel_rfl) [] (by kernel_rfl) (by decide) (by kernel_rfl) (by kernel_rfl) (fun _ _ _ h => h) hS0 (.inl ⟨by first | rfl | simp [Region.wanted, yielded], ?hy701006⟩) ?rest701006
        case hy701006 => (intro W hW; have g1 := hW.at (x := T11) (o := wantO bo m bc most) (by simp); unfold wantO at g1; have f1 := cell_blk g1 0 _ rfl; have f2 := cell_blk g1 1 _ rfl; have f3 := blk_lt g1; obtain ⟨⟨f4, f5, f6, f7⟩, f8⟩ := HCA.out _ (B1.out.trans (hW.bel.mono B1.out.size)); go_simp; try with_reducible rfl)
        simp only [Act.put, List.setIfInBounds_toArray, List.set_cons_zero, List.set_cons_succ]
        refine wpAnyK_ready (rs := [6]) (by kernel_rfl) (by simp) ?_
        refine AllReadyK.cons (o := { dst := some 69, op := Op.call { callee := Callee.value (Operand.func 11), args := #[Operand.tmp 63, Operand.tmp 64, Operand.tmp 68], argTypes := #[30, 36, 28] }, type := 39, pos := "law.go:147", after := #[{ on := 0, ground := Ground.data }, { on := 1, ground := Ground.data }, { on := 5, ground := Ground.data }], guard := none }) rfl (fun KK hK => ?_) (AllReadyK.nil)
        try simp only [List.getElem_toArray, List.getElem_cons_succ, List.getElem_cons_zero]
        have hact := hS0.act xw xk xi xn HXR.out.1.1 HXR.out.1.2 HXR.out.2.1.1 HXR.out.2.1.2 HXR.out.2.2.1 HXR.out.2.2.2
        rw [← HNx.out] at hact
        go_simp
        refine hact.mono ?_
        rintro e z1 ⟨p', bo', m', bc', rfl, hpa⟩
        have HP1 := Lib.hid hpa
        clear hact hpa
        refine hK.out _ _ (fun h => absurd (show true = false from h) (by decide)) ?_
        clear hK KK
        try simp only [Act.put, List.setIfInBounds_toArray, List.set_cons_zero, List.set_cons_succ]
        refine wpAnyK_ready (rs := [7]) (by kernel_rfl) (by simp) ?_
        refine AllReadyK.cons (o := { dst := some 62, op := Op.move (Operand.tmp 69), type := 39, pos := "law.go:147", after := #[{ on := 6, ground := Ground.data }], guard := none }) rfl (fun KK hK => ?_) (AllReadyK.nil)
        try simp only [List.getElem_toArray, List.getElem_cons_succ, List.getElem_cons_zero]
        go_simp
        refine hK.out _ _ (fun h => absurd (show true = false from h) (by decide)) ?_
        clear hK KK
        try simp only [Act.put, List.setIfInBounds_toArray, List.set_cons_zero, List.set_cons_succ]
        refine wpAnyK_ready (rs := [8, 9, 10]) (by kernel_rfl) (by simp) ?_
        refine AllReadyK.cons (o := { dst := some 70, op := Op.extract (Operand.tmp 62) 0, type := 30, pos := "law.go:147", after := #[{ on := 7, ground := Ground.data }], guard := none }) rfl (fun KK hK => ?_) (AllReadyK.cons (o := { dst := some 71, op := Op.extract (Operand.tmp 62) 1, type := 36, pos := "law.go:147", after := #[{ on := 7, ground := Ground.data }, { on := 11, ground := Ground.gcOnly Departure.lateStores }], guard := none }) rfl (fun KK hK => ?_) (AllReadyK.cons (o := { dst := some 72, op := Op.extract (Operand.tmp 62) 2, type := 4, pos := "law.go:147", after := #[{ on := 7, ground := Ground.data }, { on := 12, ground := Ground.gcOnly Departure.lateStores }], guard := none }) rfl (fun KK hK => ?_) (AllReadyK.nil)))
        · try simp only [List.getElem_toArray, List.getElem_cons_succ, List.getElem_cons_zero]
          go_simp
          refine hK.out _ _ (fun h => absurd (show true = false from h) (by decide)) ?_
          clear hK KK
          try simp only [Act.put, List.setIfInBounds_toArray, List.set_cons_zero, List.set_cons_succ]
          refine wpAnyK_ready (rs := [9, 10, 11]) (by kernel_rfl) (by simp) ?_
          refine AllReadyK.cons (o := { dst := some 71, op := Op.extract (Operand.tmp 62) 1, type := 36, pos := "law.go:147", after := #[{ on := 7, ground := Ground.data }, { on := 11, ground := Ground.gcOnly Departure.lateStores }], guard := none }) rfl (fun KK hK => ?_) (AllReadyK.cons (o := { dst := some 72, op := Op.extract (Operand.tmp 62) 2, type := 4, pos := "law.go:147", after := #[{ on := 7, ground := Ground.data }, { on := 12, ground := Ground.gcOnly Departure.lateStores }], guard := none }) rfl (fun KK hK => ?_) (AllReadyK.cons (o := { dst := some 9, op := Op.assign (Operand.tmp 70), type := 30, pos := "law.go:147", after := #[{ on := 8, ground := Ground.data }, { on := 6, ground := Ground.chain }, { on := 0, ground := Ground.phase }, { on := 1, ground := Ground.phase }, { on := 2, ground := Ground.phase }, { on := 3, ground := Ground.phase }, { on := 4, ground := Ground.phase }, { on := 5, ground := Ground.phase }, { on := 6, ground := Ground.phase }, { on := 7, ground := Ground.phase }, { on := 8, ground := Ground.phase }, { on := 9, ground := Ground.textOnly Departure.lateStores }, { on := 10, ground := Ground.textOnly Departure.lateStores }], guard := none }) rfl (fun KK hK => ?_) (AllReadyK.nil)))
          · try simp only [List.getElem_toArray, List.getElem_cons_succ, List.getElem_cons_zero]
            go_simp
            refine hK.out _ _ (fun h => absurd (show true = false from h) (by decide)) ?_
            clear hK KK
            try simp only [Act.put, List.setIfInBounds_toArray, List.set_cons_zero, List.set_cons_succ]
            refine wpAnyK_ready (rs := [10, 11]) (by kernel_rfl) (by simp) ?_
            refine AllReadyK.cons (o := { dst := some 72, op := Op.extract (Operand.tmp 62) 2, type := 4, pos := "law.go:147", after := #[{ on := 7, ground := Ground.data }, { on := 12, ground := Ground.gcOnly Departure.lateStores }], guard := none }) rfl (fun KK hK => ?_) (AllReadyK.cons (o := { dst := some 9, op := Op.assign (Operand.tmp 70), type := 30, pos := "law.go:147", after := #[{ on := 8, ground := Ground.data }, { on := 6, ground := Ground.chain }, { on := 0, ground := Ground.phase }, { on := 1, ground := Ground.phase }, { on := 2, ground := Ground.phase }, { on := 3, ground := Ground.phase }, { on := 4, ground := Ground.phase }, { on := 5, ground := Ground.phase }, { on := 6, ground := Ground.phase }, { on := 7, ground := Ground.phase }, { on := 8, ground := Ground.phase }, { on := 9, ground := Ground.textOnly Departure.lateStores }, { on := 10, ground := Ground.textOnly Departure.lateStores }], guard := none }) rfl (fun KK hK => ?_) (AllReadyK.nil))
            · try simp only [List.getElem_toArray, List.getElem_cons_succ, List.getElem_cons_zero]
              go_simp
              refine hK.out _ _ (fun h => absurd (show true = false from h) (by decide)) ?_
              clear hK KK
              try simp only [Act.put, List.setIfInBounds_toArray, List.set_cons_zero, List.set_cons_succ]
              refine wpAnyK_ready (rs := [11]) (by kernel_rfl) (by simp) ?_
              refine AllReadyK.cons (o := { dst := some 9, op := Op.assign (Operand.tmp 70), type := 30, pos := "law.go:147", after := #[{ on := 8, ground := Ground.data }, { on := 6, ground := Ground.chain }, { on := 0, ground := Ground.phase }, { on := 1, ground := Ground.phase }, { on := 2, ground := Ground.phase }, { on := 3, ground := Ground.phase }, { on := 4, ground := Ground.phase }, { on := 5, ground := Ground.phase }, { on := 6, ground := Ground.phase }, { on := 7, ground := Ground.phase }, { on := 8, ground := Ground.phase }, { on := 9, ground := Ground.textOnly Departure.lateStores }, { on := 10, ground := Ground.textOnly Departure.lateStores }], guard := none }) rfl (fun KK hK => ?_) (AllReadyK.nil)
              try simp only [List.getElem_toArray, List.getElem_cons_succ, List.getElem_cons_zero]
              go_simp
              refine hK.out _ _ (fun h => absurd (show true = false from h) (by decide)) ?_
              clear hK KK
              try simp only [Act.put, List.setIfInBounds_toArray, List.set_cons_zero, List.set_cons_succ]
              refine wpAnyK_ready (rs := [12]) (by kernel_rfl) (by simp) ?_
              refine AllReadyK.cons (o := { dst := none, op := Op.store 36 (Operand.tmp 11) (Operand.tmp 71), type := 0, pos := "law.go:147", after := #[{ on := 9, ground := Ground.data }, { on := 11, ground := Ground.chain }, { on := 0, ground := Ground.phase }, { on := 1, ground := Ground.phase }, { on := 2, ground := Ground.phase }, { on := 3, ground := Ground.phase }, { on := 4, ground := Ground.phase }, { on := 5, ground := Ground.phase }, { on := 6, ground := Ground.phase }, { on := 7, ground := Ground.phase }, { on := 8, ground := Ground.phase }, { on := 9, ground := Ground.phase }, { on := 10, ground := Ground.textOnly Departure.lateStores }, { on := 11, ground := Ground.phase }], guard := none }) rfl (fun KK hK => ?_) (AllReadyK.nil)
              try simp only [List.getElem_toArray, List.getElem_cons_succ, List.getElem_cons_zero]
              have gy := HP1.out.at (x := T11) (o := wantO bo m bc most) (by simp)
              unfold wantO at gy
              have e0 := cell_blk gy 0 _ rfl
              have e1 := cell_blk gy 1 _ rfl
              have e2 := blk_lt gy
              have e3 := frozen_blk gy 0
              have e4 := frozen_blk gy 1
              go_simp
              obtain ⟨z3, hz3⟩ : ∃ Q, Q = (z1.setCell ⟨T11, 0, none⟩ (.slice bo' m' bc')).setCell ⟨T11, 1, none⟩ (.int .i64 most) := ⟨_, rfl⟩
              rw [← hz3]
              have HP3 : Hid (PS u p' most L1 bo' m' bc' [(T11, wantO bo' m' bc' most), (X8, .cells #[.bool false] 4 (0, 0)), (X6, twoO r0 r1 r2 r3 q0 q1 q2 q3)] z3) := Lib.hid (HP1.out.set (C' := #[.slice bo' m' bc', .int .i64 most]) HT.out.1 (by simp) (by decide) (by decide) (by
                intro x hx
                have := HT.out
                simp at hx
                rcases hx with rfl | rfl <;> simp only <;> omega) (by rw [hz3]; exact setCell_blk (setCell_blk gy 0 _) 1 _) (by rw [hz3]; exact ((Mod.refl (fun q => q = T11) z1).setCell ⟨T11, 0, none⟩ (.inl rfl) _).setCell ⟨T11, 1, none⟩ (.inl rfl) _))
              clear e0 e1 e2 e3 e4 hz3 gy
              refine hK.out _ _ (fun h => absurd (show true = false from h) (by decide)) ?_
              clear hK KK
              try simp only [Act.put, List.setIfInBounds_toArray, List.set_cons_zero, List.set_cons_succ]
              refine wpAnyK_done (by kernel_rfl) ?_ _
              refine NoPanic.normal ?_
              go_wp2
              go_meet
              exact ⟨p', bo', m', bc', rfl, HP3.out⟩
            · try simp only [List.getElem_toArray, List.getElem_cons_succ, List.getElem_cons_zero]
              go_simp
              refine hK.out _ _ (fun h => absurd (show true = false from h) (by decide)) ?_
              clear hK KK
              try simp only [Act.put, List.setIfInBounds_toArray, List.set_cons_zero, List.set_cons_succ]
              refine wpAnyK_ready (rs := [10, 12]) (by kernel_rfl) (by simp) ?_
              refine AllReadyK.cons (o := { dst := some 72, op := Op.extract (Operand.tmp 62) 2, type := 4, pos := "law.go:147", after := #[{ on := 7, ground := Ground.data }, { on := 12, ground := Ground.gcOnly Departure.lateStores }], guard := none }) rfl (fun KK hK => ?_) (AllReadyK.cons (o := { dst := none, op := Op.store 36 (Operand.tmp 11) (Operand.tmp 71), type := 0, pos := "law.go:147", after := #[{ on := 9, ground := Ground.data }, { on := 11, ground := Ground.chain }, { on := 0, ground := Ground.phase }, { on := 1, ground := Ground.phase }, { on := 2, ground := Ground.phase }, { on := 3, ground := Ground.phase }, { on := 4, ground := Ground.phase }, { on := 5, ground := Ground.phase }, { on := 6, ground := Ground.phase }, { on := 7, ground := Ground.phase }, { on := 8, ground := Ground.phase }, { on := 9, ground := Ground.phase }, { on := 10, ground := Ground.textOnly Departure.lateStores }, { on := 11, ground := Ground.phase }], guard := none }) rfl (fun KK hK => ?_) (AllReadyK.nil))
              · try simp only [List.getElem_toArray, List.getElem_cons_succ, List.getElem_cons_zero]
                go_simp
                refine hK.out _ _ (fun h => absurd (show true = false from h) (by decide)) ?_
                clear hK KK
                try simp only [Act.put, List.setIfInBounds_toArray, List.set_cons_zero, List.set_cons_succ]
                refine wpAnyK_ready (rs := [12]) (by kernel_rfl) (by simp) ?_
                refine AllReadyK.cons (o := { dst := none, op := Op.store 36 (Operand.tmp 11) (Operand.tmp 71), type := 0, pos := "law.go:147", after := #[{ on := 9, ground := Ground.data }, { on := 11, ground := Ground.chain }, { on := 0, ground := Ground.phase }, { on := 1, ground := Ground.phase }, { on := 2, ground := Ground.phase }, { on := 3, ground := Ground.phase }, { on := 4, ground := Ground.phase }, { on := 5, ground := Ground.phase }, { on := 6, ground := Ground.phase }, { on := 7, ground := Ground.phase }, { on := 8, ground := Ground.phase }, { on := 9, ground := Ground.phase }, { on := 10, ground := Ground.textOnly Departure.lateStores }, { on := 11, ground := Ground.phase }], guard := none }) rfl (fun KK hK => ?_) (AllReadyK.nil)
                try simp only [List.getElem_toArray, List.getElem_cons_succ, List.getElem_cons_zero]
                have gy := HP1.out.at (x := T11) (o := wantO bo m bc most) (by simp)
                unfold wantO at gy
                have e0 := cell_blk gy 0 _ rfl
                have e1 := cell_blk gy 1 _ rfl
                have e2 := blk_lt gy
                have e3 := frozen_blk gy 0
                have e4 := frozen_blk gy 1
                go_simp
                obtain ⟨z3, hz3⟩ : ∃ Q, Q = (z1.setCell ⟨T11, 0, none⟩ (.slice bo' m' bc')).setCell ⟨T11, 1, none⟩ (.int .i64 most) := ⟨_, rfl⟩
                rw [← hz3]
                have HP3 : Hid (PS u p' most L1 bo' m' bc' [(T11, wantO bo' m' bc' most), (X8, .cells #[.bool false] 4 (0, 0)), (X6, twoO r0 r1 r2 r3 q0 q1 q2 q3)] z3) := Lib.hid (HP1.out.set (C' := #[.slice bo' m' bc', .int .i64 most]) HT.out.1 (by simp) (by decide) (by decide) (by
                  intro x hx
                  have := HT.out
                  simp at hx
                  rcases hx with rfl | rfl <;> simp only <;> omega) (by rw [hz3]; exact setCell_blk (setCell_blk gy 0 _) 1 _) (by rw [hz3]; exact ((Mod.refl (fun q => q = T11) z1).setCell ⟨T11, 0, none⟩ (.inl rfl) _).setCell ⟨T11, 1, none⟩ (.inl rfl) _))
                clear e0 e1 e2 e3 e4 hz3 gy
                refine hK.out _ _ (fun h => absurd (show true = false from h) (by decide)) ?_
                clear hK KK
                try simp only [Act.put, List.setIfInBounds_toArray, List.set_cons_zero, List.set_cons_succ]
                refine wpAnyK_done (by kernel_rfl) ?_ _
                refine NoPanic.normal ?_
                go_wp2
                go_meet
                exact ⟨p', bo', m', bc', rfl, HP3.out⟩
              · try simp only [List.getElem_toArray, List.getElem_cons_succ, List.getElem_cons_zero]
                have gy := HP1.out.at (x := T11) (o := wantO bo m bc most) (by simp)
                unfold wantO at gy
                have e0 := cell_blk gy 0 _ rfl
                have e1 := cell_blk gy 1 _ rfl
                have e2 := blk_lt gy
                have e3 := frozen_blk gy 0
                have e4 := frozen_blk gy 1
                go_simp
                obtain ⟨z3, hz3⟩ : ∃ Q, Q = (z1.setCell ⟨T11, 0, none⟩ (.slice bo' m' bc')).setCell ⟨T11, 1, none⟩ (.int .i64 most) := ⟨_, rfl⟩
                rw [← hz3]
                have HP3 : Hid (PS u p' most L1 bo' m' bc' [(T11, wantO bo' m' bc' most), (X8, .cells #[.bool false] 4 (0, 0)), (X6, twoO r0 r1 r2 r3 q0 q1 q2 q3)] z3) := Lib.hid (HP1.out.set (C' := #[.slice bo' m' bc', .int .i64 most]) HT.out.1 (by simp) (by decide) (by decide) (by
                  intro x hx
                  have := HT.out
                  simp at hx
                  rcases hx with rfl | rfl <;> simp only <;> omega) (by rw [hz3]; exact setCell_blk (setCell_blk gy 0 _) 1 _) (by rw [hz3]; exact ((Mod.refl (fun q => q = T11) z1).setCell ⟨T11, 0, none⟩ (.inl rfl) _).setCell ⟨T11, 1, none⟩ (.inl rfl) _))
                clear e0 e1 e2 e3 e4 hz3 gy
                refine hK.out _ _ (fun h => absurd (show true = false from h) (by decide)) ?_
                clear hK KK
                try simp only [Act.put, List.setIfInBounds_toArray, List.set_cons_zero, List.set_cons_succ]
                refine wpAnyK_ready (rs := [10]) (by kernel_rfl) (by simp) ?_
                refine AllReadyK.cons (o := { dst := some 72, op := Op.extract (Operand.tmp 62) 2, type := 4, pos := "law.go:147", after := #[{ on := 7, ground := Ground.data }, { on := 12, ground := Ground.gcOnly Departure.lateStores }], guard := none }) rfl (fun KK hK => ?_) (AllReadyK.nil)
                try simp only [List.getElem_toArray, List.getElem_cons_succ, List.getElem_cons_zero]
                go_simp
                refine hK.out _ _ (fun h => absurd (show true = false from h) (by decide)) ?_
                clear hK KK
                try simp only [Act.put, List.setIfInBounds_toArray, List.set_cons_zero, List.set_cons_succ]
                refine wpAnyK_done (by kernel_rfl) ?_ _
                refine NoPanic.normal ?_
                go_wp2
                go_meet
                exact ⟨p', bo', m', bc', rfl, HP3.out⟩
          · try simp only [List.getElem_toArray, List.getElem_cons_succ, List.getElem_cons_zero]
            go_simp
            refine hK.out _ _ (fun h => absurd (show true = false from h) (by decide)) ?_
            clear hK KK
            try simp only [Act.put, List.setIfInBounds_toArray, List.set_cons_zero, List.set_cons_succ]
            refine wpAnyK_ready (rs := [9, 11]) (by kernel_rfl) (by simp) ?_
            refine AllReadyK.cons (o := { dst := some 71, op := Op.extract (Operand.tmp 62) 1, type := 36, pos := "law.go:147", after := #[{ on := 7, ground := Ground.data }, { on := 11, ground := Ground.gcOnly Departure.lateStores }], guard := none }) rfl (fun KK hK => ?_) (AllReadyK.cons (o := { dst := some 9, op := Op.assign (Operand.tmp 70), type := 30, pos := "law.go:147", after := #[{ on := 8, ground := Ground.data }, { on := 6, ground := Ground.chain }, { on := 0, ground := Ground.phase }, { on := 1, ground := Ground.phase }, { on := 2, ground := Ground.phase }, { on := 3, ground := Ground.phase }, { on := 4, ground := Ground.phase }, { on := 5, ground := Ground.phase }, { on := 6, ground := Ground.phase }, { on := 7, ground := Ground.phase }, { on := 8, ground := Ground.phase }, { on := 9, ground := Ground.textOnly Departure.lateStores }, { on := 10, ground := Ground.textOnly Departure.lateStores }], guard := none }) rfl (fun KK hK => ?_) (AllReadyK.nil))
            · try simp only [List.getElem_toArray, List.getElem_cons_succ, List.getElem_cons_zero]
              go_simp
              refine hK.out _ _ (fun h => absurd (show true = false from h) (by decide)) ?_
              clear hK KK
              try simp only [Act.put, List.setIfInBounds_toArray, List.set_cons_zero, List.set_cons_succ]
              refine wpAnyK_ready (rs := [11]) (by kernel_rfl) (by simp) ?_
              refine AllReadyK.cons (o := { dst := some 9, op := Op.assign (Operand.tmp 70), type := 30, pos := "law.go:147", after := #[{ on := 8, ground := Ground.data }, { on := 6, ground := Ground.chain }, { on := 0, ground := Ground.phase }, { on := 1, ground := Ground.phase }, { on := 2, ground := Ground.phase }, { on := 3, ground := Ground.phase }, { on := 4, ground := Ground.phase }, { on := 5, ground := Ground.phase }, { on := 6, ground := Ground.phase }, { on := 7, ground := Ground.phase }, { on := 8, ground := Ground.phase }, { on := 9, ground := Ground.textOnly Departure.lateStores }, { on := 10, ground := Ground.textOnly Departure.lateStores }], guard := none }) rfl (fun KK hK => ?_) (AllReadyK.nil)
              try simp only [List.getElem_toArray, List.getElem_cons_succ, List.getElem_cons_zero]
              go_simp
              refine hK.out _ _ (fun h => absurd (show true = false from h) (by decide)) ?_
              clear hK KK
              try simp only [Act.put, List.setIfInBounds_toArray, List.set_cons_zero, List.set_cons_succ]
              refine wpAnyK_ready (rs := [12]) (by kernel_rfl) (by simp) ?_
              refine AllReadyK.cons (o := { dst := none, op := Op.store 36 (Operand.tmp 11) (Operand.tmp 71), type := 0, pos := "law.go:147", after := #[{ on := 9, ground := Ground.data }, { on := 11, ground := Ground.chain }, { on := 0, ground := Ground.phase }, { on := 1, ground := Ground.phase }, { on := 2, ground := Ground.phase }, { on := 3, ground := Ground.phase }, { on := 4, ground := Ground.phase }, { on := 5, ground := Ground.phase }, { on := 6, ground := Ground.phase }, { on := 7, ground := Ground.phase }, { on := 8, ground := Ground.phase }, { on := 9, ground := Ground.phase }, { on := 10, ground := Ground.textOnly Departure.lateStores }, { on := 11, ground := Ground.phase }], guard := none }) rfl (fun KK hK => ?_) (AllReadyK.nil)
              try simp only [List.getElem_toArray, List.getElem_cons_succ, List.getElem_cons_zero]
              have gy := HP1.out.at (x := T11) (o := wantO bo m bc most) (by simp)
              unfold wantO at gy
              have e0 := cell_blk gy 0 _ rfl
              have e1 := cell_blk gy 1 _ rfl
              have e2 := blk_lt gy
              have e3 := frozen_blk gy 0
              have e4 := frozen_blk gy 1
              go_simp
              obtain ⟨z3, hz3⟩ : ∃ Q, Q = (z1.setCell ⟨T11, 0, none⟩ (.slice bo' m' bc')).setCell ⟨T11, 1, none⟩ (.int .i64 most) := ⟨_, rfl⟩
              rw [← hz3]
              have HP3 : Hid (PS u p' most L1 bo' m' bc' [(T11, wantO bo' m' bc' most), (X8, .cells #[.bool false] 4 (0, 0)), (X6, twoO r0 r1 r2 r3 q0 q1 q2 q3)] z3) := Lib.hid (HP1.out.set (C' := #[.slice bo' m' bc', .int .i64 most]) HT.out.1 (by simp) (by decide) (by decide) (by
                intro x hx
                have := HT.out
                simp at hx
                rcases hx with rfl | rfl <;> simp only <;> omega) (by rw [hz3]; exact setCell_blk (setCell_blk gy 0 _) 1 _) (by rw [hz3]; exact ((Mod.refl (fun q => q = T11) z1).setCell ⟨T11, 0, none⟩ (.inl rfl) _).setCell ⟨T11, 1, none⟩ (.inl rfl) _))
              clear e0 e1 e2 e3 e4 hz3 gy
              refine hK.out _ _ (fun h => absurd (show true = false from h) (by decide)) ?_
              clear hK KK
              try simp only [Act.put, List.setIfInBounds_toArray, List.set_cons_zero, List.set_cons_succ]
              refine wpAnyK_done (by kernel_rfl) ?_ _
              refine NoPanic.normal ?_
              go_wp2
              go_meet
              exact ⟨p', bo', m', bc', rfl, HP3.out⟩
            · try simp only [List.getElem_toArray, List.getElem_cons_succ, List.getElem_cons_zero]
              go_simp
              refine hK.out _ _ (fun h => absurd (show true = false from h) (by decide)) ?_
              clear hK KK
              try simp only [Act.put, List.setIfInBounds_toArray, List.set_cons_zero, List.set_cons_succ]
              refine wpAnyK_ready (rs := [9]) (by kernel_rfl) (by simp) ?_
              refine AllReadyK.cons (o := { dst := some 71, op := Op.extract (Operand.tmp 62) 1, type := 36, pos := "law.go:147", after := #[{ on := 7, ground := Ground.data }, { on := 11, ground := Ground.gcOnly Departure.lateStores }], guard := none }) rfl (fun KK hK => ?_) (AllReadyK.nil)
              try simp only [List.getElem_toArray, List.getElem_cons_succ, List.getElem_cons_zero]
              go_simp
              refine hK.out _ _ (fun h => absurd (show true = false from h) (by decide)) ?_
              clear hK KK
              try simp only [Act.put, List.setIfInBounds_toArray, List.set_cons_zero, List.set_cons_succ]
              refine wpAnyK_ready (rs := [12]) (by kernel_rfl) (by simp) ?_
              refine AllReadyK.cons (o := { dst := none, op := Op.store 36 (Operand.tmp 11) (Operand.tmp 71), type := 0, pos := "law.go:147", after := #[{ on := 9, ground := Ground.data }, { on := 11, ground := Ground.chain }, { on := 0, ground := Ground.phase }, { on := 1, ground := Ground.phase }, { on := 2, ground := Ground.phase }, { on := 3, ground := Ground.phase }, { on := 4, ground := Ground.phase }, { on := 5, ground := Ground.phase }, { on := 6, ground := Ground.phase }, { on := 7, ground := Ground.phase }, { on := 8, ground := Ground.phase }, { on := 9, ground := Ground.phase }, { on := 10, ground := Ground.textOnly Departure.lateStores }, { on := 11, ground := Ground.phase }], guard := none }) rfl (fun KK hK => ?_) (AllReadyK.nil)
              try simp only [List.getElem_toArray, List.getElem_cons_succ, List.getElem_cons_zero]
              have gy := HP1.out.at (x := T11) (o := wantO bo m bc most) (by simp)
              unfold wantO at gy
              have e0 := cell_blk gy 0 _ rfl
              have e1 := cell_blk gy 1 _ rfl
              have e2 := blk_lt gy
              have e3 := frozen_blk gy 0
              have e4 := frozen_blk gy 1
              go_simp
              obtain ⟨z3, hz3⟩ : ∃ Q, Q = (z1.setCell ⟨T11, 0, none⟩ (.slice bo' m' bc')).setCell ⟨T11, 1, none⟩ (.int .i64 most) := ⟨_, rfl⟩
              rw [← hz3]
              have HP3 : Hid (PS u p' most L1 bo' m' bc' [(T11, wantO bo' m' bc' most), (X8, .cells #[.bool false] 4 (0, 0)), (X6, twoO r0 r1 r2 r3 q0 q1 q2 q3)] z3) := Lib.hid (HP1.out.set (C' := #[.slice bo' m' bc', .int .i64 most]) HT.out.1 (by simp) (by decide) (by decide) (by
                intro x hx
                have := HT.out
                simp at hx
                rcases hx with rfl | rfl <;> simp only <;> omega) (by rw [hz3]; exact setCell_blk (setCell_blk gy 0 _) 1 _) (by rw [hz3]; exact ((Mod.refl (fun q => q = T11) z1).setCell ⟨T11, 0, none⟩ (.inl rfl) _).setCell ⟨T11, 1, none⟩ (.inl rfl) _))
              clear e0 e1 e2 e3 e4 hz3 gy
              refine hK.out _ _ (fun h => absurd (show true = false from h) (by decide)) ?_
              clear hK KK
              try simp only [Act.put, List.setIfInBounds_toArray, List.set_cons_zero, List.set_cons_succ]
              refine wpAnyK_done (by kernel_rfl) ?_ _
              refine NoPanic.normal ?_
              go_wp2
              go_meet
              exact ⟨p', bo', m', bc', rfl, HP3.out⟩
          · try simp only [List.getElem_toArray, List.getElem_cons_succ, List.getElem_cons_zero]
            go_simp
            refine hK.out _ _ (fun h => absurd (show true = false from h) (by decide)) ?_
            clear hK KK
            try simp only [Act.put, List.setIfInBounds_toArray, List.set_cons_zero, List.set_cons_succ]
            refine wpAnyK_ready (rs := [9, 10]) (by kernel_rfl) (by simp) ?_
            refine AllReadyK.cons (o := { dst := some 71, op := Op.extract (Operand.tmp 62) 1, type := 36, pos := "law.go:147", after := #[{ on := 7, ground := Ground.data }, { on := 11, ground := Ground.gcOnly Departure.lateStores }], guard := none }) rfl (fun KK hK => ?_) (AllReadyK.cons (o := { dst := some 72, op := Op.extract (Operand.tmp 62) 2, type := 4, pos := "law.go:147", after := #[{ on := 7, ground := Ground.data }, { on := 12, ground := Ground.gcOnly Departure.lateStores }], guard := none }) rfl (fun KK hK => ?_) (AllReadyK.nil))
            · try simp only [List.getElem_toArray, List.getElem_cons_succ, List.getElem_cons_zero]
              go_simp
              refine hK.out _ _ (fun h => absurd (show true = false from h) (by decide)) ?_
              clear hK KK
              try simp only [Act.put, List.setIfInBounds_toArray, List.set_cons_zero, List.set_cons_succ]
              refine wpAnyK_ready (rs := [10, 12]) (by kernel_rfl) (by simp) ?_
              refine AllReadyK.cons (o := { dst := some 72, op := Op.extract (Operand.tmp 62) 2, type := 4, pos := "law.go:147", after := #[{ on := 7, ground := Ground.data }, { on := 12, ground := Ground.gcOnly Departure.lateStores }], guard := none }) rfl (fun KK hK => ?_) (AllReadyK.cons (o := { dst := none, op := Op.store 36 (Operand.tmp 11) (Operand.tmp 71), type := 0, pos := "law.go:147", after := #[{ on := 9, ground := Ground.data }, { on := 11, ground := Ground.chain }, { on := 0, ground := Ground.phase }, { on := 1, ground := Ground.phase }, { on := 2, ground := Ground.phase }, { on := 3, ground := Ground.phase }, { on := 4, ground := Ground.phase }, { on := 5, ground := Ground.phase }, { on := 6, ground := Ground.phase }, { on := 7, ground := Ground.phase }, { on := 8, ground := Ground.phase }, { on := 9, ground := Ground.phase }, { on := 10, ground := Ground.textOnly Departure.lateStores }, { on := 11, ground := Ground.phase }], guard := none }) rfl (fun KK hK => ?_) (AllReadyK.nil))
              · try simp only [List.getElem_toArray, List.getElem_cons_succ, List.getElem_cons_zero]
                go_simp
                refine hK.out _ _ (fun h => absurd (show true = false from h) (by decide)) ?_
                clear hK KK
                try simp only [Act.put, List.setIfInBounds_toArray, List.set_cons_zero, List.set_cons_succ]
                refine wpAnyK_ready (rs := [12]) (by kernel_rfl) (by simp) ?_
                refine AllReadyK.cons (o := { dst := none, op := Op.store 36 (Operand.tmp 11) (Operand.tmp 71), type := 0, pos := "law.go:147", after := #[{ on := 9, ground := Ground.data }, { on := 11, ground := Ground.chain }, { on := 0, ground := Ground.phase }, { on := 1, ground := Ground.phase }, { on := 2, ground := Ground.phase }, { on := 3, ground := Ground.phase }, { on := 4, ground := Ground.phase }, { on := 5, ground := Ground.phase }, { on := 6, ground := Ground.phase }, { on := 7, ground := Ground.phase }, { on := 8, ground := Ground.phase }, { on := 9, ground := Ground.phase }, { on := 10, ground := Ground.textOnly Departure.lateStores }, { on := 11, ground := Ground.phase }], guard := none }) rfl (fun KK hK => ?_) (AllReadyK.nil)
                try simp only [List.getElem_toArray, List.getElem_cons_succ, List.getElem_cons_zero]
                have gy := HP1.out.at (x := T11) (o := wantO bo m bc most) (by simp)
                unfold wantO at gy
                have e0 := cell_blk gy 0 _ rfl
                have e1 := cell_blk gy 1 _ rfl
                have e2 := blk_lt gy
                have e3 := frozen_blk gy 0
                have e4 := frozen_blk gy 1
                go_simp
                obtain ⟨z3, hz3⟩ : ∃ Q, Q = (z1.setCell ⟨T11, 0, none⟩ (.slice bo' m' bc')).setCell ⟨T11, 1, none⟩ (.int .i64 most) := ⟨_, rfl⟩
                rw [← hz3]
                have HP3 : Hid (PS u p' most L1 bo' m' bc' [(T11, wantO bo' m' bc' most), (X8, .cells #[.bool false] 4 (0, 0)), (X6, twoO r0 r1 r2 r3 q0 q1 q2 q3)] z3) := Lib.hid (HP1.out.set (C' := #[.slice bo' m' bc', .int .i64 most]) HT.out.1 (by simp) (by decide) (by decide) (by
                  intro x hx
                  have := HT.out
                  simp at hx
                  rcases hx with rfl | rfl <;> simp only <;> omega) (by rw [hz3]; exact setCell_blk (setCell_blk gy 0 _) 1 _) (by rw [hz3]; exact ((Mod.refl (fun q => q = T11) z1).setCell ⟨T11, 0, none⟩ (.inl rfl) _).setCell ⟨T11, 1, none⟩ (.inl rfl) _))
                clear e0 e1 e2 e3 e4 hz3 gy
                refine hK.out _ _ (fun h => absurd (show true = false from h) (by decide)) ?_
                clear hK KK
                try simp only [Act.put, List.setIfInBounds_toArray, List.set_cons_zero, List.set_cons_succ]
                refine wpAnyK_done (by kernel_rfl) ?_ _
                refine NoPanic.normal ?_
                go_wp2
                go_meet
                exact ⟨p', bo', m', bc', rfl, HP3.out⟩
              · try simp only [List.getElem_toArray, List.getElem_cons_succ, List.getElem_cons_zero]
                have gy := HP1.out.at (x := T11) (o := wantO bo m bc most) (by simp)
                unfold wantO at gy
                have e0 := cell_blk gy 0 _ rfl
                have e1 := cell_blk gy 1 _ rfl
                have e2 := blk_lt gy
                have e3 := frozen_blk gy 0
                have e4 := frozen_blk gy 1
                go_simp
                obtain ⟨z3, hz3⟩ : ∃ Q, Q = (z1.setCell ⟨T11, 0, none⟩ (.slice bo' m' bc')).setCell ⟨T11, 1, none⟩ (.int .i64 most) := ⟨_, rfl⟩
                rw [← hz3]
                have HP3 : Hid (PS u p' most L1 bo' m' bc' [(T11, wantO bo' m' bc' most), (X8, .cells #[.bool false] 4 (0, 0)), (X6, twoO r0 r1 r2 r3 q0 q1 q2 q3)] z3) := Lib.hid (HP1.out.set (C' := #[.slice bo' m' bc', .int .i64 most]) HT.out.1 (by simp) (by decide) (by decide) (by
                  intro x hx
                  have := HT.out
                  simp at hx
                  rcases hx with rfl | rfl <;> simp only <;> omega) (by rw [hz3]; exact setCell_blk (setCell_blk gy 0 _) 1 _) (by rw [hz3]; exact ((Mod.refl (fun q => q = T11) z1).setCell ⟨T11, 0, none⟩ (.inl rfl) _).setCell ⟨T11, 1, none⟩ (.inl rfl) _))
                clear e0 e1 e2 e3 e4 hz3 gy
                refine hK.out _ _ (fun h => absurd (show true = false from h) (by decide)) ?_
                clear hK KK
                try simp only [Act.put, List.setIfInBounds_toArray, List.set_cons_zero, List.set_cons_succ]
                refine wpAnyK_ready (rs := [10]) (by kernel_rfl) (by simp) ?_
                refine AllReadyK.cons (o := { dst := some 72, op := Op.extract (Operand.tmp 62) 2, type := 4, pos := "law.go:147", after := #[{ on := 7, ground := Ground.data }, { on := 12, ground := Ground.gcOnly Departure.lateStores }], guard := none }) rfl (fun KK hK => ?_) (AllReadyK.nil)
                try simp only [List.getElem_toArray, List.getElem_cons_succ, List.getElem_cons_zero]
                go_simp
                refine hK.out _ _ (fun h => absurd (show true = false from h) (by decide)) ?_
                clear hK KK
                try simp only [Act.put, List.setIfInBounds_toArray, List.set_cons_zero, List.set_cons_succ]
                refine wpAnyK_done (by kernel_rfl) ?_ _
                refine NoPanic.normal ?_
                go_wp2
                go_meet
                exact ⟨p', bo', m', bc', rfl, HP3.out⟩
            · try simp only [List.getElem_toArray, List.getElem_cons_succ, List.getElem_cons_zero]
              go_simp
              refine hK.out _ _ (fun h => absurd (show true = false from h) (by decide)) ?_
              clear hK KK
              try simp only [Act.put, List.setIfInBounds_toArray, List.set_cons_zero, List.set_cons_succ]
              refine wpAnyK_ready (rs := [9]) (by kernel_rfl) (by simp) ?_
              refine AllReadyK.cons (o := { dst := some 71, op := Op.extract (Operand.tmp 62) 1, type := 36, pos := "law.go:147", after := #[{ on := 7, ground := Ground.data }, { on := 11, ground := Ground.gcOnly Departure.lateStores }], guard := none }) rfl (fun KK hK => ?_) (AllReadyK.nil)
              try simp only [List.getElem_toArray, List.getElem_cons_succ, List.getElem_cons_zero]
              go_simp
              refine hK.out _ _ (fun h => absurd (show true = false from h) (by decide)) ?_
              clear hK KK
              try simp only [Act.put, List.setIfInBounds_toArray, List.set_cons_zero, List.set_cons_succ]
              refine wpAnyK_ready (rs := [12]) (by kernel_rfl) (by simp) ?_
              refine AllReadyK.cons (o := { dst := none, op := Op.store 36 (Operand.tmp 11) (Operand.tmp 71), type := 0, pos := "law.go:147", after := #[{ on := 9, ground := Ground.data }, { on := 11, ground := Ground.chain }, { on := 0, ground := Ground.phase }, { on := 1, ground := Ground.phase }, { on := 2, ground := Ground.phase }, { on := 3, ground := Ground.phase }, { on := 4, ground := Ground.phase }, { on := 5, ground := Ground.phase }, { on := 6, ground := Ground.phase }, { on := 7, ground := Ground.phase }, { on := 8, ground := Ground.phase }, { on := 9, ground := Ground.phase }, { on := 10, ground := Ground.textOnly Departure.lateStores }, { on := 11, ground := Ground.phase }], guard := none }) rfl (fun KK hK => ?_) (AllReadyK.nil)
              try simp only [List.getElem_toArray, List.getElem_cons_succ, List.getElem_cons_zero]
              have gy := HP1.out.at (x := T11) (o := wantO bo m bc most) (by simp)
              unfold wantO at gy
              have e0 := cell_blk gy 0 _ rfl
              have e1 := cell_blk gy 1 _ rfl
              have e2 := blk_lt gy
              have e3 := frozen_blk gy 0
              have e4 := frozen_blk gy 1
              go_simp
              obtain ⟨z3, hz3⟩ : ∃ Q, Q = (z1.setCell ⟨T11, 0, none⟩ (.slice bo' m' bc')).setCell ⟨T11, 1, none⟩ (.int .i64 most) := ⟨_, rfl⟩
              rw [← hz3]
              have HP3 : Hid (PS u p' most L1 bo' m' bc' [(T11, wantO bo' m' bc' most), (X8, .cells #[.bool false] 4 (0, 0)), (X6, twoO r0 r1 r2 r3 q0 q1 q2 q3)] z3) := Lib.hid (HP1.out.set (C' := #[.slice bo' m' bc', .int .i64 most]) HT.out.1 (by simp) (by decide) (by decide) (by
                intro x hx
                have := HT.out
                simp at hx
                rcases hx with rfl | rfl <;> simp only <;> omega) (by rw [hz3]; exact setCell_blk (setCell_blk gy 0 _) 1 _) (by rw [hz3]; exact ((Mod.refl (fun q => q = T11) z1).setCell ⟨T11, 0, none⟩ (.inl rfl) _).setCell ⟨T11, 1, none⟩ (.inl rfl) _))
              clear e0 e1 e2 e3 e4 hz3 gy
              refine hK.out _ _ (fun h => absurd (show true = false from h) (by decide)) ?_
              clear hK KK
              try simp only [Act.put, List.setIfInBounds_toArray, List.set_cons_zero, List.set_cons_succ]
              refine wpAnyK_done (by kernel_rfl) ?_ _
              refine NoPanic.normal ?_
              go_wp2
              go_meet
              exact ⟨p', bo', m', bc', rfl, HP3.out⟩
        · try simp only [List.getElem_toArray, List.getElem_cons_succ, List.getElem_cons_zero]
          go_simp
          refine hK.out _ _ (fun h => absurd (show true = false from h) (by decide)) ?_
          clear hK KK
          try simp only [Act.put, List.setIfInBounds_toArray, List.set_cons_zero, List.set_cons_succ]
          refine wpAnyK_ready (rs := [8, 10]) (by kernel_rfl) (by simp) ?_
          refine AllReadyK.cons (o := { dst := some 70, op := Op.extract (Operand.tmp 62) 0, type := 30, pos := "law.go:147", after := #[{ on := 7, ground := Ground.data }], guard := none }) rfl (fun KK hK => ?_) (AllReadyK.cons (o := { dst := some 72, op := Op.extract (Operand.tmp 62) 2, type := 4, pos := "law.go:147", after := #[{ on := 7, ground := Ground.data }, { on := 12, ground := Ground.gcOnly Departure.lateStores }], guard := none }) rfl (fun KK hK => ?_) (AllReadyK.nil))
          · try simp only [List.getElem_toArray, List.getElem_cons_succ, List.getElem_cons_zero]
            go_simp
            refine hK.out _ _ (fun h => absurd (show true = false from h) (by decide)) ?_
            clear hK KK
            try simp only [Act.put, List.setIfInBounds_toArray, List.set_cons_zero, List.set_cons_succ]
            refine wpAnyK_ready (rs := [10, 11]) (by kernel_rfl) (by simp) ?_
            refine AllReadyK.cons (o := { dst := some 72, op := Op.extract (Operand.tmp 62) 2, type := 4, pos := "law.go:147", after := #[{ on := 7, ground := Ground.data }, { on := 12, ground := Ground.gcOnly Departure.lateStores }], guard := none }) rfl (fun KK hK => ?_) (AllReadyK.cons (o := { dst := some 9, op := Op.assign (Operand.tmp 70), type := 30, pos := "law.go:147", after := #[{ on := 8, ground := Ground.data }, { on := 6, ground := Ground.chain }, { on := 0, ground := Ground.phase }, { on := 1, ground := Ground.phase }, { on := 2, ground := Ground.phase }, { on := 3, ground := Ground.phase }, { on := 4, ground := Ground.phase }, { on := 5, ground := Ground.phase }, { on := 6, ground := Ground.phase }, { on := 7, ground := Ground.phase }, { on := 8, ground := Ground.phase }, { on := 9, ground := Ground.textOnly Departure.lateStores }, { on := 10, ground := Ground.textOnly Departure.lateStores }], guard := none }) rfl (fun KK hK => ?_) (AllReadyK.nil))
            · try simp only [List.getElem_toArray, List.getElem_cons_succ, List.getElem_cons_zero]
              go_simp
              refine hK.out _ _ (fun h => absurd (show true = false from h) (by decide)) ?_
              clear hK KK
              try simp only [Act.put, List.setIfInBounds_toArray, List.set_cons_zero, List.set_cons_succ]
              refine wpAnyK_ready (rs := [11]) (by kernel_rfl) (by simp) ?_
              refine AllReadyK.cons (o := { dst := some 9, op := Op.assign (Operand.tmp 70), type := 30, pos := "law.go:147", after := #[{ on := 8, ground := Ground.data }, { on := 6, ground := Ground.chain }, { on := 0, ground := Ground.phase }, { on := 1, ground := Ground.phase }, { on := 2, ground := Ground.phase }, { on := 3, ground := Ground.phase }, { on := 4, ground := Ground.phase }, { on := 5, ground := Ground.phase }, { on := 6, ground := Ground.phase }, { on := 7, ground := Ground.phase }, { on := 8, ground := Ground.phase }, { on := 9, ground := Ground.textOnly Departure.lateStores }, { on := 10, ground := Ground.textOnly Departure.lateStores }], guard := none }) rfl (fun KK hK => ?_) (AllReadyK.nil)
              try simp only [List.getElem_toArray, List.getElem_cons_succ, List.getElem_cons_zero]
              go_simp
              refine hK.out _ _ (fun h => absurd (show true = false from h) (by decide)) ?_
              clear hK KK
              try simp only [Act.put, List.setIfInBounds_toArray, List.set_cons_zero, List.set_cons_succ]
              refine wpAnyK_ready (rs := [12]) (by kernel_rfl) (by simp) ?_
              refine AllReadyK.cons (o := { dst := none, op := Op.store 36 (Operand.tmp 11) (Operand.tmp 71), type := 0, pos := "law.go:147", after := #[{ on := 9, ground := Ground.data }, { on := 11, ground := Ground.chain }, { on := 0, ground := Ground.phase }, { on := 1, ground := Ground.phase }, { on := 2, ground := Ground.phase }, { on := 3, ground := Ground.phase }, { on := 4, ground := Ground.phase }, { on := 5, ground := Ground.phase }, { on := 6, ground := Ground.phase }, { on := 7, ground := Ground.phase }, { on := 8, ground := Ground.phase }, { on := 9, ground := Ground.phase }, { on := 10, ground := Ground.textOnly Departure.lateStores }, { on := 11, ground := Ground.phase }], guard := none }) rfl (fun KK hK => ?_) (AllReadyK.nil)
              try simp only [List.getElem_toArray, List.getElem_cons_succ, List.getElem_cons_zero]
              have gy := HP1.out.at (x := T11) (o := wantO bo m bc most) (by simp)
              unfold wantO at gy
              have e0 := cell_blk gy 0 _ rfl
              have e1 := cell_blk gy 1 _ rfl
              have e2 := blk_lt gy
              have e3 := frozen_blk gy 0
              have e4 := frozen_blk gy 1
              go_simp
              obtain ⟨z3, hz3⟩ : ∃ Q, Q = (z1.setCell ⟨T11, 0, none⟩ (.slice bo' m' bc')).setCell ⟨T11, 1, none⟩ (.int .i64 most) := ⟨_, rfl⟩
              rw [← hz3]
              have HP3 : Hid (PS u p' most L1 bo' m' bc' [(T11, wantO bo' m' bc' most), (X8, .cells #[.bool false] 4 (0, 0)), (X6, twoO r0 r1 r2 r3 q0 q1 q2 q3)] z3) := Lib.hid (HP1.out.set (C' := #[.slice bo' m' bc', .int .i64 most]) HT.out.1 (by simp) (by decide) (by decide) (by
                intro x hx
                have := HT.out
                simp at hx
                rcases hx with rfl | rfl <;> simp only <;> omega) (by rw [hz3]; exact setCell_blk (setCell_blk gy 0 _) 1 _) (by rw [hz3]; exact ((Mod.refl (fun q => q = T11) z1).setCell ⟨T11, 0, none⟩ (.inl rfl) _).setCell ⟨T11, 1, none⟩ (.inl rfl) _))
              clear e0 e1 e2 e3 e4 hz3 gy
              refine hK.out _ _ (fun h => absurd (show true = false from h) (by decide)) ?_
              clear hK KK
              try simp only [Act.put, List.setIfInBounds_toArray, List.set_cons_zero, List.set_cons_succ]
              refine wpAnyK_done (by kernel_rfl) ?_ _
              refine NoPanic.normal ?_
              go_wp2
              go_meet
              exact ⟨p', bo', m', bc', rfl, HP3.out⟩
            · try simp only [List.getElem_toArray, List.getElem_cons_succ, List.getElem_cons_zero]
              go_simp
              refine hK.out _ _ (fun h => absurd (show true = false from h) (by decide)) ?_
              clear hK KK
              try simp only [Act.put, List.setIfInBounds_toArray, List.set_cons_zero, List.set_cons_succ]
              refine wpAnyK_ready (rs := [10, 12]) (by kernel_rfl) (by simp) ?_
              refine AllReadyK.cons (o := { dst := some 72, op := Op.extract (Operand.tmp 62) 2, type := 4, pos := "law.go:147", after := #[{ on := 7, ground := Ground.data }, { on := 12, ground := Ground.gcOnly Departure.lateStores }], guard := none }) rfl (fun KK hK => ?_) (AllReadyK.cons (o := { dst := none, op := Op.store 36 (Operand.tmp 11) (Operand.tmp 71), type := 0, pos := "law.go:147", after := #[{ on := 9, ground := Ground.data }, { on := 11, ground := Ground.chain }, { on := 0, ground := Ground.phase }, { on := 1, ground := Ground.phase }, { on := 2, ground := Ground.phase }, { on := 3, ground := Ground.phase }, { on := 4, ground := Ground.phase }, { on := 5, ground := Ground.phase }, { on := 6, ground := Ground.phase }, { on := 7, ground := Ground.phase }, { on := 8, ground := Ground.phase }, { on := 9, ground := Ground.phase }, { on := 10, ground := Ground.textOnly Departure.lateStores }, { on := 11, ground := Ground.phase }], guard := none }) rfl (fun KK hK => ?_) (AllReadyK.nil))
              · try simp only [List.getElem_toArray, List.getElem_cons_succ, List.getElem_cons_zero]
                go_simp
                refine hK.out _ _ (fun h => absurd (show true = false from h) (by decide)) ?_
                clear hK KK
                try simp only [Act.put, List.setIfInBounds_toArray, List.set_cons_zero, List.set_cons_succ]
                refine wpAnyK_ready (rs := [12]) (by kernel_rfl) (by simp) ?_
                refine AllReadyK.cons (o := { dst := none, op := Op.store 36 (Operand.tmp 11) (Operand.tmp 71), type := 0, pos := "law.go:147", after := #[{ on := 9, ground := Ground.data }, { on := 11, ground := Ground.chain }, { on := 0, ground := Ground.phase }, { on := 1, ground := Ground.phase }, { on := 2, ground := Ground.phase }, { on := 3, ground := Ground.phase }, { on := 4, ground := Ground.phase }, { on := 5, ground := Ground.phase }, { on := 6, ground := Ground.phase }, { on := 7, ground := Ground.phase }, { on := 8, ground := Ground.phase }, { on := 9, ground := Ground.phase }, { on := 10, ground := Ground.textOnly Departure.lateStores }, { on := 11, ground := Ground.phase }], guard := none }) rfl (fun KK hK => ?_) (AllReadyK.nil)
                try simp only [List.getElem_toArray, List.getElem_cons_succ, List.getElem_cons_zero]
                have gy := HP1.out.at (x := T11) (o := wantO bo m bc most) (by simp)
                unfold wantO at gy
                have e0 := cell_blk gy 0 _ rfl
                have e1 := cell_blk gy 1 _ rfl
                have e2 := blk_lt gy
                have e3 := frozen_blk gy 0
                have e4 := frozen_blk gy 1
                go_simp
                obtain ⟨z3, hz3⟩ : ∃ Q, Q = (z1.setCell ⟨T11, 0, none⟩ (.slice bo' m' bc')).setCell ⟨T11, 1, none⟩ (.int .i64 most) := ⟨_, rfl⟩
                rw [← hz3]
                have HP3 : Hid (PS u p' most L1 bo' m' bc' [(T11, wantO bo' m' bc' most), (X8, .cells #[.bool false] 4 (0, 0)), (X6, twoO r0 r1 r2 r3 q0 q1 q2 q3)] z3) := Lib.hid (HP1.out.set (C' := #[.slice bo' m' bc', .int .i64 most]) HT.out.1 (by simp) (by decide) (by decide) (by
                  intro x hx
                  have := HT.out
                  simp at hx
                  rcases hx with rfl | rfl <;> simp only <;> omega) (by rw [hz3]; exact setCell_blk (setCell_blk gy 0 _) 1 _) (by rw [hz3]; exact ((Mod.refl (fun q => q = T11) z1).setCell ⟨T11, 0, none⟩ (.inl rfl) _).setCell ⟨T11, 1, none⟩ (.inl rfl) _))
                clear e0 e1 e2 e3 e4 hz3 gy
                refine hK.out _ _ (fun h => absurd (show true = false from h) (by decide)) ?_
                clear hK KK
                try simp only [Act.put, List.setIfInBounds_toArray, List.set_cons_zero, List.set_cons_succ]
                refine wpAnyK_done (by kernel_rfl) ?_ _
                refine NoPanic.normal ?_
                go_wp2
                go_meet
                exact ⟨p', bo', m', bc', rfl, HP3.out⟩
              · try simp only [List.getElem_toArray, List.getElem_cons_succ, List.getElem_cons_zero]
                have gy := HP1.out.at (x := T11) (o := wantO bo m bc most) (by simp)
                unfold wantO at gy
                have e0 := cell_blk gy 0 _ rfl
                have e1 := cell_blk gy 1 _ rfl
                have e2 := blk_lt gy
                have e3 := frozen_blk gy 0
                have e4 := frozen_blk gy 1
                go_simp
                obtain ⟨z3, hz3⟩ : ∃ Q, Q = (z1.setCell ⟨T11, 0, none⟩ (.slice bo' m' bc')).setCell ⟨T11, 1, none⟩ (.int .i64 most) := ⟨_, rfl⟩
                rw [← hz3]
                have HP3 : Hid (PS u p' most L1 bo' m' bc' [(T11, wantO bo' m' bc' most), (X8, .cells #[.bool false] 4 (0, 0)), (X6, twoO r0 r1 r2 r3 q0 q1 q2 q3)] z3) := Lib.hid (HP1.out.set (C' := #[.slice bo' m' bc', .int .i64 most]) HT.out.1 (by simp) (by decide) (by decide) (by
                  intro x hx
                  have := HT.out
                  simp at hx
                  rcases hx with rfl | rfl <;> simp only <;> omega) (by rw [hz3]; exact setCell_blk (setCell_blk gy 0 _) 1 _) (by rw [hz3]; exact ((Mod.refl (fun q => q = T11) z1).setCell ⟨T11, 0, none⟩ (.inl rfl) _).setCell ⟨T11, 1, none⟩ (.inl rfl) _))
                clear e0 e1 e2 e3 e4 hz3 gy
                refine hK.out _ _ (fun h => absurd (show true = false from h) (by decide)) ?_
                clear hK KK
                try simp only [Act.put, List.setIfInBounds_toArray, List.set_cons_zero, List.set_cons_succ]
                refine wpAnyK_ready (rs := [10]) (by kernel_rfl) (by simp) ?_
                refine AllReadyK.cons (o := { dst := some 72, op := Op.extract (Operand.tmp 62) 2, type := 4, pos := "law.go:147", after := #[{ on := 7, ground := Ground.data }, { on := 12, ground := Ground.gcOnly Departure.lateStores }], guard := none }) rfl (fun KK hK => ?_) (AllReadyK.nil)
                try simp only [List.getElem_toArray, List.getElem_cons_succ, List.getElem_cons_zero]
                go_simp
                refine hK.out _ _ (fun h => absurd (show true = false from h) (by decide)) ?_
                clear hK KK
                try simp only [Act.put, List.setIfInBounds_toArray, List.set_cons_zero, List.set_cons_succ]
                refine wpAnyK_done (by kernel_rfl) ?_ _
                refine NoPanic.normal ?_
                go_wp2
                go_meet
                exact ⟨p', bo', m', bc', rfl, HP3.out⟩
          · try simp only [List.getElem_toArray, List.getElem_cons_succ, List.getElem_cons_zero]
            go_simp
            refine hK.out _ _ (fun h => absurd (show true = false from h) (by decide)) ?_
            clear hK KK
            try simp only [Act.put, List.setIfInBounds_toArray, List.set_cons_zero, List.set_cons_succ]
            refine wpAnyK_ready (rs := [8]) (by kernel_rfl) (by simp) ?_
            refine AllReadyK.cons (o := { dst := some 70, op := Op.extract (Operand.tmp 62) 0, type := 30, pos := "law.go:147", after := #[{ on := 7, ground := Ground.data }], guard := none }) rfl (fun KK hK => ?_) (AllReadyK.nil)
            try simp only [List.getElem_toArray, List.getElem_cons_succ, List.getElem_cons_zero]
            go_simp
            refine hK.out _ _ (fun h => absurd (show true = false from h) (by decide)) ?_
            clear hK KK
            try simp only [Act.put, List.setIfInBounds_toArray, List.set_cons_zero, List.set_cons_succ]
            refine wpAnyK_ready (rs := [11]) (by kernel_rfl) (by simp) ?_
            refine AllReadyK.cons (o := { dst := some 9, op := Op.assign (Operand.tmp 70), type := 30, pos := "law.go:147", after := #[{ on := 8, ground := Ground.data }, { on := 6, ground := Ground.chain }, { on := 0, ground := Ground.phase }, { on := 1, ground := Ground.phase }, { on := 2, ground := Ground.phase }, { on := 3, ground := Ground.phase }, { on := 4, ground := Ground.phase }, { on := 5, ground := Ground.phase }, { on := 6, ground := Ground.phase }, { on := 7, ground := Ground.phase }, { on := 8, ground := Ground.phase }, { on := 9, ground := Ground.textOnly Departure.lateStores }, { on := 10, ground := Ground.textOnly Departure.lateStores }], guard := none }) rfl (fun KK hK => ?_) (AllReadyK.nil)
            try simp only [List.getElem_toArray, List.getElem_cons_succ, List.getElem_cons_zero]
            go_simp
            refine hK.out _ _ (fun h => absurd (show true = false from h) (by decide)) ?_
            clear hK KK
            try simp only [Act.put, List.setIfInBounds_toArray, List.set_cons_zero, List.set_cons_succ]
            refine wpAnyK_ready (rs := [12]) (by kernel_rfl) (by simp) ?_
            refine AllReadyK.cons (o := { dst := none, op := Op.store 36 (Operand.tmp 11) (Operand.tmp 71), type := 0, pos := "law.go:147", after := #[{ on := 9, ground := Ground.data }, { on := 11, ground := Ground.chain }, { on := 0, ground := Ground.phase }, { on := 1, ground := Ground.phase }, { on := 2, ground := Ground.phase }, { on := 3, ground := Ground.phase }, { on := 4, ground := Ground.phase }, { on := 5, ground := Ground.phase }, { on := 6, ground := Ground.phase }, { on := 7, ground := Ground.phase }, { on := 8, ground := Ground.phase }, { on := 9, ground := Ground.phase }, { on := 10, ground := Ground.textOnly Departure.lateStores }, { on := 11, ground := Ground.phase }], guard := none }) rfl (fun KK hK => ?_) (AllReadyK.nil)
            try simp only [List.getElem_toArray, List.getElem_cons_succ, List.getElem_cons_zero]
            have gy := HP1.out.at (x := T11) (o := wantO bo m bc most) (by simp)
            unfold wantO at gy
            have e0 := cell_blk gy 0 _ rfl
            have e1 := cell_blk gy 1 _ rfl
            have e2 := blk_lt gy
            have e3 := frozen_blk gy 0
            have e4 := frozen_blk gy 1
            go_simp
            obtain ⟨z3, hz3⟩ : ∃ Q, Q = (z1.setCell ⟨T11, 0, none⟩ (.slice bo' m' bc')).setCell ⟨T11, 1, none⟩ (.int .i64 most) := ⟨_, rfl⟩
            rw [← hz3]
            have HP3 : Hid (PS u p' most L1 bo' m' bc' [(T11, wantO bo' m' bc' most), (X8, .cells #[.bool false] 4 (0, 0)), (X6, twoO r0 r1 r2 r3 q0 q1 q2 q3)] z3) := Lib.hid (HP1.out.set (C' := #[.slice bo' m' bc', .int .i64 most]) HT.out.1 (by simp) (by decide) (by decide) (by
              intro x hx
              have := HT.out
              simp at hx
              rcases hx with rfl | rfl <;> simp only <;> omega) (by rw [hz3]; exact setCell_blk (setCell_blk gy 0 _) 1 _) (by rw [hz3]; exact ((Mod.refl (fun q => q = T11) z1).setCell ⟨T11, 0, none⟩ (.inl rfl) _).setCell ⟨T11, 1, none⟩ (.inl rfl) _))
            clear e0 e1 e2 e3 e4 hz3 gy
            refine hK.out _ _ (fun h => absurd (show true = false from h) (by decide)) ?_
            clear hK KK
            try simp only [Act.put, List.setIfInBounds_toArray, List.set_cons_zero, List.set_cons_succ]
            refine wpAnyK_done (by kernel_rfl) ?_ _
            refine NoPanic.normal ?_
            go_wp2
            go_meet
            exact ⟨p', bo', m', bc', rfl, HP3.out⟩
        · try simp only [List.getElem_toArray, List.getElem_cons_succ, List.getElem_cons_zero]
          go_simp
          refine hK.out _ _ (fun h => absurd (show true = false from h) (by decide)) ?_
          clear hK KK
          try simp only [Act.put, List.setIfInBounds_toArray, List.set_cons_zero, List.set_cons_succ]
          refine wpAnyK_ready (rs := [8, 9]) (by kernel_rfl) (by simp) ?_
          refine AllReadyK.cons (o := { dst := some 70, op := Op.extract (Operand.tmp 62) 0, type := 30, pos := "law.go:147", after := #[{ on := 7, ground := Ground.data }], guard := none }) rfl (fun KK hK => ?_) (AllReadyK.cons (o := { dst := some 71, op := Op.extract (Operand.tmp 62) 1, type := 36, pos := "law.go:147", after := #[{ on := 7, ground := Ground.data }, { on := 11, ground := Ground.gcOnly Departure.lateStores }], guard := none }) rfl (fun KK hK => ?_) (AllReadyK.nil))
          · try simp only [List.getElem_toArray, List.getElem_cons_succ, List.getElem_cons_zero]
            go_simp
            refine hK.out _ _ (fun h => absurd (show true = false from h) (by decide)) ?_
            clear hK KK
            try simp only [Act.put, List.setIfInBounds_toArray, List.set_cons_zero, List.set_cons_succ]
            refine wpAnyK_ready (rs := [9, 11]) (by kernel_rfl) (by simp) ?_
            refine AllReadyK.cons (o := { dst := some 71, op := Op.extract (Operand.tmp 62) 1, type := 36, pos := "law.go:147", after := #[{ on := 7, ground := Ground.data }, { on := 11, ground := Ground.gcOnly Departure.lateStores }], guard := none }) rfl (fun KK hK => ?_) (AllReadyK.cons (o := { dst := some 9, op := Op.assign (Operand.tmp 70), type := 30, pos := "law.go:147", after := #[{ on := 8, ground := Ground.data }, { on := 6, ground := Ground.chain }, { on := 0, ground := Ground.phase }, { on := 1, ground := Ground.phase }, { on := 2, ground := Ground.phase }, { on := 3, ground := Ground.phase }, { on := 4, ground := Ground.phase }, { on := 5, ground := Ground.phase }, { on := 6, ground := Ground.phase }, { on := 7, ground := Ground.phase }, { on := 8, ground := Ground.phase }, { on := 9, ground := Ground.textOnly Departure.lateStores }, { on := 10, ground := Ground.textOnly Departure.lateStores }], guard := none }) rfl (fun KK hK => ?_) (AllReadyK.nil))
            · try simp only [List.getElem_toArray, List.getElem_cons_succ, List.getElem_cons_zero]
              go_simp
              refine hK.out _ _ (fun h => absurd (show true = false from h) (by decide)) ?_
              clear hK KK
              try simp only [Act.put, List.setIfInBounds_toArray, List.set_cons_zero, List.set_cons_succ]
              refine wpAnyK_ready (rs := [11]) (by kernel_rfl) (by simp) ?_
              refine AllReadyK.cons (o := { dst := some 9, op := Op.assign (Operand.tmp 70), type := 30, pos := "law.go:147", after := #[{ on := 8, ground := Ground.data }, { on := 6, ground := Ground.chain }, { on := 0, ground := Ground.phase }, { on := 1, ground := Ground.phase }, { on := 2, ground := Ground.phase }, { on := 3, ground := Ground.phase }, { on := 4, ground := Ground.phase }, { on := 5, ground := Ground.phase }, { on := 6, ground := Ground.phase }, { on := 7, ground := Ground.phase }, { on := 8, ground := Ground.phase }, { on := 9, ground := Ground.textOnly Departure.lateStores }, { on := 10, ground := Ground.textOnly Departure.lateStores }], guard := none }) rfl (fun KK hK => ?_) (AllReadyK.nil)
              try simp only [List.getElem_toArray, List.getElem_cons_succ, List.getElem_cons_zero]
              go_simp
              refine hK.out _ _ (fun h => absurd (show true = false from h) (by decide)) ?_
              clear hK KK
              try simp only [Act.put, List.setIfInBounds_toArray, List.set_cons_zero, List.set_cons_succ]
              refine wpAnyK_ready (rs := [12]) (by kernel_rfl) (by simp) ?_
              refine AllReadyK.cons (o := { dst := none, op := Op.store 36 (Operand.tmp 11) (Operand.tmp 71), type := 0, pos := "law.go:147", after := #[{ on := 9, ground := Ground.data }, { on := 11, ground := Ground.chain }, { on := 0, ground := Ground.phase }, { on := 1, ground := Ground.phase }, { on := 2, ground := Ground.phase }, { on := 3, ground := Ground.phase }, { on := 4, ground := Ground.phase }, { on := 5, ground := Ground.phase }, { on := 6, ground := Ground.phase }, { on := 7, ground := Ground.phase }, { on := 8, ground := Ground.phase }, { on := 9, ground := Ground.phase }, { on := 10, ground := Ground.textOnly Departure.lateStores }, { on := 11, ground := Ground.phase }], guard := none }) rfl (fun KK hK => ?_) (AllReadyK.nil)
              try simp only [List.getElem_toArray, List.getElem_cons_succ, List.getElem_cons_zero]
              have gy := HP1.out.at (x := T11) (o := wantO bo m bc most) (by simp)
              unfold wantO at gy
              have e0 := cell_blk gy 0 _ rfl
              have e1 := cell_blk gy 1 _ rfl
              have e2 := blk_lt gy
              have e3 := frozen_blk gy 0
              have e4 := frozen_blk gy 1
              go_simp
              obtain ⟨z3, hz3⟩ : ∃ Q, Q = (z1.setCell ⟨T11, 0, none⟩ (.slice bo' m' bc')).setCell ⟨T11, 1, none⟩ (.int .i64 most) := ⟨_, rfl⟩
              rw [← hz3]
              have HP3 : Hid (PS u p' most L1 bo' m' bc' [(T11, wantO bo' m' bc' most), (X8, .cells #[.bool false] 4 (0, 0)), (X6, twoO r0 r1 r2 r3 q0 q1 q2 q3)] z3) := Lib.hid (HP1.out.set (C' := #[.slice bo' m' bc', .int .i64 most]) HT.out.1 (by simp) (by decide) (by decide) (by
                intro x hx
                have := HT.out
                simp at hx
                rcases hx with rfl | rfl <;> simp only <;> omega) (by rw [hz3]; exact setCell_blk (setCell_blk gy 0 _) 1 _) (by rw [hz3]; exact ((Mod.refl (fun q => q = T11) z1).setCell ⟨T11, 0, none⟩ (.inl rfl) _).setCell ⟨T11, 1, none⟩ (.inl rfl) _))
              clear e0 e1 e2 e3 e4 hz3 gy
              refine hK.out _ _ (fun h => absurd (show true = false from h) (by decide)) ?_
              clear hK KK
              try simp only [Act.put, List.setIfInBounds_toArray, List.set_cons_zero, List.set_cons_succ]
              refine wpAnyK_done (by kernel_rfl) ?_ _
              refine NoPanic.normal ?_
              go_wp2
              go_meet
              exact ⟨p', bo', m', bc', rfl, HP3.out⟩
            · try simp only [List.getElem_toArray, List.getElem_cons_succ, List.getElem_cons_zero]
              go_simp
              refine hK.out _ _ (fun h => absurd (show true = false from h) (by decide)) ?_
              clear hK KK
              try simp only [Act.put, List.setIfInBounds_toArray, List.set_cons_zero, List.set_cons_succ]
              refine wpAnyK_ready (rs := [9]) (by kernel_rfl) (by simp) ?_
              refine AllReadyK.cons (o := { dst := some 71, op := Op.extract (Operand.tmp 62) 1, type := 36, pos := "law.go:147", after := #[{ on := 7, ground := Ground.data }, { on := 11, ground := Ground.gcOnly Departure.lateStores }], guard := none }) rfl (fun KK hK => ?_) (AllReadyK.nil)
              try simp only [List.getElem_toArray, List.getElem_cons_succ, List.getElem_cons_zero]
              go_simp
              refine hK.out _ _ (fun h => absurd (show true = false from h) (by decide)) ?_
              clear hK KK
              try simp only [Act.put, List.setIfInBounds_toArray, List.set_cons_zero, List.set_cons_succ]
              refine wpAnyK_ready (rs := [12]) (by kernel_rfl) (by simp) ?_
              refine AllReadyK.cons (o := { dst := none, op := Op.store 36 (Operand.tmp 11) (Operand.tmp 71), type := 0, pos := "law.go:147", after := #[{ on := 9, ground := Ground.data }, { on := 11, ground := Ground.chain }, { on := 0, ground := Ground.phase }, { on := 1, ground := Ground.phase }, { on := 2, ground := Ground.phase }, { on := 3, ground := Ground.phase }, { on := 4, ground := Ground.phase }, { on := 5, ground := Ground.phase }, { on := 6, ground := Ground.phase }, { on := 7, ground := Ground.phase }, { on := 8, ground := Ground.phase }, { on := 9, ground := Ground.phase }, { on := 10, ground := Ground.textOnly Departure.lateStores }, { on := 11, ground := Ground.phase }], guard := none }) rfl (fun KK hK => ?_) (AllReadyK.nil)
              try simp only [List.getElem_toArray, List.getElem_cons_succ, List.getElem_cons_zero]
              have gy := HP1.out.at (x := T11) (o := wantO bo m bc most) (by simp)
              unfold wantO at gy
              have e0 := cell_blk gy 0 _ rfl
              have e1 := cell_blk gy 1 _ rfl
              have e2 := blk_lt gy
              have e3 := frozen_blk gy 0
              have e4 := frozen_blk gy 1
              go_simp
              obtain ⟨z3, hz3⟩ : ∃ Q, Q = (z1.setCell ⟨T11, 0, none⟩ (.slice bo' m' bc')).setCell ⟨T11, 1, none⟩ (.int .i64 most) := ⟨_, rfl⟩
              rw [← hz3]
              have HP3 : Hid (PS u p' most L1 bo' m' bc' [(T11, wantO bo' m' bc' most), (X8, .cells #[.bool false] 4 (0, 0)), (X6, twoO r0 r1 r2 r3 q0 q1 q2 q3)] z3) := Lib.hid (HP1.out.set (C' := #[.slice bo' m' bc', .int .i64 most]) HT.out.1 (by simp) (by decide) (by decide) (by
                intro x hx
                have := HT.out
                simp at hx
                rcases hx with rfl | rfl <;> simp only <;> omega) (by rw [hz3]; exact setCell_blk (setCell_blk gy 0 _) 1 _) (by rw [hz3]; exact ((Mod.refl (fun q => q = T11) z1).setCell ⟨T11, 0, none⟩ (.inl rfl) _).setCell ⟨T11, 1, none⟩ (.inl rfl) _))
              clear e0 e1 e2 e3 e4 hz3 gy
              refine hK.out _ _ (fun h => absurd (show true = false from h) (by decide)) ?_
              clear hK KK
              try simp only [Act.put, List.setIfInBounds_toArray, List.set_cons_zero, List.set_cons_succ]
              refine wpAnyK_done (by kernel_rfl) ?_ _
              refine NoPanic.normal ?_
              go_wp2
              go_meet
              exact ⟨p', bo', m', bc', rfl, HP3.out⟩
          · try simp only [List.getElem_toArray, List.getElem_cons_succ, List.getElem_cons_zero]
            go_simp
            refine hK.out _ _ (fun h => absurd (show true = false from h) (by decide)) ?_
            clear hK KK
            try simp only [Act.put, List.setIfInBounds_toArray, List.set_cons_zero, List.set_cons_succ]
            refine wpAnyK_ready (rs := [8]) (by kernel_rfl) (by simp) ?_
            refine AllReadyK.cons (o := { dst := some 70, op := Op.extract (Operand.tmp 62) 0, type := 30, pos := "law.go:147", after := #[{ on := 7, ground := Ground.data }], guard := none }) rfl (fun KK hK => ?_) (AllReadyK.nil)
            try simp only [List.getElem_toArray, List.getElem_cons_succ, List.getElem_cons_zero]
            go_simp
            refine hK.out _ _ (fun h => absurd (show true = false from h) (by decide)) ?_
            clear hK KK
            try simp only [Act.put, List.setIfInBounds_toArray, List.set_cons_zero, List.set_cons_succ]
            refine wpAnyK_ready (rs := [11]) (by kernel_rfl) (by simp) ?_
            refine AllReadyK.cons (o := { dst := some 9, op := Op.assign (Operand.tmp 70), type := 30, pos := "law.go:147", after := #[{ on := 8, ground := Ground.data }, { on := 6, ground := Ground.chain }, { on := 0, ground := Ground.phase }, { on := 1, ground := Ground.phase }, { on := 2, ground := Ground.phase }, { on := 3, ground := Ground.phase }, { on := 4, ground := Ground.phase }, { on := 5, ground := Ground.phase }, { on := 6, ground := Ground.phase }, { on := 7, ground := Ground.phase }, { on := 8, ground := Ground.phase }, { on := 9, ground := Ground.textOnly Departure.lateStores }, { on := 10, ground := Ground.textOnly Departure.lateStores }], guard := none }) rfl (fun KK hK => ?_) (AllReadyK.nil)
            try simp only [List.getElem_toArray, List.getElem_cons_succ, List.getElem_cons_zero]
            go_simp
            refine hK.out _ _ (fun h => absurd (show true = false from h) (by decide)) ?_
            clear hK KK
            try simp only [Act.put, List.setIfInBounds_toArray, List.set_cons_zero, List.set_cons_succ]
            refine wpAnyK_ready (rs := [12]) (by kernel_rfl) (by simp) ?_
            refine AllReadyK.cons (o := { dst := none, op := Op.store 36 (Operand.tmp 11) (Operand.tmp 71), type := 0, pos := "law.go:147", after := #[{ on := 9, ground := Ground.data }, { on := 11, ground := Ground.chain }, { on := 0, ground := Ground.phase }, { on := 1, ground := Ground.phase }, { on := 2, ground := Ground.phase }, { on := 3, ground := Ground.phase }, { on := 4, ground := Ground.phase }, { on := 5, ground := Ground.phase }, { on := 6, ground := Ground.phase }, { on := 7, ground := Ground.phase }, { on := 8, ground := Ground.phase }, { on := 9, ground := Ground.phase }, { on := 10, ground := Ground.textOnly Departure.lateStores }, { on := 11, ground := Ground.phase }], guard := none }) rfl (fun KK hK => ?_) (AllReadyK.nil)
            try simp only [List.getElem_toArray, List.getElem_cons_succ, List.getElem_cons_zero]
            have gy := HP1.out.at (x := T11) (o := wantO bo m bc most) (by simp)
            unfold wantO at gy
            have e0 := cell_blk gy 0 _ rfl
            have e1 := cell_blk gy 1 _ rfl
            have e2 := blk_lt gy
            have e3 := frozen_blk gy 0
            have e4 := frozen_blk gy 1
            go_simp
            obtain ⟨z3, hz3⟩ : ∃ Q, Q = (z1.setCell ⟨T11, 0, none⟩ (.slice bo' m' bc')).setCell ⟨T11, 1, none⟩ (.int .i64 most) := ⟨_, rfl⟩
            rw [← hz3]
            have HP3 : Hid (PS u p' most L1 bo' m' bc' [(T11, wantO bo' m' bc' most), (X8, .cells #[.bool false] 4 (0, 0)), (X6, twoO r0 r1 r2 r3 q0 q1 q2 q3)] z3) := Lib.hid (HP1.out.set (C' := #[.slice bo' m' bc', .int .i64 most]) HT.out.1 (by simp) (by decide) (by decide) (by
              intro x hx
              have := HT.out
              simp at hx
              rcases hx with rfl | rfl <;> simp only <;> omega) (by rw [hz3]; exact setCell_blk (setCell_blk gy 0 _) 1 _) (by rw [hz3]; exact ((Mod.refl (fun q => q = T11) z1).setCell ⟨T11, 0, none⟩ (.inl rfl) _).setCell ⟨T11, 1, none⟩ (.inl rfl) _))
            clear e0 e1 e2 e3 e4 hz3 gy
            refine hK.out _ _ (fun h => absurd (show true = false from h) (by decide)) ?_
            clear hK KK
            try simp only [Act.put, List.setIfInBounds_toArray, List.set_cons_zero, List.set_cons_succ]
            refine wpAnyK_done (by kernel_rfl) ?_ _
            refine NoPanic.normal ?_
            go_wp2
            go_meet
            exact ⟨p', bo', m', bc', rfl, HP3.out⟩
      case rest =>
        obtain ⟨p', bo', m', bc', rfl, hps⟩ := hcut
        have Pc := Lib.hid hps
        clear hps c0 c1 lt P e1 HCA
        go_wp2_with fail
        go_roundg (n - (j + 1))
        case measure => have := HG.out; omega
        case rel => exact ⟨j + 1, p', bo', m', bc', rfl, by go_num, by omega, rfl, by rw [← HL1.out]; exact Pc.out⟩
    · have hjn : j = n := by omega
      subst hjn
      have e1 : decide ((j : Int) < j) = false := by simp
      obtain ⟨L, hL⟩ : ∃ L, L = runL most z j := ⟨_, rfl⟩
      rw [← hL] at P
      obtain ⟨Kg, hg1, hg2, hg3⟩ := P.out.keepDR
      have HGD := Lib.hid (And.intro hg1 (And.intro hg2 hg3))
      have HCp := Lib.hid hg1.copy
      clear hg1 hg2 hg3 HG hL HA c0 c1 lt
      go_wp2_with (go_at_call 14; fail)
      refine HCp.out.mono ?_
      rintro e v4 ⟨pc, Kc, rfl, hps, hc46, hcw, hct⟩
      have P4 := Lib.hid hps
      have HKc := Lib.hid (And.intro hc46 (And.intro hcw hct))
      clear hps hc46 hcw hct HCp
      have ht := P4.out.at (x := T11) (o := wantO bo m bc most) (by simp)
      have h6 := P4.out.at (x := X6) (o := twoO r0 r1 r2 r3 q0 q1 q2 q3) (by simp)
      unfold wantO at ht
      unfold twoO at h6
      have c0 := cell_blk ht 0 _ rfl
      have c1 := cell_blk ht 1 _ rfl
      have lt := blk_lt ht
      have y0 := cell_blk h6 0 _ rfl
      have y1 := cell_blk h6 1 _ rfl
      have y2 := cell_blk h6 2 _ rfl
      have y3 := cell_blk h6 3 _ rfl
      have y4 := cell_blk h6 4 _ rfl
      have y5 := cell_blk h6 5 _ rfl
      have y6 := cell_blk h6 6 _ rfl
      have y7 := cell_blk h6 7 _ rfl
      have l6 := blk_lt h6
      clear ht h6
      go_wp2_with (go_at_call 11; fail)
      refine (P4.out.act r0 r1 r2 r3 HR.out.1.1 HR.out.1.2.1 HR.out.1.2.2.1 HR.out.1.2.2.2.1 HR.out.1.2.2.2.2.1 HR.out.1.2.2.2.2.2).mono ?_
      rintro e v5 ⟨p1, bo1, m1, bc1, rfl, hps⟩
      obtain ⟨L1, hL1⟩ : ∃ l, l = actL most L r0 r1 r2 r3 := ⟨_, rfl⟩
      rw [← hL1] at hps
      have P5 := Lib.hid hps
      clear hps hL1 c0 c1 lt y0 y1 y2 y3 y4 y5 y6 y7 l6 P4
      go_upto_region 11 with fail
      obtain ⟨T15, hT⟩ : ∃ X, X = v5.heap.size := ⟨_, rfl⟩
      obtain ⟨v6, hv6⟩ : ∃ W, W = v5.alloc (.cells #[.slice bo1 m1 bc1, .int .i64 most] 36) := ⟨_, rfl⟩
      have hps := P5.out.add (.cells #[.slice bo1 m1 bc1, .int .i64 most] 36)
      rw [← hv6, ← hT] at hps ⊢
      have hps2 : PS u p1 most L1 bo1 m1 bc1 (Kc ++ (Kg ++ ((T15, wantO bo1 m1 bc1 most) :: [(T11, wantO bo m bc most), (X8, .cells #[.bool false] 4 (0, 0)), (X6, twoO r0 r1 r2 r3 q0 q1 q2 q3)]))) v6 := hps.less (fun x hx => by
        simp only [List.mem_append, List.mem_cons] at hx ⊢
        rcases hx with h | h | h | h
        · exact .inr (.inl h)
        · exact .inr (.inr (.inl h))
        · exact .inl h
        · exact .inr (.inr (.inr h)))
      obtain ⟨Kt, Kd, hps3, n46, a46, htt, hdd⟩ := hps2.swap HKc.out.2.2 HKc.out.1 (fun x hx => Nat.le_trans HGD.out.1.bel.size (HKc.out.2.1 x hx)) (fun x hx y hy => by
        have h1 := HKc.out.2.1 x hx
        have h2 := blk_lt (P5.out.at (x := x.1) (o := x.2) (by simp [hx]))
        simp only [List.mem_append, List.mem_cons] at hy
        rcases hy with h | rfl | h
        · have := blk_lt (HGD.out.1.at (x := y.1) (o := y.2) (by simp [h]))
          omega
        · simp only
          omega
        · have hm : y ∈ Kg ++ [(T11, wantO bo m bc most), (X8, .cells #[.bool false] 4 (0, 0)), (X6, twoO r0 r1 r2 r3 q0 q1 q2 q3)] := List.mem_append.2 (.inr (by simp only [List.mem_cons]; exact h))
          have := blk_lt (HGD.out.1.at (x := y.1) (o := y.2) hm)
          omega) HGD.out.2.2
      have P7 := Lib.hid hps3
      have HKt := Lib.hid (And.intro n46 (And.intro a46 (And.intro htt hdd)))
      have ht := hps3.at (x := T11) (o := wantO bo m bc most) (by simp)
      have h6 := hps3.at (x := X6) (o := twoO r0 r1 r2 r3 q0 q1 q2 q3) (by simp)
      unfold wantO at ht
      unfold twoO at h6
      have c0 := cell_blk ht 0 _ rfl
      have c1 := cell_blk ht 1 _ rfl
      have lt := blk_lt ht
      have y0 := cell_blk h6 0 _ rfl
      have y1 := cell_blk h6 1 _ rfl
      have y2 := cell_blk h6 2 _ rfl
      have y3 := cell_blk h6 3 _ rfl
      have y4 := cell_blk h6 4 _ rfl
      have y5 := cell_blk h6 5 _ rfl
      have y6 := cell_blk h6 6 _ rfl
      have y7 := cell_blk h6 7 _ rfl
      have l6 := blk_lt h6
      clear ht h6 hv6 hT hps hps2 hps3 n46 a46 htt hdd P5 HKc HGD
      go_wp2_with (go_at_call 11; fail)
      refine (P7.out.act q0 q1 q2 q3 HR.out.2.1 HR.out.2.2.1 HR.out.2.2.2.1 HR.out.2.2.2.2.1 HR.out.2.2.2.2.2.1 HR.out.2.2.2.2.2.2).mono ?_
      rintro e v7 ⟨p2, bo2, m2, bc2, rfl, hps⟩
      obtain ⟨L2, hL2⟩ : ∃ l, l = actL most L q0 q1 q2 q3 := ⟨_, rfl⟩
      rw [← hL2] at hps
      have P8 := Lib.hid hps
      clear hps hL2 c0 c1 lt y0 y1 y2 y3 y4 y5 y6 y7 l6 P7
      go_upto_region 12 with fail
      obtain ⟨T17, hT⟩ : ∃ X, X = v7.heap.size := ⟨_, rfl⟩
      obtain ⟨v8, hv8⟩ : ∃ W, W = v7.alloc (.cells #[.slice bo2 m2 bc2, .int .i64 most] 36) := ⟨_, rfl⟩
      have hps := P8.out.add (.cells #[.slice bo2 m2 bc2, .int .i64 most] 36)
      rw [← hv8, ← hT] at hps ⊢
      have hps2 : PS u p2 most L2 bo2 m2 bc2 (Kt ++ (Kd ++ ((T17, wantO bo2 m2 bc2 most) :: (T15, wantO bo1 m1 bc1 most) :: [(T11, wantO bo m bc most), (X8, .cells #[.bool false] 4 (0, 0)), (X6, twoO r0 r1 r2 r3 q0 q1 q2 q3)]))) v8 := hps.less (fun x hx => by
        simp only [List.mem_append, List.mem_cons] at hx ⊢
        rcases hx with h | h | h | h
        · exact .inr (.inl h)
        · exact .inr (.inr (.inl h))
        · exact .inl h
        · exact .inr (.inr (.inr h)))
      have Z8 := Lib.hid (hps2.two HKt.out.1 HKt.out.2.1 HKt.out.2.2.1 HKt.out.2.2.2)
      clear hps hps2 hv8 hT P8 HKt
      obtain ⟨R, hR⟩ : ∃ R, R = decide (L1 = L2) := ⟨_, rfl⟩
      have HRS : Hid (Calls Try.prog 15 #[.agg #[.slice bo1 m1 bc1, .int .i64 most], .agg #[.slice bo2 m2 bc2, .int .i64 most]] v8 fun e w' => e = .returned (.bool R) ∧ Below v8.heap.size v8 w') := Lib.hid (by rw [hR]; exact Z8.out.rsame)
      have HRR := Lib.hid hR
      clear hR
      have hne : (R != R) = false := by simp
      obtain ⟨⟨c0, c1, c2, c3⟩, ⟨y1, y2, y3, y5, y6⟩, k8, l15, l17, l6, l8⟩ := Z8.out.cells
      go_wp2_with (go_at_call 15; fail)
      refine HRS.out.mono ?_
      rintro e v9 ⟨rfl, hb⟩
      have Z9 := Lib.hid (Z8.out.below hb)
      clear hb c0 c1 c2 c3 y1 y2 y3 y5 y6 k8 l15 l17 l6 l8 Z8 HRS
      obtain ⟨⟨c0, c1, c2, c3⟩, ⟨y1, y2, y3, y5, y6⟩, k8, l15, l17, l6, l8⟩ := Z9.out.cells
      go_wp2_with (first | (go_at_call 13; refine (HNum.out _ _).mono ?_; rintro e w' ⟨rfl, rfl⟩) | (go_at_call 16; fail))
      refine (Z9.out.isA r1 r2 99 HR.out.1.1 HR.out.1.2.1 HR.out.1.2.2.1 HR.out.1.2.2.2.1 (by omega) (by omega)).mono ?_
      rintro e v10 ⟨rfl, hb⟩
      have Z10 := Lib.hid (Z9.out.below hb)
      clear hb c0 c1 c2 c3 y1 y2 y3 y5 y6 k8 l15 l17 l6 l8 Z9
      obtain ⟨⟨c0, c1, c2, c3⟩, ⟨y1, y2, y3, y5, y6⟩, k8, l15, l17, l6, l8⟩ := Z10.out.cells
      go_wp2_with (go_at_call 16; fail)
      refine (Z10.out.isB q1 q2 99 HR.out.2.1 HR.out.2.2.1 HR.out.2.2.2.1 HR.out.2.2.2.2.1 (by omega) (by omega)).mono ?_
      rintro e v11 ⟨rfl, hb⟩
      have Z11 := Lib.hid (Z10.out.below hb)
      clear hb c0 c1 c2 c3 y1 y2 y3 y5 y6 k8 l15 l17 l6 l8 Z10
      go_wp2_with (go_at_call 17; fail)
      refine Z11.out.same.mono ?_
      rintro e v12 ⟨rfl, hb⟩
      rw [← HRR.out]
      have Z12 := Lib.hid (Z11.out.below hb)
      clear hb Z11
      go_wp2_with (go_at_call 17; fail)
      refine Z12.out.emas.mono ?_
      rintro e v13 ⟨rfl, hb⟩
      rw [← HRR.out]
      have Z13 := Lib.hid (Z12.out.below hb)
      clear hb Z12
      go_upto_if 139 with fail
      go_cut [20] from 20 to 141 (fun s20 wx => NilT s20 wx ∧ Two u p1 p2 most L1 L2 bo1 m1 bc1 bo2 m2 bc2 [(T17, wantO bo2 m2 bc2 most), (T15, wantO bo1 m1 bc1 most), (T11, wantO bo m bc most), (X8, .cells #[.bool false] 4 (0, 0)), (X6, twoO r0 r1 r2 r3 q0 q1 q2 q3)] wx)
      case first =>
        cases zero with
        | false =>
          go_wp2
          go_meet
          exact ⟨⟨.inl rfl⟩, Z13.out⟩
        | true =>
          go_wp2
          go_meet
          exact ⟨⟨.inr ⟨_, rfl, alloc_blk_new _ _⟩⟩, Z13.out.below ((Below.refl _ _).alloc (Nat.le_refl _) _)⟩
      case rest =>
        obtain ⟨hn, htw⟩ := hcut
        have N20 := Lib.hid hn
        have Z20 := Lib.hid htw
        clear hn htw Z13
        obtain ⟨⟨c0, c1, c2, c3⟩, ⟨y1, y2, y3, y5, y6⟩, k8, l15, l17, l6, l8⟩ := Z20.out.cells
        go_wp2_with (go_at_call 18; fail)
        refine (N20.out.set r1 r2 1).mono ?_
        rintro e v21 ⟨rfl, hb⟩
        have Z21 := Lib.hid (Z20.out.below hb)
        have N21 := Lib.hid (N20.out.below hb)
        clear hb c0 c1 c2 c3 y1 y2 y3 y5 y6 k8 l15 l17 l6 l8 Z20 N20
        obtain ⟨⟨c0, c1, c2, c3⟩, ⟨y1, y2, y3, y5, y6⟩, k8, l15, l17, l6, l8⟩ := Z21.out.cells
        go_wp2_with (go_at_call 19; fail)
        refine (N21.out.stop r1 r2).mono ?_
        rintro e v22 ⟨rfl, hb⟩
        have Z22 := Lib.hid (Z21.out.below hb)
        have N22 := Lib.hid (N21.out.below hb)
        clear hb c0 c1 c2 c3 y1 y2 y3 y5 y6 k8 l15 l17 l6 l8 Z21 N21
        obtain ⟨⟨c0, c1, c2, c3⟩, ⟨y1, y2, y3, y5, y6⟩, k8, l15, l17, l6, l8⟩ := Z22.out.cells
        go_wp2_with (go_at_call 20; fail)
        refine (N22.out.due r1 r2).mono ?_
        rintro e v23 ⟨rfl, hb⟩
        have Z23 := Lib.hid (Z22.out.below hb)
        have N23 := Lib.hid (N22.out.below hb)
        clear hb c0 c1 c2 c3 y1 y2 y3 y5 y6 k8 l15 l17 l6 l8 Z22 N22
        obtain ⟨⟨c0, c1, c2, c3⟩, ⟨y1, y2, y3, y5, y6⟩, k8, l15, l17, l6, l8⟩ := Z23.out.cells
        go_wp2_with (go_at_call 21; fail)
        refine (N23.out.pop r3).mono ?_
        rintro e v24 ⟨rfl, hb⟩
        have hb2 := hb.alloc hb.size (.cells #[.int .i64 0, .int .u64 0] 26)
        have Z24 := Lib.hid (Z23.out.below hb2)
        have N24 := Lib.hid (N23.out.below hb2)
        clear hb hb2 c0 c1 c2 c3 y1 y2 y3 y5 y6 k8 l15 l17 l6 l8 Z23 N23
        go_upto_region 22 with fail
        obtain ⟨w24, hw24⟩ : ∃ W, W = v24.alloc (.cells #[.int .i64 0, .int .u64 0] 26) := ⟨_, rfl⟩
        rw [← hw24] at Z24 N24 ⊢
        clear hw24
        go_wp2_with (go_at_call 22; fail)
        refine N24.out.next.mono ?_
        rintro e v25 ⟨rfl, hb⟩
        have Z25 := Lib.hid (Z24.out.below hb)
        have N25 := Lib.hid (N24.out.below hb)
        clear hb Z24 N24
        go_wp2_with (go_at_call 12; fail)
        refine N25.out.all.mono ?_
        rintro e wn ⟨Eb, rfl, hEb, hke, hb⟩
        have Z26 := Lib.hid (Z25.out.below hb)
        have N26 := Lib.hid (N25.out.below hb)
        have HKE := Lib.hid hke
        clear hb Z25 N25 hke hEb
        go_upto_block 2 with fail
        refine range_cut (fun D W => wn.heap.size ≤ D ∧ W.heap[D]? = some (.deferred (some [])) ∧ Below wn.heap.size wn W) ?firstA ?restA
        case firstA =>
          go_wp2_with fail
          refine (wpIn_wide (n := 5)).1 ?_
          have hEl := blk_lt HKE.out
          refine' wpIn_range_deep (F := Fence.wide) rfl (by omega) (gf := 32) (lb := #[.pointer (some ⟨Eb, 0, none⟩)]) rfl trivial (enters_of Try.func32 (by kernel_rfl) rfl) (n₀ := wn.heap.size) (Nat.le_refl _)
            (All32_deep 4 (by omega) Eb wn.heap.size none 0 0 [] (by omega) wn hEl (Nat.le_refl _) (cell_blk HKE.out 0 _ rfl) (fun hp => by omega)) (fun x => x.elim0)
            (fun _ W => Below wn.heap.size wn W) (fun _ _ _ => False) (fun s U V hs hb => hs.trans hb) (fun c s U V hs hb => hs) (Below.refl _ _) (fun x => x.elim0) ?assign ?body ?done ?stop
          case assign => exact fun l x => x.elim0
          case body => exact fun l pre x => x.elim0
          case done =>
            rintro D ys W hD rfl hI hKd
            exact ⟨rfl, D, rfl, hD, hKd, hI⟩
          case stop => exact fun D c pre W hD hSp hIx => hIx.elim
        case restA =>
          rintro D0 W0 ⟨hD0, hKd0, hB0⟩
          dsimp only
          have Z27 := Lib.hid (Z26.out.below hB0)
          have N27 := Lib.hid (N26.out.below hB0)
          have HKd := Lib.hid hKd0
          have HD0 : Hid (w.heap.size ≤ D0) := Lib.hid (by
            have h1 := Z26.out.bel.size
            have h2 := B1.out.size
            omega)
          clear hD0 hKd0 hB0 Z26 N26 HKE
          go_wp2_with (first | (go_at_call 13; refine (HNum.out _ _).mono ?_; rintro e w' ⟨rfl, rfl⟩) | (go_at_call 23; fail))
          refine N27.out.length.mono ?_
          rintro e w' ⟨rfl, rfl⟩
          go_wp2_with (go_at_call 14; fail)
          refine N27.out.copy.mono ?_
          rintro e w' ⟨rfl, rfl⟩
          go_wp2_with (go_at_call 17; fail)
          refine N27.out.same.mono ?_
          rintro e w' ⟨rfl, rfl⟩
          go_wp2_with (go_at_call 17; fail)
          refine (Z27.out.not_none N27.out).mono ?_
          rintro e w' ⟨rfl, rfl⟩
          go_wp2_with (go_at_call 8; fail)
          refine (HWk.out _).mono ?_
          rintro e wz ⟨rfl, hb⟩
          have Z28 := Lib.hid (Z27.out.below hb)
          have HK8 := Lib.hid Z28.out.cells.2.2.1
          have HKz := Lib.hid ((hb.block D0 (blk_lt HKd.out)).trans HKd.out)
          have c8 := cell_blk HK8.out 0 (.bool false) rfl
          have f8 := frozen_blk HK8.out 0
          have l8 := blk_lt HK8.out
          have BZ := Lib.hid (B1.out.trans (Z28.out.bel.mono B1.out.size))
          clear hb Z27 N27 HKd Z28
          go_wp2_with fail
          have hk1 := (KeepsOthers.setCell wz ⟨X8, 0, none⟩ (.bool true)).same D0 _ HKz.out rfl
          have hc6 := cell_kept (World.cell?_setCell_same' wz ⟨X8, 0, none⟩ (.bool true) (by rw [c8]; rfl)) (grownBy_putObj' _ D0 (.deferred none)) (fun r e => by cases e; exact ⟨_, hk1, rfl⟩)
          refine ⟨by simp, .inl ⟨_, _, rfl, run_takeDeferred hk1, ?_⟩⟩
          refine ⟨.bool true, ?_, rfl, (BZ.out.setCell (p := ⟨X8, 0, none⟩) HX8.out.2.2.2 _).trans (below_put HD0.out)⟩
          simp [results, Try.f4, go_sem, hc6]
end
end Go.Proofs.Ytnmbhcekcdicnaa
