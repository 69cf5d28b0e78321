/-
  TimerAll, walked.
-/
import Derived.Test.YtnmbhcekcdicnaaPd
namespace Go.Proofs.Ytnmbhcekcdicnaa
open Go.RowKit
set_option linter.unusedVariables false
set_option linter.unusedSimpArgs false
attribute [local go_sem] Oper.semAt_some run_eql_func42
attribute [local go_sem high] eql26 neq26

/-- Three boxes. -/
theorem boxes3 (w : World) (x y z : Obj) : (((w.alloc x).alloc y).alloc z).heap[w.heap.size]? = some x ∧ (((w.alloc x).alloc y).alloc z).heap[w.heap.size + 1]? = some y ∧ (((w.alloc x).alloc y).alloc z).heap[w.heap.size + 1 + 1]? = some z ∧ (((w.alloc x).alloc y).alloc z).heap.size = w.heap.size + 1 + 1 + 1 ∧ Below w.heap.size w (((w.alloc x).alloc y).alloc z) := by
  have s1 : ∀ (W : World) (o : Obj), (W.alloc o).heap.size = W.heap.size + 1 := fun W o => by simp
  obtain ⟨W1, h1⟩ : ∃ W, W = w.alloc x := ⟨_, rfl⟩
  obtain ⟨W2, h2⟩ : ∃ W, W = W1.alloc y := ⟨_, rfl⟩
  obtain ⟨W3, h3⟩ : ∃ W, W = W2.alloc z := ⟨_, rfl⟩
  have z1 : W1.heap.size = w.heap.size + 1 := by rw [h1]; exact s1 _ _
  have z2 : W2.heap.size = w.heap.size + 1 + 1 := by rw [h2, s1, z1]
  have z3 : W3.heap.size = w.heap.size + 1 + 1 + 1 := by rw [h3, s1, z2]
  rw [← h1, ← h2, ← h3]
  have c1 : Below w.heap.size w W1 := by rw [h1]; exact (Below.refl _ w).alloc (Nat.le_refl _) _
  have c2 : Below w.heap.size w W2 := by rw [h2]; exact c1.alloc (by omega) _
  have c3 : Below w.heap.size w W3 := by rw [h3]; exact c2.alloc (by omega) _
  refine ⟨?_, ?_, ?_, z3, c3⟩
  · rw [h3]; exact alloc_blk (by rw [h2]; exact alloc_blk (by rw [h1]; exact alloc_blk_new _ _) _) _
  · rw [h3]; exact alloc_blk (by rw [h2, ← z1]; exact alloc_blk_new _ _) _
  · rw [h3, ← z2]; exact alloc_blk_new _ _
section
set_option maxHeartbeats 12800000
set_option maxRecDepth 100000
theorem all_out (most : Int) (ao : Option Addr) (n ca : Nat) (r0 r1 r2 r3 q0 q1 q2 q3 : Int) (w : World) (hn : 40 < n) (hn2 : n ≤ maxLen) :
    Calls Try.prog 3 #[.int .i64 most, .slice ao n ca, .agg #[.int .i64 r0, .int .i64 r1, .int .u64 r2, .int .u64 r3], .agg #[.int .i64 q0, .int .i64 q1, .int .u64 q2, .int .u64 q3]] w (Yes w) := by
  have HWk := Lib.hid works_true
  have d1 : decide (40 < n) = true := by simpa using hn
  have d2 : decide ((40 : Int) < n) = true := by simp; omega
  clear hn
  obtain ⟨u, hu⟩ : ∃ W, W = ((w.alloc (actO r0 r1 r2 r3)).alloc (actO q0 q1 q2 q3)).alloc (.cells #[.bool false] 4 (0, 0)) := ⟨_, rfl⟩
  obtain ⟨X6, hX6⟩ : ∃ X, X = w.heap.size := ⟨_, rfl⟩
  obtain ⟨X7, hX7⟩ : ∃ X, X = X6 + 1 := ⟨_, rfl⟩
  obtain ⟨X8, hX8⟩ : ∃ X, X = X7 + 1 := ⟨_, rfl⟩
  have BT := Lib.hid (boxes3 w (actO r0 r1 r2 r3) (actO q0 q1 q2 q3) (.cells #[.bool false] 4 (0, 0)))
  rw [← hu, ← hX6, ← hX7, ← hX8] at BT
  have c8 := cell_blk BT.out.2.2.1 0 (.bool false) rfl
  have f8 := frozen_blk BT.out.2.2.1 0
  have l8 := blk_lt BT.out.2.2.1
  have B1 : Hid (Below w.heap.size w u) := Lib.hid (by rw [← hX6]; exact BT.out.2.2.2.2)
  have HX8 : Hid (w.heap.size ≤ X8) := Lib.hid (by omega)
  have HU := Lib.hid (And.intro hu (And.intro hX6 (And.intro hX7 hX8)))
  clear hu hX6 hX7 hX8
  refine (callsIn_wide (n := 5)).1 ?_
  refine callsIn_of_wp_marks Try.func3 rfl trivial ?_ rfl
  simp only [Try.ntmps3, List.size_toArray, List.length_cons, List.length_nil, Nat.reduceAdd, Nat.reduceSub, Array.replicate_succ, Array.replicate_zero, List.push_toArray, List.append_toArray, List.nil_append, List.cons_append]
  refine wpIn_wide.2 ?_
  go_upto_region 1 with fail
  unfold actO at HU
  rw [← HU.out.2.1, ← HU.out.2.2.1, ← HU.out.2.2.2, ← HU.out.1]
  go_wp2_with (go_at_call 8; fail)
  refine (HWk.out _).mono ?_
  rintro e v ⟨rfl, hb⟩
  have k8 := (hb.block _ l8).trans BT.out.2.2.1
  have HB8 := Lib.hid k8
  have c9 := cell_blk k8 0 (.bool false) rfl
  have f9 := frozen_blk k8 0
  have l9 := blk_lt k8
  have B2 := Lib.hid (B1.out.trans (hb.mono B1.out.size))
  clear k8 hb c8 f8 l8
  go_wp2_with fail
  refine ⟨.bool true, ?_, rfl, B2.out.setCell (p := ⟨X8, 0, none⟩) HX8.out _⟩
  simp [results, Try.f3, go_sem, cell_blk (setCell_blk HB8.out 0 (.bool true)) 0 (.bool true) rfl]
theorem all_low (most : Int) (ao : Option Addr) (n ca : Nat) (r0 r1 r2 r3 q0 q1 q2 q3 : Int) (w : World) (hn : n ≤ 40) (hm : most < 1) (hn2 : n ≤ maxLen) :
    Calls Try.prog 3 #[.int .i64 most, .slice ao n ca, .agg #[.int .i64 r0, .int .i64 r1, .int .u64 r2, .int .u64 r3], .agg #[.int .i64 q0, .int .i64 q1, .int .u64 q2, .int .u64 q3]] w (Yes w) := by
  have HWk := Lib.hid works_true
  have d1 : decide (40 < n) = false := by simp; omega
  have d2 : decide ((40 : Int) < n) = false := by simp; omega
  have d3 : decide (most < 1) = true := by simpa using hm
  clear hn hm
  obtain ⟨u, hu⟩ : ∃ W, W = ((w.alloc (actO r0 r1 r2 r3)).alloc (actO q0 q1 q2 q3)).alloc (.cells #[.bool false] 4 (0, 0)) := ⟨_, rfl⟩
  obtain ⟨X6, hX6⟩ : ∃ X, X = w.heap.size := ⟨_, rfl⟩
  obtain ⟨X7, hX7⟩ : ∃ X, X = X6 + 1 := ⟨_, rfl⟩
  obtain ⟨X8, hX8⟩ : ∃ X, X = X7 + 1 := ⟨_, rfl⟩
  have BT := Lib.hid (boxes3 w (actO r0 r1 r2 r3) (actO q0 q1 q2 q3) (.cells #[.bool false] 4 (0, 0)))
  rw [← hu, ← hX6, ← hX7, ← hX8] at BT
  have c8 := cell_blk BT.out.2.2.1 0 (.bool false) rfl
  have f8 := frozen_blk BT.out.2.2.1 0
  have l8 := blk_lt BT.out.2.2.1
  have B1 : Hid (Below w.heap.size w u) := Lib.hid (by rw [← hX6]; exact BT.out.2.2.2.2)
  have HX8 : Hid (w.heap.size ≤ X8) := Lib.hid (by omega)
  have HU := Lib.hid (And.intro hu (And.intro hX6 (And.intro hX7 hX8)))
  clear hu hX6 hX7 hX8
  refine (callsIn_wide (n := 5)).1 ?_
  refine callsIn_of_wp_marks Try.func3 rfl trivial ?_ rfl
  simp only [Try.ntmps3, List.size_toArray, List.length_cons, List.length_nil, Nat.reduceAdd, Nat.reduceSub, Array.replicate_succ, Array.replicate_zero, List.push_toArray, List.append_toArray, List.nil_append, List.cons_append]
  refine wpIn_wide.2 ?_
  go_upto_region 1 with fail
  unfold actO at HU
  rw [← HU.out.2.1, ← HU.out.2.2.1, ← HU.out.2.2.2, ← HU.out.1]
  go_wp2_with (go_at_call 8; fail)
  refine (HWk.out _).mono ?_
  rintro e v ⟨rfl, hb⟩
  have k8 := (hb.block _ l8).trans BT.out.2.2.1
  have HB8 := Lib.hid k8
  have c9 := cell_blk k8 0 (.bool false) rfl
  have f9 := frozen_blk k8 0
  have l9 := blk_lt k8
  have B2 := Lib.hid (B1.out.trans (hb.mono B1.out.size))
  clear k8 hb c8 f8 l8
  go_wp2_with fail
  refine ⟨.bool true, ?_, rfl, B2.out.setCell (p := ⟨X8, 0, none⟩) HX8.out _⟩
  simp [results, Try.f3, go_sem, cell_blk (setCell_blk HB8.out 0 (.bool true)) 0 (.bool true) rfl]
theorem all_high (most : Int) (ao : Option Addr) (n ca : Nat) (r0 r1 r2 r3 q0 q1 q2 q3 : Int) (w : World) (hn : n ≤ 40) (hm : 8192 < most) (hn2 : n ≤ maxLen) :
    Calls Try.prog 3 #[.int .i64 most, .slice ao n ca, .agg #[.int .i64 r0, .int .i64 r1, .int .u64 r2, .int .u64 r3], .agg #[.int .i64 q0, .int .i64 q1, .int .u64 q2, .int .u64 q3]] w (Yes w) := by
  have HWk := Lib.hid works_true
  have d1 : decide (40 < n) = false := by simp; omega
  have d2 : decide ((40 : Int) < n) = false := by simp; omega
  have d3 : decide (most < 1) = false := by simp; omega
  have d4 : decide (8192 < most) = true := by simpa using hm
  clear hn hm
  obtain ⟨u, hu⟩ : ∃ W, W = ((w.alloc (actO r0 r1 r2 r3)).alloc (actO q0 q1 q2 q3)).alloc (.cells #[.bool false] 4 (0, 0)) := ⟨_, rfl⟩
  obtain ⟨X6, hX6⟩ : ∃ X, X = w.heap.size := ⟨_, rfl⟩
  obtain ⟨X7, hX7⟩ : ∃ X, X = X6 + 1 := ⟨_, rfl⟩
  obtain ⟨X8, hX8⟩ : ∃ X, X = X7 + 1 := ⟨_, rfl⟩
  have BT := Lib.hid (boxes3 w (actO r0 r1 r2 r3) (actO q0 q1 q2 q3) (.cells #[.bool false] 4 (0, 0)))
  rw [← hu, ← hX6, ← hX7, ← hX8] at BT
  have c8 := cell_blk BT.out.2.2.1 0 (.bool false) rfl
  have f8 := frozen_blk BT.out.2.2.1 0
  have l8 := blk_lt BT.out.2.2.1
  have B1 : Hid (Below w.heap.size w u) := Lib.hid (by rw [← hX6]; exact BT.out.2.2.2.2)
  have HX8 : Hid (w.heap.size ≤ X8) := Lib.hid (by omega)
  have HU := Lib.hid (And.intro hu (And.intro hX6 (And.intro hX7 hX8)))
  clear hu hX6 hX7 hX8
  refine (callsIn_wide (n := 5)).1 ?_
  refine callsIn_of_wp_marks Try.func3 rfl trivial ?_ rfl
  simp only [Try.ntmps3, List.size_toArray, List.length_cons, List.length_nil, Nat.reduceAdd, Nat.reduceSub, Array.replicate_succ, Array.replicate_zero, List.push_toArray, List.append_toArray, List.nil_append, List.cons_append]
  refine wpIn_wide.2 ?_
  go_upto_region 1 with fail
  unfold actO at HU
  rw [← HU.out.2.1, ← HU.out.2.2.1, ← HU.out.2.2.2, ← HU.out.1]
  go_wp2_with (go_at_call 8; fail)
  refine (HWk.out _).mono ?_
  rintro e v ⟨rfl, hb⟩
  have k8 := (hb.block _ l8).trans BT.out.2.2.1
  have HB8 := Lib.hid k8
  have c9 := cell_blk k8 0 (.bool false) rfl
  have f9 := frozen_blk k8 0
  have l9 := blk_lt k8
  have B2 := Lib.hid (B1.out.trans (hb.mono B1.out.size))
  clear k8 hb c8 f8 l8
  go_wp2_with fail
  refine ⟨.bool true, ?_, rfl, B2.out.setCell (p := ⟨X8, 0, none⟩) HX8.out _⟩
  simp [results, Try.f3, go_sem, cell_blk (setCell_blk HB8.out 0 (.bool true)) 0 (.bool true) rfl]
theorem all_in (most : Int) (ao : Option Addr) (n ca : Nat) (r0 r1 r2 r3 q0 q1 q2 q3 : Int) (z : Nat → Int × Int × Int × Int) (w : World) (hn : n ≤ 40) (m0 : 1 ≤ most) (m1 : most ≤ 8192) (ha : AArg w ao n z)
    (ra : -9223372036854775808 ≤ r1) (rb : r1 ≤ 9223372036854775807) (rc : 0 ≤ r2) (rd : r2 ≤ 18446744073709551615) (re : 0 ≤ r3) (rf : r3 ≤ 18446744073709551615)
    (qa : -9223372036854775808 ≤ q1) (qb : q1 ≤ 9223372036854775807) (qc : 0 ≤ q2) (qd : q2 ≤ 18446744073709551615) (qe : 0 ≤ q3) (qf : q3 ≤ 18446744073709551615) :
    Calls Try.prog 3 #[.int .i64 most, .slice ao n ca, .agg #[.int .i64 r0, .int .i64 r1, .int .u64 r2, .int .u64 r3], .agg #[.int .i64 q0, .int .i64 q1, .int .u64 q2, .int .u64 q3]] w (Yes w) := by
  have HWk := Lib.hid works_true
  have HNum := Lib.hid num13
  have d1 : decide (40 < n) = false := by simp; omega
  have d2 : decide ((40 : Int) < n) = false := by simp; omega
  have d3 : decide (most < 1) = false := by simp; omega
  have d4 : decide (8192 < most) = false := by simp; omega
  have HR := Lib.hid (And.intro (And.intro ra (And.intro rb (And.intro rc (And.intro rd (And.intro re rf))))) (And.intro qa (And.intro qb (And.intro qc (And.intro qd (And.intro qe qf))))))
  have HA := Lib.hid ha
  clear ra rb rc rd re rf qa qb qc qd qe qf ha
  obtain ⟨u, hu⟩ : ∃ W, W = ((w.alloc (actO r0 r1 r2 r3)).alloc (actO q0 q1 q2 q3)).alloc (.cells #[.bool false] 4 (0, 0)) := ⟨_, rfl⟩
  obtain ⟨X6, hX6⟩ : ∃ X, X = w.heap.size := ⟨_, rfl⟩
  obtain ⟨X7, hX7⟩ : ∃ X, X = X6 + 1 := ⟨_, rfl⟩
  obtain ⟨X8, hX8⟩ : ∃ X, X = X7 + 1 := ⟨_, rfl⟩
  have BT := Lib.hid (boxes3 w (actO r0 r1 r2 r3) (actO q0 q1 q2 q3) (.cells #[.bool false] 4 (0, 0)))
  rw [← hu, ← hX6, ← hX7, ← hX8] at BT
  have c8 := cell_blk BT.out.2.2.1 0 (.bool false) rfl
  have f8 := frozen_blk BT.out.2.2.1 0
  have l8 := blk_lt BT.out.2.2.1
  have B1 : Hid (Below w.heap.size w u) := Lib.hid (by rw [← hX6]; exact BT.out.2.2.2.2)
  have HX8 : Hid (w.heap.size ≤ X6 ∧ X6 < u.heap.size ∧ X7 < u.heap.size ∧ X8 < u.heap.size ∧ w.heap.size ≤ X8) := Lib.hid (by have := BT.out.2.2.2.1; omega)
  have HU := Lib.hid (And.intro hu (And.intro hX6 (And.intro hX7 hX8)))
  have HN9 := Lib.hid (PS.new u most m0 m1)
  have HN10 := Lib.hid (fun W => refNew10 most W m0 m1)
  clear hu hX6 hX7 hX8
  refine (callsIn_wide (n := 5)).1 ?_
  refine callsIn_of_wp_marks Try.func3 rfl trivial ?_ rfl
  simp only [Try.ntmps3, List.size_toArray, List.length_cons, List.length_nil, Nat.reduceAdd, Nat.reduceSub, Array.replicate_succ, Array.replicate_zero, List.push_toArray, List.append_toArray, List.nil_append, List.cons_append]
  refine wpIn_wide.2 ?_
  go_upto_region 1 with fail
  unfold actO at HU
  rw [← HU.out.2.1, ← HU.out.2.2.1, ← HU.out.2.2.2, ← HU.out.1]
  clear HU c8 f8 l8
  go_wp2_with (go_at_call 9; fail)
  refine HN9.out.mono ?_
  rintro e v1 ⟨p, rfl, hps⟩
  have P1 : Hid (PS u p most [] none 0 0 [(X8, .cells #[.bool false] 4 (0, 0)), (X7, actO q0 q1 q2 q3), (X6, actO r0 r1 r2 r3)] v1) := Lib.hid (by
    obtain ⟨g6, g7, g8, -, -⟩ := BT.out
    obtain ⟨-, h6, h7, h8, -⟩ := HX8.out
    have hb := hps.bel
    exact ((hps.was ((hb.block _ h6).trans g6) h6).was ((hb.block _ h7).trans g7) h7).was ((hb.block _ h8).trans g8) h8)
  clear hps d1 d2 d3 d4
  go_wp2_with (go_at_call 10; fail)
  refine (HN10.out _).mono ?_
  rintro e v2 ⟨rfl, hb⟩
  have P2 := Lib.hid (P1.out.below hb)
  clear hb P1 HN9 HN10
  go_upto_region 5 with fail
  obtain ⟨T11, hT⟩ : ∃ X, X = v2.heap.size := ⟨_, rfl⟩
  obtain ⟨v3, hv3⟩ : ∃ W, W = v2.alloc (.cells #[.slice none 0 0, .int .i64 most] 36) := ⟨_, rfl⟩
  have hps := P2.out.add (.cells #[.slice none 0 0, .int .i64 most] 36)
  rw [← hv3, ← hT] at hps ⊢
  have P3 : Hid (PS u p most [] none 0 0 [(T11, wantO none 0 0 most), (X8, .cells #[.bool false] 4 (0, 0)), (X7, actO q0 q1 q2 q3), (X6, actO r0 r1 r2 r3)] v3) := Lib.hid hps
  have HT : Hid (u.heap.size ≤ T11 ∧ X8 < T11 ∧ X7 < T11 ∧ X6 < T11) := Lib.hid (by
    have h1 := P2.out.bel.size
    have h2 := HX8.out
    omega)
  clear hps hv3 hT P2
  go_wp2_with fail
  go_loopg [9, 13] n (fun gk v9 v13 wr => ∃ (j p : Nat) (bo : Option Addr) (m bc : Nat), v9 = .pointer (some ⟨p, 0, none⟩) ∧ v13 = .int .i64 j ∧ j ≤ n ∧ gk = n - j ∧ PS u p most (runL most z j) bo m bc [(T11, wantO bo m bc most), (X8, .cells #[.bool false] 4 (0, 0)), (X7, actO q0 q1 q2 q3), (X6, actO r0 r1 r2 r3)] wr)
  case atStart => exact ⟨0, p, none, 0, 0, rfl, rfl, by omega, rfl, P3.out⟩
  case round =>
    clear P3
    obtain ⟨j, p, bo, m, bc, rfl, rfl, hj, hgk, hps⟩ := hrel
    have HG := Lib.hid hgk
    have P := Lib.hid hps
    have kt := hps.at (x := T11) (o := wantO bo m bc most) (by simp)
    unfold wantO at kt
    have c0 := cell_blk kt 0 _ rfl
    have c1 := cell_blk kt 1 _ rfl
    have lt := blk_lt kt
    clear hgk hps kt
    by_cases hlt : j < n
    · have e1 : decide ((j : Int) < n) = true := by simp; omega
      obtain ⟨ab, off, rfl, hab, hac⟩ := HA.out (by omega)
      obtain ⟨⟨y0, y1, y2, y3⟩, hk, hi, hnn⟩ := hac j hlt
      have hnext : runL most z (j + 1) = actL most (runL most z j) (z j).1 (z j).2.1 (z j).2.2.1 (z j).2.2.2 := rfl
      obtain ⟨L1, hL1⟩ : ∃ L, L = runL most z (j + 1) := ⟨_, rfl⟩
      rw [← hL1] at hnext
      obtain ⟨xw, hxw⟩ : ∃ x, x = (z j).1 := ⟨_, rfl⟩
      obtain ⟨xk, hxk⟩ : ∃ x, x = (z j).2.1 := ⟨_, rfl⟩
      obtain ⟨xi, hxi⟩ : ∃ x, x = (z j).2.2.1 := ⟨_, rfl⟩
      obtain ⟨xn, hxn⟩ : ∃ x, x = (z j).2.2.2 := ⟨_, rfl⟩
      rw [← hxw] at y0 hnext
      rw [← hxk] at y1 hk hnext
      rw [← hxi] at y2 hi hnext
      rw [← hxn] at y3 hnn hnext
      have HCA : Hid (∀ W', Below w.heap.size w W' → (W'.cell? ⟨ab, off + j * 4, none⟩ = some (.int .i64 xw) ∧ W'.cell? ⟨ab, off + j * 4 + 1, none⟩ = some (.int .i64 xk) ∧ W'.cell? ⟨ab, off + j * 4 + 2, none⟩ = some (.int .u64 xi) ∧ W'.cell? ⟨ab, off + j * 4 + 3, none⟩ = some (.int .u64 xn)) ∧ ab < W'.heap.size) := Lib.hid fun W' hW =>
        ⟨⟨(hW.cell (p := ⟨ab, off + j * 4, none⟩) hab).trans y0, (hW.cell (p := ⟨ab, off + j * 4 + 1, none⟩) hab).trans y1, (hW.cell (p := ⟨ab, off + j * 4 + 2, none⟩) hab).trans y2, (hW.cell (p := ⟨ab, off + j * 4 + 3, none⟩) hab).trans y3⟩, Nat.lt_of_lt_of_le hab hW.size⟩
      have HXR := Lib.hid (And.intro hk (And.intro hi hnn))
      have HNx := Lib.hid hnext
      have HL1 := Lib.hid hL1
      have hjn : (j : Int) < n := by omega
      clear hac y0 y1 y2 y3 hk hi hnn hxw hxk hxi hxn hnext hL1
      have hw1 : IntKind.i64.wrap ((j : Int) + 1) = (j : Int) + 1 := by rw [IntKind.wrap_i64]; omega
      go_upto_block 1 with fail
      go_cut [9] from 44 to 60 (fun s9 wx => ∃ (p' : Nat) (bo' : Option Addr) (m' bc' : Nat), s9 = .pointer (some ⟨p', 0, none⟩) ∧ PS u p' most L1 bo' m' bc' [(T11, wantO bo' m' bc' most), (X8, .cells #[.bool false] 4 (0, 0)), (X7, actO q0 q1 q2 q3), (X6, actO r0 r1 r2 r3)] wx)
      case first =>
        go_upto_region 8 with fail
        refine wp_region_noPanic ?_
        refine wp_region_K 6 (fun W => PS u p most (runL most z j) bo m bc [(T11, wantO bo m bc most), (X8, .cells #[.bool false] 4 (0, 0)), (X7, actO q0 q1 q2 q3), (X6, actO r0 r1 r2 r3)] W) (by kernel_rfl) ?_
        obtain ⟨wd, hwd⟩ : ∃ W, W = (wr).drew := ⟨_, rfl⟩
        have HBd : Hid (Below (wr).heap.size (wr) wd) := Lib.hid (by rw [hwd]; exact Below.drewN' (wr) 1)
        have hS0 : (fun W : World => PS u p most (runL most z j) bo m bc [(T11, wantO bo m bc most), (X8, .cells #[.bool false] 4 (0, 0)), (X7, actO q0 q1 q2 q3), (X6, actO r0 r1 r2 r3)] W) wd := by rw [hwd]; exact (P.out.below (Below.drewN' wr 1))
        rw [← hwd]
        clear hwd
        refine' wpAnyK_take (i := 0) (oi := { dst := some 51, op := Op.move (Operand.tmp 9), type := 30, pos := "law.go:116", after := #[], guard := none }) (v := ?v501001) rfl (by kernel_rfl) (by kernel_rfl) (by kernel_rfl) [] (by kernel_rfl) (by decide) (by kernel_rfl) (by kernel_rfl) (fun _ _ _ h => h) hS0 (.inl ⟨by first | rfl | simp [Region.wanted, yielded], ?hy501001⟩) ?rest501001
        case hy501001 => (intro W hW; have g1 := hW.at (x := T11) (o := wantO bo m bc most) (by simp); unfold wantO at g1; have f1 := cell_blk g1 0 _ rfl; have f2 := cell_blk g1 1 _ rfl; have f3 := blk_lt g1; obtain ⟨⟨f4, f5, f6, f7⟩, f8⟩ := HCA.out _ (B1.out.trans (hW.bel.mono B1.out.size)); go_simp; try with_reducible rfl)
        simp only [Act.put, List.setIfInBounds_toArray, List.set_cons_zero, List.set_cons_succ]
        refine' wpAnyK_take (i := 1) (oi := { dst := some 52, op := Op.load 36 (Operand.tmp 11), type := 36, pos := "law.go:116", after := #[], guard := none }) (v := ?v501002) rfl (by kernel_rfl) (by kernel_rfl) (by kernel_rfl) [] (by kernel_rfl) (by decide) (by kernel_rfl) (by kernel_rfl) (fun _ _ _ h => h) hS0 (.inl ⟨by first | rfl | simp [Region.wanted, yielded], ?hy501002⟩) ?rest501002
        case hy501002 => (intro W hW; have g1 := hW.at (x := T11) (o := wantO bo m bc most) (by simp); unfold wantO at g1; have f1 := cell_blk g1 0 _ rfl; have f2 := cell_blk g1 1 _ rfl; have f3 := blk_lt g1; obtain ⟨⟨f4, f5, f6, f7⟩, f8⟩ := HCA.out _ (B1.out.trans (hW.bel.mono B1.out.size)); go_simp; try with_reducible rfl)
        simp only [Act.put, List.setIfInBounds_toArray, List.set_cons_zero, List.set_cons_succ]
        refine' wpAnyK_take (i := 2) (oi := { dst := some 53, op := Op.move (Operand.tmp 1), type := 22, pos := "law.go:116", after := #[], guard := none }) (v := ?v501003) rfl (by kernel_rfl) (by kernel_rfl) (by kernel_rfl) [5, 4] (by kernel_rfl) (by decide) (by kernel_rfl) (by kernel_rfl) (fun _ _ _ h => h) hS0 (.inl ⟨by first | rfl | simp [Region.wanted, yielded], ?hy501003⟩) ?rest501003
        case hy501003 => (intro W hW; have g1 := hW.at (x := T11) (o := wantO bo m bc most) (by simp); unfold wantO at g1; have f1 := cell_blk g1 0 _ rfl; have f2 := cell_blk g1 1 _ rfl; have f3 := blk_lt g1; obtain ⟨⟨f4, f5, f6, f7⟩, f8⟩ := HCA.out _ (B1.out.trans (hW.bel.mono B1.out.size)); go_simp; try with_reducible rfl)
        simp only [Act.put, List.setIfInBounds_toArray, List.set_cons_zero, List.set_cons_succ]
        refine' wpAnyK_take (i := 3) (oi := { dst := some 54, op := Op.move (Operand.tmp 13), type := 3, pos := "law.go:116", after := #[], guard := none }) (v := ?v501004) rfl (by kernel_rfl) (by kernel_rfl) (by kernel_rfl) [5, 4] (by kernel_rfl) (by decide) (by kernel_rfl) (by kernel_rfl) (fun _ _ _ h => h) hS0 (.inl ⟨by first | rfl | simp [Region.wanted, yielded], ?hy501004⟩) ?rest501004
        case hy501004 => (intro W hW; have g1 := hW.at (x := T11) (o := wantO bo m bc most) (by simp); unfold wantO at g1; have f1 := cell_blk g1 0 _ rfl; have f2 := cell_blk g1 1 _ rfl; have f3 := blk_lt g1; obtain ⟨⟨f4, f5, f6, f7⟩, f8⟩ := HCA.out _ (B1.out.trans (hW.bel.mono B1.out.size)); go_simp; try with_reducible rfl)
        simp only [Act.put, List.setIfInBounds_toArray, List.set_cons_zero, List.set_cons_succ]
        refine' wpAnyK_take (i := 4) (oi := { dst := some 55, op := Op.indexAddr 22 (Operand.tmp 53) (Operand.tmp 54), type := 0, pos := "law.go:116", after := #[{ on := 2, ground := Ground.data }, { on := 3, ground := Ground.data }], guard := none }) (v := ?v501005) rfl (by kernel_rfl) (by kernel_rfl) (by kernel_rfl) [5] (by kernel_rfl) (by decide) (by kernel_rfl) (by kernel_rfl) (fun _ _ _ h => h) hS0 (.inl ⟨by first | rfl | simp [Region.wanted, yielded], ?hy501005⟩) ?rest501005
        case hy501005 => (intro W hW; have g1 := hW.at (x := T11) (o := wantO bo m bc most) (by simp); unfold wantO at g1; have f1 := cell_blk g1 0 _ rfl; have f2 := cell_blk g1 1 _ rfl; have f3 := blk_lt g1; obtain ⟨⟨f4, f5, f6, f7⟩, f8⟩ := HCA.out _ (B1.out.trans (hW.bel.mono B1.out.size)); go_simp; try with_reducible rfl)
        simp only [Act.put, List.setIfInBounds_toArray, List.set_cons_zero, List.set_cons_succ]
        refine' wpAnyK_take (i := 5) (oi := { dst := some 56, op := Op.load 28 (Operand.tmp 55), type := 28, pos := "law.go:116", after := #[{ on := 4, ground := Ground.data }], guard := none }) (v := ?v501006) rfl (by kernel_rfl) (by kernel_rfl) (by kernel_rfl) [] (by kernel_rfl) (by decide) (by kernel_rfl) (by kernel_rfl) (fun _ _ _ h => h) hS0 (.inl ⟨by first | rfl | simp [Region.wanted, yielded], ?hy501006⟩) ?rest501006
        case hy501006 => (intro W hW; have g1 := hW.at (x := T11) (o := wantO bo m bc most) (by simp); unfold wantO at g1; have f1 := cell_blk g1 0 _ rfl; have f2 := cell_blk g1 1 _ rfl; have f3 := blk_lt g1; obtain ⟨⟨f4, f5, f6, f7⟩, f8⟩ := HCA.out _ (B1.out.trans (hW.bel.mono B1.out.size)); go_simp; try with_reducible rfl)
        simp only [Act.put, List.setIfInBounds_toArray, List.set_cons_zero, List.set_cons_succ]
        refine wpAnyK_ready (rs := [6]) (by kernel_rfl) (by simp) ?_
        refine AllReadyK.cons (o := { dst := some 57, op := Op.call { callee := Callee.value (Operand.func 11), args := #[Operand.tmp 51, Operand.tmp 52, Operand.tmp 56], argTypes := #[30, 36, 28] }, type := 39, pos := "law.go:116", after := #[{ on := 0, ground := Ground.data }, { on := 1, ground := Ground.data }, { on := 5, ground := Ground.data }], guard := none }) rfl (fun KK hK => ?_) (AllReadyK.nil)
        try simp only [List.getElem_toArray, List.getElem_cons_succ, List.getElem_cons_zero]
        have hact := hS0.act xw xk xi xn HXR.out.1.1 HXR.out.1.2 HXR.out.2.1.1 HXR.out.2.1.2 HXR.out.2.2.1 HXR.out.2.2.2
        rw [← HNx.out] at hact
        go_simp
        refine hact.mono ?_
        rintro e z1 ⟨p', bo', m', bc', rfl, hpa⟩
        have HP1 := Lib.hid hpa
        clear hact hpa
        refine hK.out _ _ (fun h => absurd (show true = false from h) (by decide)) ?_
        clear hK KK
        try simp only [Act.put, List.setIfInBounds_toArray, List.set_cons_zero, List.set_cons_succ]
        refine wpAnyK_ready (rs := [7]) (by kernel_rfl) (by simp) ?_
        refine AllReadyK.cons (o := { dst := some 50, op := Op.move (Operand.tmp 57), type := 39, pos := "law.go:116", after := #[{ on := 6, ground := Ground.data }], guard := none }) rfl (fun KK hK => ?_) (AllReadyK.nil)
        try simp only [List.getElem_toArray, List.getElem_cons_succ, List.getElem_cons_zero]
        go_simp
        refine hK.out _ _ (fun h => absurd (show true = false from h) (by decide)) ?_
        clear hK KK
        try simp only [Act.put, List.setIfInBounds_toArray, List.set_cons_zero, List.set_cons_succ]
        refine wpAnyK_ready (rs := [8, 9, 10]) (by kernel_rfl) (by simp) ?_
        refine AllReadyK.cons (o := { dst := some 58, op := Op.extract (Operand.tmp 50) 0, type := 30, pos := "law.go:116", after := #[{ on := 7, ground := Ground.data }], guard := none }) rfl (fun KK hK => ?_) (AllReadyK.cons (o := { dst := some 59, op := Op.extract (Operand.tmp 50) 1, type := 36, pos := "law.go:116", after := #[{ on := 7, ground := Ground.data }, { on := 11, ground := Ground.gcOnly Departure.lateStores }], guard := none }) rfl (fun KK hK => ?_) (AllReadyK.cons (o := { dst := some 60, op := Op.extract (Operand.tmp 50) 2, type := 4, pos := "law.go:116", after := #[{ on := 7, ground := Ground.data }, { on := 12, ground := Ground.gcOnly Departure.lateStores }], guard := none }) rfl (fun KK hK => ?_) (AllReadyK.nil)))
        · try simp only [List.getElem_toArray, List.getElem_cons_succ, List.getElem_cons_zero]
          go_simp
          refine hK.out _ _ (fun h => absurd (show true = false from h) (by decide)) ?_
          clear hK KK
          try simp only [Act.put, List.setIfInBounds_toArray, List.set_cons_zero, List.set_cons_succ]
          refine wpAnyK_ready (rs := [9, 10, 11]) (by kernel_rfl) (by simp) ?_
          refine AllReadyK.cons (o := { dst := some 59, op := Op.extract (Operand.tmp 50) 1, type := 36, pos := "law.go:116", after := #[{ on := 7, ground := Ground.data }, { on := 11, ground := Ground.gcOnly Departure.lateStores }], guard := none }) rfl (fun KK hK => ?_) (AllReadyK.cons (o := { dst := some 60, op := Op.extract (Operand.tmp 50) 2, type := 4, pos := "law.go:116", after := #[{ on := 7, ground := Ground.data }, { on := 12, ground := Ground.gcOnly Departure.lateStores }], guard := none }) rfl (fun KK hK => ?_) (AllReadyK.cons (o := { dst := some 9, op := Op.assign (Operand.tmp 58), type := 30, pos := "law.go:116", after := #[{ on := 8, ground := Ground.data }, { on := 6, ground := Ground.chain }, { on := 0, ground := Ground.phase }, { on := 1, ground := Ground.phase }, { on := 2, ground := Ground.phase }, { on := 3, ground := Ground.phase }, { on := 4, ground := Ground.phase }, { on := 5, ground := Ground.phase }, { on := 6, ground := Ground.phase }, { on := 7, ground := Ground.phase }, { on := 8, ground := Ground.phase }, { on := 9, ground := Ground.textOnly Departure.lateStores }, { on := 10, ground := Ground.textOnly Departure.lateStores }], guard := none }) rfl (fun KK hK => ?_) (AllReadyK.nil)))
          · try simp only [List.getElem_toArray, List.getElem_cons_succ, List.getElem_cons_zero]
            go_simp
            refine hK.out _ _ (fun h => absurd (show true = false from h) (by decide)) ?_
            clear hK KK
            try simp only [Act.put, List.setIfInBounds_toArray, List.set_cons_zero, List.set_cons_succ]
            refine wpAnyK_ready (rs := [10, 11]) (by kernel_rfl) (by simp) ?_
            refine AllReadyK.cons (o := { dst := some 60, op := Op.extract (Operand.tmp 50) 2, type := 4, pos := "law.go:116", after := #[{ on := 7, ground := Ground.data }, { on := 12, ground := Ground.gcOnly Departure.lateStores }], guard := none }) rfl (fun KK hK => ?_) (AllReadyK.cons (o := { dst := some 9, op := Op.assign (Operand.tmp 58), type := 30, pos := "law.go:116", after := #[{ on := 8, ground := Ground.data }, { on := 6, ground := Ground.chain }, { on := 0, ground := Ground.phase }, { on := 1, ground := Ground.phase }, { on := 2, ground := Ground.phase }, { on := 3, ground := Ground.phase }, { on := 4, ground := Ground.phase }, { on := 5, ground := Ground.phase }, { on := 6, ground := Ground.phase }, { on := 7, ground := Ground.phase }, { on := 8, ground := Ground.phase }, { on := 9, ground := Ground.textOnly Departure.lateStores }, { on := 10, ground := Ground.textOnly Departure.lateStores }], guard := none }) rfl (fun KK hK => ?_) (AllReadyK.nil))
            · try simp only [List.getElem_toArray, List.getElem_cons_succ, List.getElem_cons_zero]
              go_simp
              refine hK.out _ _ (fun h => absurd (show true = false from h) (by decide)) ?_
              clear hK KK
              try simp only [Act.put, List.setIfInBounds_toArray, List.set_cons_zero, List.set_cons_succ]
              refine wpAnyK_ready (rs := [11]) (by kernel_rfl) (by simp) ?_
              refine AllReadyK.cons (o := { dst := some 9, op := Op.assign (Operand.tmp 58), type := 30, pos := "law.go:116", after := #[{ on := 8, ground := Ground.data }, { on := 6, ground := Ground.chain }, { on := 0, ground := Ground.phase }, { on := 1, ground := Ground.phase }, { on := 2, ground := Ground.phase }, { on := 3, ground := Ground.phase }, { on := 4, ground := Ground.phase }, { on := 5, ground := Ground.phase }, { on := 6, ground := Ground.phase }, { on := 7, ground := Ground.phase }, { on := 8, ground := Ground.phase }, { on := 9, ground := Ground.textOnly Departure.lateStores }, { on := 10, ground := Ground.textOnly Departure.lateStores }], guard := none }) rfl (fun KK hK => ?_) (AllReadyK.nil)
              try simp only [List.getElem_toArray, List.getElem_cons_succ, List.getElem_cons_zero]
              go_simp
              refine hK.out _ _ (fun h => absurd (show true = false from h) (by decide)) ?_
              clear hK KK
              try simp only [Act.put, List.setIfInBounds_toArray, List.set_cons_zero, List.set_cons_succ]
              refine wpAnyK_ready (rs := [12]) (by kernel_rfl) (by simp) ?_
              refine AllReadyK.cons (o := { dst := none, op := Op.store 36 (Operand.tmp 11) (Operand.tmp 59), type := 0, pos := "law.go:116", after := #[{ on := 9, ground := Ground.data }, { on := 11, ground := Ground.chain }, { on := 0, ground := Ground.phase }, { on := 1, ground := Ground.phase }, { on := 2, ground := Ground.phase }, { on := 3, ground := Ground.phase }, { on := 4, ground := Ground.phase }, { on := 5, ground := Ground.phase }, { on := 6, ground := Ground.phase }, { on := 7, ground := Ground.phase }, { on := 8, ground := Ground.phase }, { on := 9, ground := Ground.phase }, { on := 10, ground := Ground.textOnly Departure.lateStores }, { on := 11, ground := Ground.phase }], guard := none }) rfl (fun KK hK => ?_) (AllReadyK.nil)
              try simp only [List.getElem_toArray, List.getElem_cons_succ, List.getElem_cons_zero]
              have gy := HP1.out.at (x := T11) (o := wantO bo m bc most) (by simp)
              unfold wantO at gy
              have e0 := cell_blk gy 0 _ rfl
              have e1 := cell_blk gy 1 _ rfl
              have e2 := blk_lt gy
              have e3 := frozen_blk gy 0
              have e4 := frozen_blk gy 1
              go_simp
              obtain ⟨z3, hz3⟩ : ∃ Q, Q = (z1.setCell ⟨T11, 0, none⟩ (.slice bo' m' bc')).setCell ⟨T11, 1, none⟩ (.int .i64 most) := ⟨_, rfl⟩
              rw [← hz3]
              have HP3 : Hid (PS u p' most L1 bo' m' bc' [(T11, wantO bo' m' bc' most), (X8, .cells #[.bool false] 4 (0, 0)), (X7, actO q0 q1 q2 q3), (X6, actO r0 r1 r2 r3)] z3) := Lib.hid (HP1.out.set (C' := #[.slice bo' m' bc', .int .i64 most]) HT.out.1 (by simp) (by decide) (by decide) (by
                intro x hx
                have := HT.out
                simp at hx
                rcases hx with rfl | rfl | rfl <;> simp only <;> omega) (by rw [hz3]; exact setCell_blk (setCell_blk gy 0 _) 1 _) (by rw [hz3]; exact ((Mod.refl (fun q => q = T11) z1).setCell ⟨T11, 0, none⟩ (.inl rfl) _).setCell ⟨T11, 1, none⟩ (.inl rfl) _))
              clear e0 e1 e2 e3 e4 hz3 gy
              refine hK.out _ _ (fun h => absurd (show true = false from h) (by decide)) ?_
              clear hK KK
              try simp only [Act.put, List.setIfInBounds_toArray, List.set_cons_zero, List.set_cons_succ]
              refine wpAnyK_done (by kernel_rfl) ?_ _
              refine NoPanic.normal ?_
              go_wp2
              go_meet
              exact ⟨p', bo', m', bc', rfl, HP3.out⟩
            · try simp only [List.getElem_toArray, List.getElem_cons_succ, List.getElem_cons_zero]
              go_simp
              refine hK.out _ _ (fun h => absurd (show true = false from h) (by decide)) ?_
              clear hK KK
              try simp only [Act.put, List.setIfInBounds_toArray, List.set_cons_zero, List.set_cons_succ]
              refine wpAnyK_ready (rs := [10, 12]) (by kernel_rfl) (by simp) ?_
              refine AllReadyK.cons (o := { dst := some 60, op := Op.extract (Operand.tmp 50) 2, type := 4, pos := "law.go:116", after := #[{ on := 7, ground := Ground.data }, { on := 12, ground := Ground.gcOnly Departure.lateStores }], guard := none }) rfl (fun KK hK => ?_) (AllReadyK.cons (o := { dst := none, op := Op.store 36 (Operand.tmp 11) (Operand.tmp 59), type := 0, pos := "law.go:116", after := #[{ on := 9, ground := Ground.data }, { on := 11, ground := Ground.chain }, { on := 0, ground := Ground.phase }, { on := 1, ground := Ground.phase }, { on := 2, ground := Ground.phase }, { on := 3, ground := Ground.phase }, { on := 4, ground := Ground.phase }, { on := 5, ground := Ground.phase }, { on := 6, ground := Ground.phase }, { on := 7, ground := Ground.phase }, { on := 8, ground := Ground.phase }, { on := 9, ground := Ground.phase }, { on := 10, ground := Ground.textOnly Departure.lateStores }, { on := 11, ground := Ground.phase }], guard := none }) rfl (fun KK hK => ?_) (AllReadyK.nil))
              · try simp only [List.getElem_toArray, List.getElem_cons_succ, List.getElem_cons_zero]
                go_simp
                refine hK.out _ _ (fun h => absurd (show true = false from h) (by decide)) ?_
                clear hK KK
                try simp only [Act.put, List.setIfInBounds_toArray, List.set_cons_zero, List.set_cons_succ]
                refine wpAnyK_ready (rs := [12]) (by kernel_rfl) (by simp) ?_
                refine AllReadyK.cons (o := { dst := none, op := Op.store 36 (Operand.tmp 11) (Operand.tmp 59), type := 0, pos := "law.go:116", after := #[{ on := 9, ground := Ground.data }, { on := 11, ground := Ground.chain }, { on := 0, ground := Ground.phase }, { on := 1, ground := Ground.phase }, { on := 2, ground := Ground.phase }, { on := 3, ground := Ground.phase }, { on := 4, ground := Ground.phase }, { on := 5, ground := Ground.phase }, { on := 6, ground := Ground.phase }, { on := 7, ground := Ground.phase }, { on := 8, ground := Ground.phase }, { on := 9, ground := Ground.phase }, { on := 10, ground := Ground.textOnly Departure.lateStores }, { on := 11, ground := Ground.phase }], guard := none }) rfl (fun KK hK => ?_) (AllReadyK.nil)
                try simp only [List.getElem_toArray, List.getElem_cons_succ, List.getElem_cons_zero]
                have gy := HP1.out.at (x := T11) (o := wantO bo m bc most) (by simp)
                unfold wantO at gy
                have e0 := cell_blk gy 0 _ rfl
                have e1 := cell_blk gy 1 _ rfl
                have e2 := blk_lt gy
                have e3 := frozen_blk gy 0
                have e4 := frozen_blk gy 1
                go_simp
                obtain ⟨z3, hz3⟩ : ∃ Q, Q = (z1.setCell ⟨T11, 0, none⟩ (.slice bo' m' bc')).setCell ⟨T11, 1, none⟩ (.int .i64 most) := ⟨_, rfl⟩
                rw [← hz3]
                have HP3 : Hid (PS u p' most L1 bo' m' bc' [(T11, wantO bo' m' bc' most), (X8, .cells #[.bool false] 4 (0, 0)), (X7, actO q0 q1 q2 q3), (X6, actO r0 r1 r2 r3)] z3) := Lib.hid (HP1.out.set (C' := #[.slice bo' m' bc', .int .i64 most]) HT.out.1 (by simp) (by decide) (by decide) (by
                  intro x hx
                  have := HT.out
                  simp at hx
                  rcases hx with rfl | rfl | rfl <;> simp only <;> omega) (by rw [hz3]; exact setCell_blk (setCell_blk gy 0 _) 1 _) (by rw [hz3]; exact ((Mod.refl (fun q => q = T11) z1).setCell ⟨T11, 0, none⟩ (.inl rfl) _).setCell ⟨T11, 1, none⟩ (.inl rfl) _))
                clear e0 e1 e2 e3 e4 hz3 gy
                refine hK.out _ _ (fun h => absurd (show true = false from h) (by decide)) ?_
                clear hK KK
                try simp only [Act.put, List.setIfInBounds_toArray, List.set_cons_zero, List.set_cons_succ]
                refine wpAnyK_done (by kernel_rfl) ?_ _
                refine NoPanic.normal ?_
                go_wp2
                go_meet
                exact ⟨p', bo', m', bc', rfl, HP3.out⟩
              · try simp only [List.getElem_toArray, List.getElem_cons_succ, List.getElem_cons_zero]
                have gy := HP1.out.at (x := T11) (o := wantO bo m bc most) (by simp)
                unfold wantO at gy
                have e0 := cell_blk gy 0 _ rfl
                have e1 := cell_blk gy 1 _ rfl
                have e2 := blk_lt gy
                have e3 := frozen_blk gy 0
                have e4 := frozen_blk gy 1
                go_simp
                obtain ⟨z3, hz3⟩ : ∃ Q, Q = (z1.setCell ⟨T11, 0, none⟩ (.slice bo' m' bc')).setCell ⟨T11, 1, none⟩ (.int .i64 most) := ⟨_, rfl⟩
                rw [← hz3]
                have HP3 : Hid (PS u p' most L1 bo' m' bc' [(T11, wantO bo' m' bc' most), (X8, .cells #[.bool false] 4 (0, 0)), (X7, actO q0 q1 q2 q3), (X6, actO r0 r1 r2 r3)] z3) := Lib.hid (HP1.out.set (C' := #[.slice bo' m' bc', .int .i64 most]) HT.out.1 (by simp) (by decide) (by decide) (by
                  intro x hx
                  have := HT.out
                  simp at hx
                  rcases hx with rfl | rfl | rfl <;> simp only <;> omega) (by rw [hz3]; exact setCell_blk (setCell_blk gy 0 _) 1 _) (by rw [hz3]; exact ((Mod.refl (fun q => q = T11) z1).setCell ⟨T11, 0, none⟩ (.inl rfl) _).setCell ⟨T11, 1, none⟩ (.inl rfl) _))
                clear e0 e1 e2 e3 e4 hz3 gy
                refine hK.out _ _ (fun h => absurd (show true = false from h) (by decide)) ?_
                clear hK KK
                try simp only [Act.put, List.setIfInBounds_toArray, List.set_cons_zero, List.set_cons_succ]
                refine wpAnyK_ready (rs := [10]) (by kernel_rfl) (by simp) ?_
                refine AllReadyK.cons (o := { dst := some 60, op := Op.extract (Operand.tmp 50) 2, type := 4, pos := "law.go:116", after := #[{ on := 7, ground := Ground.data }, { on := 12, ground := Ground.gcOnly Departure.lateStores }], guard := none }) rfl (fun KK hK => ?_) (AllReadyK.nil)
                try simp only [List.getElem_toArray, List.getElem_cons_succ, List.getElem_cons_zero]
                go_simp
                refine hK.out _ _ (fun h => absurd (show true = false from h) (by decide)) ?_
                clear hK KK
                try simp only [Act.put, List.setIfInBounds_toArray, List.set_cons_zero, List.set_cons_succ]
                refine wpAnyK_done (by kernel_rfl) ?_ _
                refine NoPanic.normal ?_
                go_wp2
                go_meet
                exact ⟨p', bo', m', bc', rfl, HP3.out⟩
          · try simp only [List.getElem_toArray, List.getElem_cons_succ, List.getElem_cons_zero]
            go_simp
            refine hK.out _ _ (fun h => absurd (show true = false from h) (by decide)) ?_
            clear hK KK
            try simp only [Act.put, List.setIfInBounds_toArray, List.set_cons_zero, List.set_cons_succ]
            refine wpAnyK_ready (rs := [9, 11]) (by kernel_rfl) (by simp) ?_
            refine AllReadyK.cons (o := { dst := some 59, op := Op.extract (Operand.tmp 50) 1, type := 36, pos := "law.go:116", after := #[{ on := 7, ground := Ground.data }, { on := 11, ground := Ground.gcOnly Departure.lateStores }], guard := none }) rfl (fun KK hK => ?_) (AllReadyK.cons (o := { dst := some 9, op := Op.assign (Operand.tmp 58), type := 30, pos := "law.go:116", after := #[{ on := 8, ground := Ground.data }, { on := 6, ground := Ground.chain }, { on := 0, ground := Ground.phase }, { on := 1, ground := Ground.phase }, { on := 2, ground := Ground.phase }, { on := 3, ground := Ground.phase }, { on := 4, ground := Ground.phase }, { on := 5, ground := Ground.phase }, { on := 6, ground := Ground.phase }, { on := 7, ground := Ground.phase }, { on := 8, ground := Ground.phase }, { on := 9, ground := Ground.textOnly Departure.lateStores }, { on := 10, ground := Ground.textOnly Departure.lateStores }], guard := none }) rfl (fun KK hK => ?_) (AllReadyK.nil))
            · try simp only [List.getElem_toArray, List.getElem_cons_succ, List.getElem_cons_zero]
              go_simp
              refine hK.out _ _ (fun h => absurd (show true = false from h) (by decide)) ?_
              clear hK KK
              try simp only [Act.put, List.setIfInBounds_toArray, List.set_cons_zero, List.set_cons_succ]
              refine wpAnyK_ready (rs := [11]) (by kernel_rfl) (by simp) ?_
              refine AllReadyK.cons (o := { dst := some 9, op := Op.assign (Operand.tmp 58), type := 30, pos := "law.go:116", after := #[{ on := 8, ground := Ground.data }, { on := 6, ground := Ground.chain }, { on := 0, ground := Ground.phase }, { on := 1, ground := Ground.phase }, { on := 2, ground := Ground.phase }, { on := 3, ground := Ground.phase }, { on := 4, ground := Ground.phase }, { on := 5, ground := Ground.phase }, { on := 6, ground := Ground.phase }, { on := 7, ground := Ground.phase }, { on := 8, ground := Ground.phase }, { on := 9, ground := Ground.textOnly Departure.lateStores }, { on := 10, ground := Ground.textOnly Departure.lateStores }], guard := none }) rfl (fun KK hK => ?_) (AllReadyK.nil)
              try simp only [List.getElem_toArray, List.getElem_cons_succ, List.getElem_cons_zero]
              go_simp
              refine hK.out _ _ (fun h => absurd (show true = false from h) (by decide)) ?_
              clear hK KK
              try simp only [Act.put, List.setIfInBounds_toArray, List.set_cons_zero, List.set_cons_succ]
              refine wpAnyK_ready (rs := [12]) (by kernel_rfl) (by simp) ?_
              refine AllReadyK.cons (o := { dst := none, op := Op.store 36 (Operand.tmp 11) (Operand.tmp 59), type := 0, pos := "law.go:116", after := #[{ on := 9, ground := Ground.data }, { on := 11, ground := Ground.chain }, { on := 0, ground := Ground.phase }, { on := 1, ground := Ground.phase }, { on := 2, ground := Ground.phase }, { on := 3, ground := Ground.phase }, { on := 4, ground := Ground.phase }, { on := 5, ground := Ground.phase }, { on := 6, ground := Ground.phase }, { on := 7, ground := Ground.phase }, { on := 8, ground := Ground.phase }, { on := 9, ground := Ground.phase }, { on := 10, ground := Ground.textOnly Departure.lateStores }, { on := 11, ground := Ground.phase }], guard := none }) rfl (fun KK hK => ?_) (AllReadyK.nil)
              try simp only [List.getElem_toArray, List.getElem_cons_succ, List.getElem_cons_zero]
              have gy := HP1.out.at (x := T11) (o := wantO bo m bc most) (by simp)
              unfold wantO at gy
              have e0 := cell_blk gy 0 _ rfl
              have e1 := cell_blk gy 1 _ rfl
              have e2 := blk_lt gy
              have e3 := frozen_blk gy 0
              have e4 := frozen_blk gy 1
              go_simp
              obtain ⟨z3, hz3⟩ : ∃ Q, Q = (z1.setCell ⟨T11, 0, none⟩ (.slice bo' m' bc')).setCell ⟨T11, 1, none⟩ (.int .i64 most) := ⟨_, rfl⟩
              rw [← hz3]
              have HP3 : Hid (PS u p' most L1 bo' m' bc' [(T11, wantO bo' m' bc' most), (X8, .cells #[.bool false] 4 (0, 0)), (X7, actO q0 q1 q2 q3), (X6, actO r0 r1 r2 r3)] z3) := Lib.hid (HP1.out.set (C' := #[.slice bo' m' bc', .int .i64 most]) HT.out.1 (by simp) (by decide) (by decide) (by
                intro x hx
                have := HT.out
                simp at hx
                rcases hx with rfl | rfl | rfl <;> simp only <;> omega) (by rw [hz3]; exact setCell_blk (setCell_blk gy 0 _) 1 _) (by rw [hz3]; exact ((Mod.refl (fun q => q = T11) z1).setCell ⟨T11, 0, none⟩ (.inl rfl) _).setCell ⟨T11, 1, none⟩ (.inl rfl) _))
              clear e0 e1 e2 e3 e4 hz3 gy
              refine hK.out _ _ (fun h => absurd (show true = false from h) (by decide)) ?_
              clear hK KK
              try simp only [Act.put, List.setIfInBounds_toArray, List.set_cons_zero, List.set_cons_succ]
              refine wpAnyK_done (by kernel_rfl) ?_ _
              refine NoPanic.normal ?_
              go_wp2
              go_meet
              exact ⟨p', bo', m', bc', rfl, HP3.out⟩
            · try simp only [List.getElem_toArray, List.getElem_cons_succ, List.getElem_cons_zero]
              go_simp
              refine hK.out _ _ (fun h => absurd (show true = false from h) (by decide)) ?_
              clear hK KK
              try simp only [Act.put, List.setIfInBounds_toArray, List.set_cons_zero, List.set_cons_succ]
              refine wpAnyK_ready (rs := [9]) (by kernel_rfl) (by simp) ?_
              refine AllReadyK.cons (o := { dst := some 59, op := Op.extract (Operand.tmp 50) 1, type := 36, pos := "law.go:116", after := #[{ on := 7, ground := Ground.data }, { on := 11, ground := Ground.gcOnly Departure.lateStores }], guard := none }) rfl (fun KK hK => ?_) (AllReadyK.nil)
              try simp only [List.getElem_toArray, List.getElem_cons_succ, List.getElem_cons_zero]
              go_simp
              refine hK.out _ _ (fun h => absurd (show true = false from h) (by decide)) ?_
              clear hK KK
              try simp only [Act.put, List.setIfInBounds_toArray, List.set_cons_zero, List.set_cons_succ]
              refine wpAnyK_ready (rs := [12]) (by kernel_rfl) (by simp) ?_
              refine AllReadyK.cons (o := { dst := none, op := Op.store 36 (Operand.tmp 11) (Operand.tmp 59), type := 0, pos := "law.go:116", after := #[{ on := 9, ground := Ground.data }, { on := 11, ground := Ground.chain }, { on := 0, ground := Ground.phase }, { on := 1, ground := Ground.phase }, { on := 2, ground := Ground.phase }, { on := 3, ground := Ground.phase }, { on := 4, ground := Ground.phase }, { on := 5, ground := Ground.phase }, { on := 6, ground := Ground.phase }, { on := 7, ground := Ground.phase }, { on := 8, ground := Ground.phase }, { on := 9, ground := Ground.phase }, { on := 10, ground := Ground.textOnly Departure.lateStores }, { on := 11, ground := Ground.phase }], guard := none }) rfl (fun KK hK => ?_) (AllReadyK.nil)
              try simp only [List.getElem_toArray, List.getElem_cons_succ, List.getElem_cons_zero]
              have gy := HP1.out.at (x := T11) (o := wantO bo m bc most) (by simp)
              unfold wantO at gy
              have e0 := cell_blk gy 0 _ rfl
              have e1 := cell_blk gy 1 _ rfl
              have e2 := blk_lt gy
              have e3 := frozen_blk gy 0
              have e4 := frozen_blk gy 1
              go_simp
              obtain ⟨z3, hz3⟩ : ∃ Q, Q = (z1.setCell ⟨T11, 0, none⟩ (.slice bo' m' bc')).setCell ⟨T11, 1, none⟩ (.int .i64 most) := ⟨_, rfl⟩
              rw [← hz3]
              have HP3 : Hid (PS u p' most L1 bo' m' bc' [(T11, wantO bo' m' bc' most), (X8, .cells #[.bool false] 4 (0, 0)), (X7, actO q0 q1 q2 q3), (X6, actO r0 r1 r2 r3)] z3) := Lib.hid (HP1.out.set (C' := #[.slice bo' m' bc', .int .i64 most]) HT.out.1 (by simp) (by decide) (by decide) (by
                intro x hx
                have := HT.out
                simp at hx
                rcases hx with rfl | rfl | rfl <;> simp only <;> omega) (by rw [hz3]; exact setCell_blk (setCell_blk gy 0 _) 1 _) (by rw [hz3]; exact ((Mod.refl (fun q => q = T11) z1).setCell ⟨T11, 0, none⟩ (.inl rfl) _).setCell ⟨T11, 1, none⟩ (.inl rfl) _))
              clear e0 e1 e2 e3 e4 hz3 gy
              refine hK.out _ _ (fun h => absurd (show true = false from h) (by decide)) ?_
              clear hK KK
              try simp only [Act.put, List.setIfInBounds_toArray, List.set_cons_zero, List.set_cons_succ]
              refine wpAnyK_done (by kernel_rfl) ?_ _
              refine NoPanic.normal ?_
              go_wp2
              go_meet
              exact ⟨p', bo', m', bc', rfl, HP3.out⟩
          · try simp only [List.getElem_toArray, List.getElem_cons_succ, List.getElem_cons_zero]
            go_simp
            refine hK.out _ _ (fun h => absurd (show true = false from h) (by decide)) ?_
            clear hK KK
            try simp only [Act.put, List.setIfInBounds_toArray, List.set_cons_zero, List.set_cons_succ]
            refine wpAnyK_ready (rs := [9, 10]) (by kernel_rfl) (by simp) ?_
            refine AllReadyK.cons (o := { dst := some 59, op := Op.extract (Operand.tmp 50) 1, type := 36, pos := "law.go:116", after := #[{ on := 7, ground := Ground.data }, { on := 11, ground := Ground.gcOnly Departure.lateStores }], guard := none }) rfl (fun KK hK => ?_) (AllReadyK.cons (o := { dst := some 60, op := Op.extract (Operand.tmp 50) 2, type := 4, pos := "law.go:116", after := #[{ on := 7, ground := Ground.data }, { on := 12, ground := Ground.gcOnly Departure.lateStores }], guard := none }) rfl (fun KK hK => ?_) (AllReadyK.nil))
            · try simp only [List.getElem_toArray, List.getElem_cons_succ, List.getElem_cons_zero]
              go_simp
              refine hK.out _ _ (fun h => absurd (show true = false from h) (by decide)) ?_
              clear hK KK
              try simp only [Act.put, List.setIfInBounds_toArray, List.set_cons_zero, List.set_cons_succ]
              refine wpAnyK_ready (rs := [10, 12]) (by kernel_rfl) (by simp) ?_
              refine AllReadyK.cons (o := { dst := some 60, op := Op.extract (Operand.tmp 50) 2, type := 4, pos := "law.go:116", after := #[{ on := 7, ground := Ground.data }, { on := 12, ground := Ground.gcOnly Departure.lateStores }], guard := none }) rfl (fun KK hK => ?_) (AllReadyK.cons (o := { dst := none, op := Op.store 36 (Operand.tmp 11) (Operand.tmp 59), type := 0, pos := "law.go:116", after := #[{ on := 9, ground := Ground.data }, { on := 11, ground := Ground.chain }, { on := 0, ground := Ground.phase }, { on := 1, ground := Ground.phase }, { on := 2, ground := Ground.phase }, { on := 3, ground := Ground.phase }, { on := 4, ground := Ground.phase }, { on := 5, ground := Ground.phase }, { on := 6, ground := Ground.phase }, { on := 7, ground := Ground.phase }, { on := 8, ground := Ground.phase }, { on := 9, ground := Ground.phase }, { on := 10, ground := Ground.textOnly Departure.lateStores }, { on := 11, ground := Ground.phase }], guard := none }) rfl (fun KK hK => ?_) (AllReadyK.nil))
              · try simp only [List.getElem_toArray, List.getElem_cons_succ, List.getElem_cons_zero]
                go_simp
                refine hK.out _ _ (fun h => absurd (show true = false from h) (by decide)) ?_
                clear hK KK
                try simp only [Act.put, List.setIfInBounds_toArray, List.set_cons_zero, List.set_cons_succ]
                refine wpAnyK_ready (rs := [12]) (by kernel_rfl) (by simp) ?_
                refine AllReadyK.cons (o := { dst := none, op := Op.store 36 (Operand.tmp 11) (Operand.tmp 59), type := 0, pos := "law.go:116", after := #[{ on := 9, ground := Ground.data }, { on := 11, ground := Ground.chain }, { on := 0, ground := Ground.phase }, { on := 1, ground := Ground.phase }, { on := 2, ground := Ground.phase }, { on := 3, ground := Ground.phase }, { on := 4, ground := Ground.phase }, { on := 5, ground := Ground.phase }, { on := 6, ground := Ground.phase }, { on := 7, ground := Ground.phase }, { on := 8, ground := Ground.phase }, { on := 9, ground := Ground.phase }, { on := 10, ground := Ground.textOnly Departure.lateStores }, { on := 11, ground := Ground.phase }], guard := none }) rfl (fun KK hK => ?_) (AllReadyK.nil)
                try simp only [List.getElem_toArray, List.getElem_cons_succ, List.getElem_cons_zero]
                have gy := HP1.out.at (x := T11) (o := wantO bo m bc most) (by simp)
                unfold wantO at gy
                have e0 := cell_blk gy 0 _ rfl
                have e1 := cell_blk gy 1 _ rfl
                have e2 := blk_lt gy
                have e3 := frozen_blk gy 0
                have e4 := frozen_blk gy 1
                go_simp
                obtain ⟨z3, hz3⟩ : ∃ Q, Q = (z1.setCell ⟨T11, 0, none⟩ (.slice bo' m' bc')).setCell ⟨T11, 1, none⟩ (.int .i64 most) := ⟨_, rfl⟩
                rw [← hz3]
                have HP3 : Hid (PS u p' most L1 bo' m' bc' [(T11, wantO bo' m' bc' most), (X8, .cells #[.bool false] 4 (0, 0)), (X7, actO q0 q1 q2 q3), (X6, actO r0 r1 r2 r3)] z3) := Lib.hid (HP1.out.set (C' := #[.slice bo' m' bc', .int .i64 most]) HT.out.1 (by simp) (by decide) (by decide) (by
                  intro x hx
                  have := HT.out
                  simp at hx
                  rcases hx with rfl | rfl | rfl <;> simp only <;> omega) (by rw [hz3]; exact setCell_blk (setCell_blk gy 0 _) 1 _) (by rw [hz3]; exact ((Mod.refl (fun q => q = T11) z1).setCell ⟨T11, 0, none⟩ (.inl rfl) _).setCell ⟨T11, 1, none⟩ (.inl rfl) _))
                clear e0 e1 e2 e3 e4 hz3 gy
                refine hK.out _ _ (fun h => absurd (show true = false from h) (by decide)) ?_
                clear hK KK
                try simp only [Act.put, List.setIfInBounds_toArray, List.set_cons_zero, List.set_cons_succ]
                refine wpAnyK_done (by kernel_rfl) ?_ _
                refine NoPanic.normal ?_
                go_wp2
                go_meet
                exact ⟨p', bo', m', bc', rfl, HP3.out⟩
              · try simp only [List.getElem_toArray, List.getElem_cons_succ, List.getElem_cons_zero]
                have gy := HP1.out.at (x := T11) (o := wantO bo m bc most) (by simp)
                unfold wantO at gy
                have e0 := cell_blk gy 0 _ rfl
                have e1 := cell_blk gy 1 _ rfl
                have e2 := blk_lt gy
                have e3 := frozen_blk gy 0
                have e4 := frozen_blk gy 1
                go_simp
                obtain ⟨z3, hz3⟩ : ∃ Q, Q = (z1.setCell ⟨T11, 0, none⟩ (.slice bo' m' bc')).setCell ⟨T11, 1, none⟩ (.int .i64 most) := ⟨_, rfl⟩
                rw [← hz3]
                have HP3 : Hid (PS u p' most L1 bo' m' bc' [(T11, wantO bo' m' bc' most), (X8, .cells #[.bool false] 4 (0, 0)), (X7, actO q0 q1 q2 q3), (X6, actO r0 r1 r2 r3)] z3) := Lib.hid (HP1.out.set (C' := #[.slice bo' m' bc', .int .i64 most]) HT.out.1 (by simp) (by decide) (by decide) (by
                  intro x hx
                  have := HT.out
                  simp at hx
                  rcases hx with rfl | rfl | rfl <;> simp only <;> omega) (by rw [hz3]; exact setCell_blk (setCell_blk gy 0 _) 1 _) (by rw [hz3]; exact ((Mod.refl (fun q => q = T11) z1).setCell ⟨T11, 0, none⟩ (.inl rfl) _).setCell ⟨T11, 1, none⟩ (.inl rfl) _))
                clear e0 e1 e2 e3 e4 hz3 gy
                refine hK.out _ _ (fun h => absurd (show true = false from h) (by decide)) ?_
                clear hK KK
                try simp only [Act.put, List.setIfInBounds_toArray, List.set_cons_zero, List.set_cons_succ]
                refine wpAnyK_ready (rs := [10]) (by kernel_rfl) (by simp) ?_
                refine AllReadyK.cons (o := { dst := some 60, op := Op.extract (Operand.tmp 50) 2, type := 4, pos := "law.go:116", after := #[{ on := 7, ground := Ground.data }, { on := 12, ground := Ground.gcOnly Departure.lateStores }], guard := none }) rfl (fun KK hK => ?_) (AllReadyK.nil)
                try simp only [List.getElem_toArray, List.getElem_cons_succ, List.getElem_cons_zero]
                go_simp
                refine hK.out _ _ (fun h => absurd (show true = false from h) (by decide)) ?_
                clear hK KK
                try simp only [Act.put, List.setIfInBounds_toArray, List.set_cons_zero, List.set_cons_succ]
                refine wpAnyK_done (by kernel_rfl) ?_ _
                refine NoPanic.normal ?_
                go_wp2
                go_meet
                exact ⟨p', bo', m', bc', rfl, HP3.out⟩
            · try simp only [List.getElem_toArray, List.getElem_cons_succ, List.getElem_cons_zero]
              go_simp
              refine hK.out _ _ (fun h => absurd (show true = false from h) (by decide)) ?_
              clear hK KK
              try simp only [Act.put, List.setIfInBounds_toArray, List.set_cons_zero, List.set_cons_succ]
              refine wpAnyK_ready (rs := [9]) (by kernel_rfl) (by simp) ?_
              refine AllReadyK.cons (o := { dst := some 59, op := Op.extract (Operand.tmp 50) 1, type := 36, pos := "law.go:116", after := #[{ on := 7, ground := Ground.data }, { on := 11, ground := Ground.gcOnly Departure.lateStores }], guard := none }) rfl (fun KK hK => ?_) (AllReadyK.nil)
              try simp only [List.getElem_toArray, List.getElem_cons_succ, List.getElem_cons_zero]
              go_simp
              refine hK.out _ _ (fun h => absurd (show true = false from h) (by decide)) ?_
              clear hK KK
              try simp only [Act.put, List.setIfInBounds_toArray, List.set_cons_zero, List.set_cons_succ]
              refine wpAnyK_ready (rs := [12]) (by kernel_rfl) (by simp) ?_
              refine AllReadyK.cons (o := { dst := none, op := Op.store 36 (Operand.tmp 11) (Operand.tmp 59), type := 0, pos := "law.go:116", after := #[{ on := 9, ground := Ground.data }, { on := 11, ground := Ground.chain }, { on := 0, ground := Ground.phase }, { on := 1, ground := Ground.phase }, { on := 2, ground := Ground.phase }, { on := 3, ground := Ground.phase }, { on := 4, ground := Ground.phase }, { on := 5, ground := Ground.phase }, { on := 6, ground := Ground.phase }, { on := 7, ground := Ground.phase }, { on := 8, ground := Ground.phase }, { on := 9, ground := Ground.phase }, { on := 10, ground := Ground.textOnly Departure.lateStores }, { on := 11, ground := Ground.phase }], guard := none }) rfl (fun KK hK => ?_) (AllReadyK.nil)
              try simp only [List.getElem_toArray, List.getElem_cons_succ, List.getElem_cons_zero]
              have gy := HP1.out.at (x := T11) (o := wantO bo m bc most) (by simp)
              unfold wantO at gy
              have e0 := cell_blk gy 0 _ rfl
              have e1 := cell_blk gy 1 _ rfl
              have e2 := blk_lt gy
              have e3 := frozen_blk gy 0
              have e4 := frozen_blk gy 1
              go_simp
              obtain ⟨z3, hz3⟩ : ∃ Q, Q = (z1.setCell ⟨T11, 0, none⟩ (.slice bo' m' bc')).setCell ⟨T11, 1, none⟩ (.int .i64 most) := ⟨_, rfl⟩
              rw [← hz3]
              have HP3 : Hid (PS u p' most L1 bo' m' bc' [(T11, wantO bo' m' bc' most), (X8, .cells #[.bool false] 4 (0, 0)), (X7, actO q0 q1 q2 q3), (X6, actO r0 r1 r2 r3)] z3) := Lib.hid (HP1.out.set (C' := #[.slice bo' m' bc', .int .i64 most]) HT.out.1 (by simp) (by decide) (by decide) (by
                intro x hx
                have := HT.out
                simp at hx
                rcases hx with rfl | rfl | rfl <;> simp only <;> omega) (by rw [hz3]; exact setCell_blk (setCell_blk gy 0 _) 1 _) (by rw [hz3]; exact ((Mod.refl (fun q => q = T11) z1).setCell ⟨T11, 0, none⟩ (.inl rfl) _).setCell ⟨T11, 1, none⟩ (.inl rfl) _))
              clear e0 e1 e2 e3 e4 hz3 gy
              refine hK.out _ _ (fun h => absurd (show true = false from h) (by decide)) ?_
              clear hK KK
              try simp only [Act.put, List.setIfInBounds_toArray, List.set_cons_zero, List.set_cons_succ]
              refine wpAnyK_done (by kernel_rfl) ?_ _
              refine NoPanic.normal ?_
              go_wp2
              go_meet
              exact ⟨p', bo', m', bc', rfl, HP3.out⟩
        · try simp only [List.getElem_toArray, List.getElem_cons_succ, List.getElem_cons_zero]
          go_simp
          refine hK.out _ _ (fun h => absurd (show true = false from h) (by decide)) ?_
          clear hK KK
          try simp only [Act.put, List.setIfInBounds_toArray, List.set_cons_zero, List.set_cons_succ]
          refine wpAnyK_ready (rs := [8, 10]) (by kernel_rfl) (by simp) ?_
          refine AllReadyK.cons (o := { dst := some 58, op := Op.extract (Operand.tmp 50) 0, type := 30, pos := "law.go:116", after := #[{ on := 7, ground := Ground.data }], guard := none }) rfl (fun KK hK => ?_) (AllReadyK.cons (o := { dst := some 60, op := Op.extract (Operand.tmp 50) 2, type := 4, pos := "law.go:116", after := #[{ on := 7, ground := Ground.data }, { on := 12, ground := Ground.gcOnly Departure.lateStores }], guard := none }) rfl (fun KK hK => ?_) (AllReadyK.nil))
          · try simp only [List.getElem_toArray, List.getElem_cons_succ, List.getElem_cons_zero]
            go_simp
            refine hK.out _ _ (fun h => absurd (show true = false from h) (by decide)) ?_
            clear hK KK
            try simp only [Act.put, List.setIfInBounds_toArray, List.set_cons_zero, List.set_cons_succ]
            refine wpAnyK_ready (rs := [10, 11]) (by kernel_rfl) (by simp) ?_
            refine AllReadyK.cons (o := { dst := some 60, op := Op.extract (Operand.tmp 50) 2, type := 4, pos := "law.go:116", after := #[{ on := 7, ground := Ground.data }, { on := 12, ground := Ground.gcOnly Departure.lateStores }], guard := none }) rfl (fun KK hK => ?_) (AllReadyK.cons (o := { dst := some 9, op := Op.assign (Operand.tmp 58), type := 30, pos := "law.go:116", after := #[{ on := 8, ground := Ground.data }, { on := 6, ground := Ground.chain }, { on := 0, ground := Ground.phase }, { on := 1, ground := Ground.phase }, { on := 2, ground := Ground.phase }, { on := 3, ground := Ground.phase }, { on := 4, ground := Ground.phase }, { on := 5, ground := Ground.phase }, { on := 6, ground := Ground.phase }, { on := 7, ground := Ground.phase }, { on := 8, ground := Ground.phase }, { on := 9, ground := Ground.textOnly Departure.lateStores }, { on := 10, ground := Ground.textOnly Departure.lateStores }], guard := none }) rfl (fun KK hK => ?_) (AllReadyK.nil))
            · try simp only [List.getElem_toArray, List.getElem_cons_succ, List.getElem_cons_zero]
              go_simp
              refine hK.out _ _ (fun h => absurd (show true = false from h) (by decide)) ?_
              clear hK KK
              try simp only [Act.put, List.setIfInBounds_toArray, List.set_cons_zero, List.set_cons_succ]
              refine wpAnyK_ready (rs := [11]) (by kernel_rfl) (by simp) ?_
              refine AllReadyK.cons (o := { dst := some 9, op := Op.assign (Operand.tmp 58), type := 30, pos := "law.go:116", after := #[{ on := 8, ground := Ground.data }, { on := 6, ground := Ground.chain }, { on := 0, ground := Ground.phase }, { on := 1, ground := Ground.phase }, { on := 2, ground := Ground.phase }, { on := 3, ground := Ground.phase }, { on := 4, ground := Ground.phase }, { on := 5, ground := Ground.phase }, { on := 6, ground := Ground.phase }, { on := 7, ground := Ground.phase }, { on := 8, ground := Ground.phase }, { on := 9, ground := Ground.textOnly Departure.lateStores }, { on := 10, ground := Ground.textOnly Departure.lateStores }], guard := none }) rfl (fun KK hK => ?_) (AllReadyK.nil)
              try simp only [List.getElem_toArray, List.getElem_cons_succ, List.getElem_cons_zero]
              go_simp
              refine hK.out _ _ (fun h => absurd (show true = false from h) (by decide)) ?_
              clear hK KK
              try simp only [Act.put, List.setIfInBounds_toArray, List.set_cons_zero, List.set_cons_succ]
              refine wpAnyK_ready (rs := [12]) (by kernel_rfl) (by simp) ?_
              refine AllReadyK.cons (o := { dst := none, op := Op.store 36 (Operand.tmp 11) (Operand.tmp 59), type := 0, pos := "law.go:116", after := #[{ on := 9, ground := Ground.data }, { on := 11, ground := Ground.chain }, { on := 0, ground := Ground.phase }, { on := 1, ground := Ground.phase }, { on := 2, ground := Ground.phase }, { on := 3, ground := Ground.phase }, { on := 4, ground := Ground.phase }, { on := 5, ground := Ground.phase }, { on := 6, ground := Ground.phase }, { on := 7, ground := Ground.phase }, { on := 8, ground := Ground.phase }, { on := 9, ground := Ground.phase }, { on := 10, ground := Ground.textOnly Departure.lateStores }, { on := 11, ground := Ground.phase }], guard := none }) rfl (fun KK hK => ?_) (AllReadyK.nil)
              try simp only [List.getElem_toArray, List.getElem_cons_succ, List.getElem_cons_zero]
              have gy := HP1.out.at (x := T11) (o := wantO bo m bc most) (by simp)
              unfold wantO at gy
              have e0 := cell_blk gy 0 _ rfl
              have e1 := cell_blk gy 1 _ rfl
              have e2 := blk_lt gy
              have e3 := frozen_blk gy 0
              have e4 := frozen_blk gy 1
              go_simp
              obtain ⟨z3, hz3⟩ : ∃ Q, Q = (z1.setCell ⟨T11, 0, none⟩ (.slice bo' m' bc')).setCell ⟨T11, 1, none⟩ (.int .i64 most) := ⟨_, rfl⟩
              rw [← hz3]
              have HP3 : Hid (PS u p' most L1 bo' m' bc' [(T11, wantO bo' m' bc' most), (X8, .cells #[.bool false] 4 (0, 0)), (X7, actO q0 q1 q2 q3), (X6, actO r0 r1 r2 r3)] z3) := Lib.hid (HP1.out.set (C' := #[.slice bo' m' bc', .int .i64 most]) HT.out.1 (by simp) (by decide) (by decide) (by
                intro x hx
                have := HT.out
                simp at hx
                rcases hx with rfl | rfl | rfl <;> simp only <;> omega) (by rw [hz3]; exact setCell_blk (setCell_blk gy 0 _) 1 _) (by rw [hz3]; exact ((Mod.refl (fun q => q = T11) z1).setCell ⟨T11, 0, none⟩ (.inl rfl) _).setCell ⟨T11, 1, none⟩ (.inl rfl) _))
              clear e0 e1 e2 e3 e4 hz3 gy
              refine hK.out _ _ (fun h => absurd (show true = false from h) (by decide)) ?_
              clear hK KK
              try simp only [Act.put, List.setIfInBounds_toArray, List.set_cons_zero, List.set_cons_succ]
              refine wpAnyK_done (by kernel_rfl) ?_ _
              refine NoPanic.normal ?_
              go_wp2
              go_meet
              exact ⟨p', bo', m', bc', rfl, HP3.out⟩
            · try simp only [List.getElem_toArray, List.getElem_cons_succ, List.getElem_cons_zero]
              go_simp
              refine hK.out _ _ (fun h => absurd (show true = false from h) (by decide)) ?_
              clear hK KK
              try simp only [Act.put, List.setIfInBounds_toArray, List.set_cons_zero, List.set_cons_succ]
              refine wpAnyK_ready (rs := [10, 12]) (by kernel_rfl) (by simp) ?_
              refine AllReadyK.cons (o := { dst := some 60, op := Op.extract (Operand.tmp 50) 2, type := 4, pos := "law.go:116", after := #[{ on := 7, ground := Ground.data }, { on := 12, ground := Ground.gcOnly Departure.lateStores }], guard := none }) rfl (fun KK hK => ?_) (AllReadyK.cons (o := { dst := none, op := Op.store 36 (Operand.tmp 11) (Operand.tmp 59), type := 0, pos := "law.go:116", after := #[{ on := 9, ground := Ground.data }, { on := 11, ground := Ground.chain }, { on := 0, ground := Ground.phase }, { on := 1, ground := Ground.phase }, { on := 2, ground := Ground.phase }, { on := 3, ground := Ground.phase }, { on := 4, ground := Ground.phase }, { on := 5, ground := Ground.phase }, { on := 6, ground := Ground.phase }, { on := 7, ground := Ground.phase }, { on := 8, ground := Ground.phase }, { on := 9, ground := Ground.phase }, { on := 10, ground := Ground.textOnly Departure.lateStores }, { on := 11, ground := Ground.phase }], guard := none }) rfl (fun KK hK => ?_) (AllReadyK.nil))
              · try simp only [List.getElem_toArray, List.getElem_cons_succ, List.getElem_cons_zero]
                go_simp
                refine hK.out _ _ (fun h => absurd (show true = false from h) (by decide)) ?_
                clear hK KK
                try simp only [Act.put, List.setIfInBounds_toArray, List.set_cons_zero, List.set_cons_succ]
                refine wpAnyK_ready (rs := [12]) (by kernel_rfl) (by simp) ?_
                refine AllReadyK.cons (o := { dst := none, op := Op.store 36 (Operand.tmp 11) (Operand.tmp 59), type := 0, pos := "law.go:116", after := #[{ on := 9, ground := Ground.data }, { on := 11, ground := Ground.chain }, { on := 0, ground := Ground.phase }, { on := 1, ground := Ground.phase }, { on := 2, ground := Ground.phase }, { on := 3, ground := Ground.phase }, { on := 4, ground := Ground.phase }, { on := 5, ground := Ground.phase }, { on := 6, ground := Ground.phase }, { on := 7, ground := Ground.phase }, { on := 8, ground := Ground.phase }, { on := 9, ground := Ground.phase }, { on := 10, ground := Ground.textOnly Departure.lateStores }, { on := 11, ground := Ground.phase }], guard := none }) rfl (fun KK hK => ?_) (AllReadyK.nil)
                try simp only [List.getElem_toArray, List.getElem_cons_succ, List.getElem_cons_zero]
                have gy := HP1.out.at (x := T11) (o := wantO bo m bc most) (by simp)
                unfold wantO at gy
                have e0 := cell_blk gy 0 _ rfl
                have e1 := cell_blk gy 1 _ rfl
                have e2 := blk_lt gy
                have e3 := frozen_blk gy 0
                have e4 := frozen_blk gy 1
                go_simp
                obtain ⟨z3, hz3⟩ : ∃ Q, Q = (z1.setCell ⟨T11, 0, none⟩ (.slice bo' m' bc')).setCell ⟨T11, 1, none⟩ (.int .i64 most) := ⟨_, rfl⟩
                rw [← hz3]
                have HP3 : Hid (PS u p' most L1 bo' m' bc' [(T11, wantO bo' m' bc' most), (X8, .cells #[.bool false] 4 (0, 0)), (X7, actO q0 q1 q2 q3), (X6, actO r0 r1 r2 r3)] z3) := Lib.hid (HP1.out.set (C' := #[.slice bo' m' bc', .int .i64 most]) HT.out.1 (by simp) (by decide) (by decide) (by
                  intro x hx
                  have := HT.out
                  simp at hx
                  rcases hx with rfl | rfl | rfl <;> simp only <;> omega) (by rw [hz3]; exact setCell_blk (setCell_blk gy 0 _) 1 _) (by rw [hz3]; exact ((Mod.refl (fun q => q = T11) z1).setCell ⟨T11, 0, none⟩ (.inl rfl) _).setCell ⟨T11, 1, none⟩ (.inl rfl) _))
                clear e0 e1 e2 e3 e4 hz3 gy
                refine hK.out _ _ (fun h => absurd (show true = false from h) (by decide)) ?_
                clear hK KK
                try simp only [Act.put, List.setIfInBounds_toArray, List.set_cons_zero, List.set_cons_succ]
                refine wpAnyK_done (by kernel_rfl) ?_ _
                refine NoPanic.normal ?_
                go_wp2
                go_meet
                exact ⟨p', bo', m', bc', rfl, HP3.out⟩
              · try simp only [List.getElem_toArray, List.getElem_cons_succ, List.getElem_cons_zero]
                have gy := HP1.out.at (x := T11) (o := wantO bo m bc most) (by simp)
                unfold wantO at gy
                have e0 := cell_blk gy 0 _ rfl
                have e1 := cell_blk gy 1 _ rfl
                have e2 := blk_lt gy
                have e3 := frozen_blk gy 0
                have e4 := frozen_blk gy 1
                go_simp
                obtain ⟨z3, hz3⟩ : ∃ Q, Q = (z1.setCell ⟨T11, 0, none⟩ (.slice bo' m' bc')).setCell ⟨T11, 1, none⟩ (.int .i64 most) := ⟨_, rfl⟩
                rw [← hz3]
                have HP3 : Hid (PS u p' most L1 bo' m' bc' [(T11, wantO bo' m' bc' most), (X8, .cells #[.bool false] 4 (0, 0)), (X7, actO q0 q1 q2 q3), (X6, actO r0 r1 r2 r3)] z3) := Lib.hid (HP1.out.set (C' := #[.slice bo' m' bc', .int .i64 most]) HT.out.1 (by simp) (by decide) (by decide) (by
                  intro x hx
                  have := HT.out
                  simp at hx
                  rcases hx with rfl | rfl | rfl <;> simp only <;> omega) (by rw [hz3]; exact setCell_blk (setCell_blk gy 0 _) 1 _) (by rw [hz3]; exact ((Mod.refl (fun q => q = T11) z1).setCell ⟨T11, 0, none⟩ (.inl rfl) _).setCell ⟨T11, 1, none⟩ (.inl rfl) _))
                clear e0 e1 e2 e3 e4 hz3 gy
                refine hK.out _ _ (fun h => absurd (show true = false from h) (by decide)) ?_
                clear hK KK
                try simp only [Act.put, List.setIfInBounds_toArray, List.set_cons_zero, List.set_cons_succ]
                refine wpAnyK_ready (rs := [10]) (by kernel_rfl) (by simp) ?_
                refine AllReadyK.cons (o := { dst := some 60, op := Op.extract (Operand.tmp 50) 2, type := 4, pos := "law.go:116", after := #[{ on := 7, ground := Ground.data }, { on := 12, ground := Ground.gcOnly Departure.lateStores }], guard := none }) rfl (fun KK hK => ?_) (AllReadyK.nil)
                try simp only [List.getElem_toArray, List.getElem_cons_succ, List.getElem_cons_zero]
                go_simp
                refine hK.out _ _ (fun h => absurd (show true = false from h) (by decide)) ?_
                clear hK KK
                try simp only [Act.put, List.setIfInBounds_toArray, List.set_cons_zero, List.set_cons_succ]
                refine wpAnyK_done (by kernel_rfl) ?_ _
                refine NoPanic.normal ?_
                go_wp2
                go_meet
                exact ⟨p', bo', m', bc', rfl, HP3.out⟩
          · try simp only [List.getElem_toArray, List.getElem_cons_succ, List.getElem_cons_zero]
            go_simp
            refine hK.out _ _ (fun h => absurd (show true = false from h) (by decide)) ?_
            clear hK KK
            try simp only [Act.put, List.setIfInBounds_toArray, List.set_cons_zero, List.set_cons_succ]
            refine wpAnyK_ready (rs := [8]) (by kernel_rfl) (by simp) ?_
            refine AllReadyK.cons (o := { dst := some 58, op := Op.extract (Operand.tmp 50) 0, type := 30, pos := "law.go:116", after := #[{ on := 7, ground := Ground.data }], guard := none }) rfl (fun KK hK => ?_) (AllReadyK.nil)
            try simp only [List.getElem_toArray, List.getElem_cons_succ, List.getElem_cons_zero]
            go_simp
            refine hK.out _ _ (fun h => absurd (show true = false from h) (by decide)) ?_
            clear hK KK
            try simp only [Act.put, List.setIfInBounds_toArray, List.set_cons_zero, List.set_cons_succ]
            refine wpAnyK_ready (rs := [11]) (by kernel_rfl) (by simp) ?_
            refine AllReadyK.cons (o := { dst := some 9, op := Op.assign (Operand.tmp 58), type := 30, pos := "law.go:116", after := #[{ on := 8, ground := Ground.data }, { on := 6, ground := Ground.chain }, { on := 0, ground := Ground.phase }, { on := 1, ground := Ground.phase }, { on := 2, ground := Ground.phase }, { on := 3, ground := Ground.phase }, { on := 4, ground := Ground.phase }, { on := 5, ground := Ground.phase }, { on := 6, ground := Ground.phase }, { on := 7, ground := Ground.phase }, { on := 8, ground := Ground.phase }, { on := 9, ground := Ground.textOnly Departure.lateStores }, { on := 10, ground := Ground.textOnly Departure.lateStores }], guard := none }) rfl (fun KK hK => ?_) (AllReadyK.nil)
            try simp only [List.getElem_toArray, List.getElem_cons_succ, List.getElem_cons_zero]
            go_simp
            refine hK.out _ _ (fun h => absurd (show true = false from h) (by decide)) ?_
            clear hK KK
            try simp only [Act.put, List.setIfInBounds_toArray, List.set_cons_zero, List.set_cons_succ]
            refine wpAnyK_ready (rs := [12]) (by kernel_rfl) (by simp) ?_
            refine AllReadyK.cons (o := { dst := none, op := Op.store 36 (Operand.tmp 11) (Operand.tmp 59), type := 0, pos := "law.go:116", after := #[{ on := 9, ground := Ground.data }, { on := 11, ground := Ground.chain }, { on := 0, ground := Ground.phase }, { on := 1, ground := Ground.phase }, { on := 2, ground := Ground.phase }, { on := 3, ground := Ground.phase }, { on := 4, ground := Ground.phase }, { on := 5, ground := Ground.phase }, { on := 6, ground := Ground.phase }, { on := 7, ground := Ground.phase }, { on := 8, ground := Ground.phase }, { on := 9, ground := Ground.phase }, { on := 10, ground := Ground.textOnly Departure.lateStores }, { on := 11, ground := Ground.phase }], guard := none }) rfl (fun KK hK => ?_) (AllReadyK.nil)
            try simp only [List.getElem_toArray, List.getElem_cons_succ, List.getElem_cons_zero]
            have gy := HP1.out.at (x := T11) (o := wantO bo m bc most) (by simp)
            unfold wantO at gy
            have e0 := cell_blk gy 0 _ rfl
            have e1 := cell_blk gy 1 _ rfl
            have e2 := blk_lt gy
            have e3 := frozen_blk gy 0
            have e4 := frozen_blk gy 1
            go_simp
            obtain ⟨z3, hz3⟩ : ∃ Q, Q = (z1.setCell ⟨T11, 0, none⟩ (.slice bo' m' bc')).setCell ⟨T11, 1, none⟩ (.int .i64 most) := ⟨_, rfl⟩
            rw [← hz3]
            have HP3 : Hid (PS u p' most L1 bo' m' bc' [(T11, wantO bo' m' bc' most), (X8, .cells #[.bool false] 4 (0, 0)), (X7, actO q0 q1 q2 q3), (X6, actO r0 r1 r2 r3)] z3) := Lib.hid (HP1.out.set (C' := #[.slice bo' m' bc', .int .i64 most]) HT.out.1 (by simp) (by decide) (by decide) (by
              intro x hx
              have := HT.out
              simp at hx
              rcases hx with rfl | rfl | rfl <;> simp only <;> omega) (by rw [hz3]; exact setCell_blk (setCell_blk gy 0 _) 1 _) (by rw [hz3]; exact ((Mod.refl (fun q => q = T11) z1).setCell ⟨T11, 0, none⟩ (.inl rfl) _).setCell ⟨T11, 1, none⟩ (.inl rfl) _))
            clear e0 e1 e2 e3 e4 hz3 gy
            refine hK.out _ _ (fun h => absurd (show true = false from h) (by decide)) ?_
            clear hK KK
            try simp only [Act.put, List.setIfInBounds_toArray, List.set_cons_zero, List.set_cons_succ]
            refine wpAnyK_done (by kernel_rfl) ?_ _
            refine NoPanic.normal ?_
            go_wp2
            go_meet
            exact ⟨p', bo', m', bc', rfl, HP3.out⟩
        · try simp only [List.getElem_toArray, List.getElem_cons_succ, List.getElem_cons_zero]
          go_simp
          refine hK.out _ _ (fun h => absurd (show true = false from h) (by decide)) ?_
          clear hK KK
          try simp only [Act.put, List.setIfInBounds_toArray, List.set_cons_zero, List.set_cons_succ]
          refine wpAnyK_ready (rs := [8, 9]) (by kernel_rfl) (by simp) ?_
          refine AllReadyK.cons (o := { dst := some 58, op := Op.extract (Operand.tmp 50) 0, type := 30, pos := "law.go:116", after := #[{ on := 7, ground := Ground.data }], guard := none }) rfl (fun KK hK => ?_) (AllReadyK.cons (o := { dst := some 59, op := Op.extract (Operand.tmp 50) 1, type := 36, pos := "law.go:116", after := #[{ on := 7, ground := Ground.data }, { on := 11, ground := Ground.gcOnly Departure.lateStores }], guard := none }) rfl (fun KK hK => ?_) (AllReadyK.nil))
          · try simp only [List.getElem_toArray, List.getElem_cons_succ, List.getElem_cons_zero]
            go_simp
            refine hK.out _ _ (fun h => absurd (show true = false from h) (by decide)) ?_
            clear hK KK
            try simp only [Act.put, List.setIfInBounds_toArray, List.set_cons_zero, List.set_cons_succ]
            refine wpAnyK_ready (rs := [9, 11]) (by kernel_rfl) (by simp) ?_
            refine AllReadyK.cons (o := { dst := some 59, op := Op.extract (Operand.tmp 50) 1, type := 36, pos := "law.go:116", after := #[{ on := 7, ground := Ground.data }, { on := 11, ground := Ground.gcOnly Departure.lateStores }], guard := none }) rfl (fun KK hK => ?_) (AllReadyK.cons (o := { dst := some 9, op := Op.assign (Operand.tmp 58), type := 30, pos := "law.go:116", after := #[{ on := 8, ground := Ground.data }, { on := 6, ground := Ground.chain }, { on := 0, ground := Ground.phase }, { on := 1, ground := Ground.phase }, { on := 2, ground := Ground.phase }, { on := 3, ground := Ground.phase }, { on := 4, ground := Ground.phase }, { on := 5, ground := Ground.phase }, { on := 6, ground := Ground.phase }, { on := 7, ground := Ground.phase }, { on := 8, ground := Ground.phase }, { on := 9, ground := Ground.textOnly Departure.lateStores }, { on := 10, ground := Ground.textOnly Departure.lateStores }], guard := none }) rfl (fun KK hK => ?_) (AllReadyK.nil))
            · try simp only [List.getElem_toArray, List.getElem_cons_succ, List.getElem_cons_zero]
              go_simp
              refine hK.out _ _ (fun h => absurd (show true = false from h) (by decide)) ?_
              clear hK KK
              try simp only [Act.put, List.setIfInBounds_toArray, List.set_cons_zero, List.set_cons_succ]
              refine wpAnyK_ready (rs := [11]) (by kernel_rfl) (by simp) ?_
              refine AllReadyK.cons (o := { dst := some 9, op := Op.assign (Operand.tmp 58), type := 30, pos := "law.go:116", after := #[{ on := 8, ground := Ground.data }, { on := 6, ground := Ground.chain }, { on := 0, ground := Ground.phase }, { on := 1, ground := Ground.phase }, { on := 2, ground := Ground.phase }, { on := 3, ground := Ground.phase }, { on := 4, ground := Ground.phase }, { on := 5, ground := Ground.phase }, { on := 6, ground := Ground.phase }, { on := 7, ground := Ground.phase }, { on := 8, ground := Ground.phase }, { on := 9, ground := Ground.textOnly Departure.lateStores }, { on := 10, ground := Ground.textOnly Departure.lateStores }], guard := none }) rfl (fun KK hK => ?_) (AllReadyK.nil)
              try simp only [List.getElem_toArray, List.getElem_cons_succ, List.getElem_cons_zero]
              go_simp
              refine hK.out _ _ (fun h => absurd (show true = false from h) (by decide)) ?_
              clear hK KK
              try simp only [Act.put, List.setIfInBounds_toArray, List.set_cons_zero, List.set_cons_succ]
              refine wpAnyK_ready (rs := [12]) (by kernel_rfl) (by simp) ?_
              refine AllReadyK.cons (o := { dst := none, op := Op.store 36 (Operand.tmp 11) (Operand.tmp 59), type := 0, pos := "law.go:116", after := #[{ on := 9, ground := Ground.data }, { on := 11, ground := Ground.chain }, { on := 0, ground := Ground.phase }, { on := 1, ground := Ground.phase }, { on := 2, ground := Ground.phase }, { on := 3, ground := Ground.phase }, { on := 4, ground := Ground.phase }, { on := 5, ground := Ground.phase }, { on := 6, ground := Ground.phase }, { on := 7, ground := Ground.phase }, { on := 8, ground := Ground.phase }, { on := 9, ground := Ground.phase }, { on := 10, ground := Ground.textOnly Departure.lateStores }, { on := 11, ground := Ground.phase }], guard := none }) rfl (fun KK hK => ?_) (AllReadyK.nil)
              try simp only [List.getElem_toArray, List.getElem_cons_succ, List.getElem_cons_zero]
              have gy := HP1.out.at (x := T11) (o := wantO bo m bc most) (by simp)
              unfold wantO at gy
              have e0 := cell_blk gy 0 _ rfl
              have e1 := cell_blk gy 1 _ rfl
              have e2 := blk_lt gy
              have e3 := frozen_blk gy 0
              have e4 := frozen_blk gy 1
              go_simp
              obtain ⟨z3, hz3⟩ : ∃ Q, Q = (z1.setCell ⟨T11, 0, none⟩ (.slice bo' m' bc')).setCell ⟨T11, 1, none⟩ (.int .i64 most) := ⟨_, rfl⟩
              rw [← hz3]
              have HP3 : Hid (PS u p' most L1 bo' m' bc' [(T11, wantO bo' m' bc' most), (X8, .cells #[.bool false] 4 (0, 0)), (X7, actO q0 q1 q2 q3), (X6, actO r0 r1 r2 r3)] z3) := Lib.hid (HP1.out.set (C' := #[.slice bo' m' bc', .int .i64 most]) HT.out.1 (by simp) (by decide) (by decide) (by
                intro x hx
                have := HT.out
                simp at hx
                rcases hx with rfl | rfl | rfl <;> simp only <;> omega) (by rw [hz3]; exact setCell_blk (setCell_blk gy 0 _) 1 _) (by rw [hz3]; exact ((Mod.refl (fun q => q = T11) z1).setCell ⟨T11, 0, none⟩ (.inl rfl) _).setCell ⟨T11, 1, none⟩ (.inl rfl) _))
              clear e0 e1 e2 e3 e4 hz3 gy
              refine hK.out _ _ (fun h => absurd (show true = false from h) (by decide)) ?_
              clear hK KK
              try simp only [Act.put, List.setIfInBounds_toArray, List.set_cons_zero, List.set_cons_succ]
              refine wpAnyK_done (by kernel_rfl) ?_ _
              refine NoPanic.normal ?_
              go_wp2
              go_meet
              exact ⟨p', bo', m', bc', rfl, HP3.out⟩
            · try simp only [List.getElem_toArray, List.getElem_cons_succ, List.getElem_cons_zero]
              go_simp
              refine hK.out _ _ (fun h => absurd (show true = false from h) (by decide)) ?_
              clear hK KK
              try simp only [Act.put, List.setIfInBounds_toArray, List.set_cons_zero, List.set_cons_succ]
              refine wpAnyK_ready (rs := [9]) (by kernel_rfl) (by simp) ?_
              refine AllReadyK.cons (o := { dst := some 59, op := Op.extract (Operand.tmp 50) 1, type := 36, pos := "law.go:116", after := #[{ on := 7, ground := Ground.data }, { on := 11, ground := Ground.gcOnly Departure.lateStores }], guard := none }) rfl (fun KK hK => ?_) (AllReadyK.nil)
              try simp only [List.getElem_toArray, List.getElem_cons_succ, List.getElem_cons_zero]
              go_simp
              refine hK.out _ _ (fun h => absurd (show true = false from h) (by decide)) ?_
              clear hK KK
              try simp only [Act.put, List.setIfInBounds_toArray, List.set_cons_zero, List.set_cons_succ]
              refine wpAnyK_ready (rs := [12]) (by kernel_rfl) (by simp) ?_
              refine AllReadyK.cons (o := { dst := none, op := Op.store 36 (Operand.tmp 11) (Operand.tmp 59), type := 0, pos := "law.go:116", after := #[{ on := 9, ground := Ground.data }, { on := 11, ground := Ground.chain }, { on := 0, ground := Ground.phase }, { on := 1, ground := Ground.phase }, { on := 2, ground := Ground.phase }, { on := 3, ground := Ground.phase }, { on := 4, ground := Ground.phase }, { on := 5, ground := Ground.phase }, { on := 6, ground := Ground.phase }, { on := 7, ground := Ground.phase }, { on := 8, ground := Ground.phase }, { on := 9, ground := Ground.phase }, { on := 10, ground := Ground.textOnly Departure.lateStores }, { on := 11, ground := Ground.phase }], guard := none }) rfl (fun KK hK => ?_) (AllReadyK.nil)
              try simp only [List.getElem_toArray, List.getElem_cons_succ, List.getElem_cons_zero]
              have gy := HP1.out.at (x := T11) (o := wantO bo m bc most) (by simp)
              unfold wantO at gy
              have e0 := cell_blk gy 0 _ rfl
              have e1 := cell_blk gy 1 _ rfl
              have e2 := blk_lt gy
              have e3 := frozen_blk gy 0
              have e4 := frozen_blk gy 1
              go_simp
              obtain ⟨z3, hz3⟩ : ∃ Q, Q = (z1.setCell ⟨T11, 0, none⟩ (.slice bo' m' bc')).setCell ⟨T11, 1, none⟩ (.int .i64 most) := ⟨_, rfl⟩
              rw [← hz3]
              have HP3 : Hid (PS u p' most L1 bo' m' bc' [(T11, wantO bo' m' bc' most), (X8, .cells #[.bool false] 4 (0, 0)), (X7, actO q0 q1 q2 q3), (X6, actO r0 r1 r2 r3)] z3) := Lib.hid (HP1.out.set (C' := #[.slice bo' m' bc', .int .i64 most]) HT.out.1 (by simp) (by decide) (by decide) (by
                intro x hx
                have := HT.out
                simp at hx
                rcases hx with rfl | rfl | rfl <;> simp only <;> omega) (by rw [hz3]; exact setCell_blk (setCell_blk gy 0 _) 1 _) (by rw [hz3]; exact ((Mod.refl (fun q => q = T11) z1).setCell ⟨T11, 0, none⟩ (.inl rfl) _).setCell ⟨T11, 1, none⟩ (.inl rfl) _))
              clear e0 e1 e2 e3 e4 hz3 gy
              refine hK.out _ _ (fun h => absurd (show true = false from h) (by decide)) ?_
              clear hK KK
              try simp only [Act.put, List.setIfInBounds_toArray, List.set_cons_zero, List.set_cons_succ]
              refine wpAnyK_done (by kernel_rfl) ?_ _
              refine NoPanic.normal ?_
              go_wp2
              go_meet
              exact ⟨p', bo', m', bc', rfl, HP3.out⟩
          · try simp only [List.getElem_toArray, List.getElem_cons_succ, List.getElem_cons_zero]
            go_simp
            refine hK.out _ _ (fun h => absurd (show true = false from h) (by decide)) ?_
            clear hK KK
            try simp only [Act.put, List.setIfInBounds_toArray, List.set_cons_zero, List.set_cons_succ]
            refine wpAnyK_ready (rs := [8]) (by kernel_rfl) (by simp) ?_
            refine AllReadyK.cons (o := { dst := some 58, op := Op.extract (Operand.tmp 50) 0, type := 30, pos := "law.go:116", after := #[{ on := 7, ground := Ground.data }], guard := none }) rfl (fun KK hK => ?_) (AllReadyK.nil)
            try simp only [List.getElem_toArray, List.getElem_cons_succ, List.getElem_cons_zero]
            go_simp
            refine hK.out _ _ (fun h => absurd (show true = false from h) (by decide)) ?_
            clear hK KK
            try simp only [Act.put, List.setIfInBounds_toArray, List.set_cons_zero, List.set_cons_succ]
            refine wpAnyK_ready (rs := [11]) (by kernel_rfl) (by simp) ?_
            refine AllReadyK.cons (o := { dst := some 9, op := Op.assign (Operand.tmp 58), type := 30, pos := "law.go:116", after := #[{ on := 8, ground := Ground.data }, { on := 6, ground := Ground.chain }, { on := 0, ground := Ground.phase }, { on := 1, ground := Ground.phase }, { on := 2, ground := Ground.phase }, { on := 3, ground := Ground.phase }, { on := 4, ground := Ground.phase }, { on := 5, ground := Ground.phase }, { on := 6, ground := Ground.phase }, { on := 7, ground := Ground.phase }, { on := 8, ground := Ground.phase }, { on := 9, ground := Ground.textOnly Departure.lateStores }, { on := 10, ground := Ground.textOnly Departure.lateStores }], guard := none }) rfl (fun KK hK => ?_) (AllReadyK.nil)
            try simp only [List.getElem_toArray, List.getElem_cons_succ, List.getElem_cons_zero]
            go_simp
            refine hK.out _ _ (fun h => absurd (show true = false from h) (by decide)) ?_
            clear hK KK
            try simp only [Act.put, List.setIfInBounds_toArray, List.set_cons_zero, List.set_cons_succ]
            refine wpAnyK_ready (rs := [12]) (by kernel_rfl) (by simp) ?_
            refine AllReadyK.cons (o := { dst := none, op := Op.store 36 (Operand.tmp 11) (Operand.tmp 59), type := 0, pos := "law.go:116", after := #[{ on := 9, ground := Ground.data }, { on := 11, ground := Ground.chain }, { on := 0, ground := Ground.phase }, { on := 1, ground := Ground.phase }, { on := 2, ground := Ground.phase }, { on := 3, ground := Ground.phase }, { on := 4, ground := Ground.phase }, { on := 5, ground := Ground.phase }, { on := 6, ground := Ground.phase }, { on := 7, ground := Ground.phase }, { on := 8, ground := Ground.phase }, { on := 9, ground := Ground.phase }, { on := 10, ground := Ground.textOnly Departure.lateStores }, { on := 11, ground := Ground.phase }], guard := none }) rfl (fun KK hK => ?_) (AllReadyK.nil)
            try simp only [List.getElem_toArray, List.getElem_cons_succ, List.getElem_cons_zero]
            have gy := HP1.out.at (x := T11) (o := wantO bo m bc most) (by simp)
            unfold wantO at gy
            have e0 := cell_blk gy 0 _ rfl
            have e1 := cell_blk gy 1 _ rfl
            have e2 := blk_lt gy
            have e3 := frozen_blk gy 0
            have e4 := frozen_blk gy 1
            go_simp
            obtain ⟨z3, hz3⟩ : ∃ Q, Q = (z1.setCell ⟨T11, 0, none⟩ (.slice bo' m' bc')).setCell ⟨T11, 1, none⟩ (.int .i64 most) := ⟨_, rfl⟩
            rw [← hz3]
            have HP3 : Hid (PS u p' most L1 bo' m' bc' [(T11, wantO bo' m' bc' most), (X8, .cells #[.bool false] 4 (0, 0)), (X7, actO q0 q1 q2 q3), (X6, actO r0 r1 r2 r3)] z3) := Lib.hid (HP1.out.set (C' := #[.slice bo' m' bc', .int .i64 most]) HT.out.1 (by simp) (by decide) (by decide) (by
              intro x hx
              have := HT.out
              simp at hx
              rcases hx with rfl | rfl | rfl <;> simp only <;> omega) (by rw [hz3]; exact setCell_blk (setCell_blk gy 0 _) 1 _) (by rw [hz3]; exact ((Mod.refl (fun q => q = T11) z1).setCell ⟨T11, 0, none⟩ (.inl rfl) _).setCell ⟨T11, 1, none⟩ (.inl rfl) _))
            clear e0 e1 e2 e3 e4 hz3 gy
            refine hK.out _ _ (fun h => absurd (show true = false from h) (by decide)) ?_
            clear hK KK
            try simp only [Act.put, List.setIfInBounds_toArray, List.set_cons_zero, List.set_cons_succ]
            refine wpAnyK_done (by kernel_rfl) ?_ _
            refine NoPanic.normal ?_
            go_wp2
            go_meet
            exact ⟨p', bo', m', bc', rfl, HP3.out⟩
      case rest =>
        obtain ⟨p', bo', m', bc', rfl, hps⟩ := hcut
        have Pc := Lib.hid hps
        clear hps c0 c1 lt P e1 HCA
        go_wp2_with fail
        go_roundg (n - (j + 1))
        case measure => have := HG.out; omega
        case rel => exact ⟨j + 1, p', bo', m', bc', rfl, by go_num, by omega, rfl, by rw [← HL1.out]; exact Pc.out⟩
    · have hjn : j = n := by omega
      subst hjn
      have e1 : decide ((j : Int) < j) = false := by simp
      obtain ⟨L, hL⟩ : ∃ L, L = runL most z j := ⟨_, rfl⟩
      rw [← hL] at P
      obtain ⟨Kg, hg1, hg2⟩ := P.out.guard
      have HDR := Lib.hid hg2
      have HGS := Lib.hid hg1.bel.size
      have HM := Lib.hid P.out.mle
      have HSrt := Lib.hid P.out.srt
      have HAll := Lib.hid hg1.all
      clear hg1 hg2 HG hL HA c0 c1 lt
      go_wp2_with (go_at_call 12; fail)
      refine HAll.out.mono ?_
      rintro e v4 ⟨Eb, Ks, rfl, hps, hsq⟩
      have P4 := Lib.hid hps
      have HSQ := Lib.hid hsq
      clear hps hsq HAll
      have ht := P4.out.at (x := T11) (o := wantO bo m bc most) (by simp)
      have h6 := P4.out.at (x := X6) (o := actO r0 r1 r2 r3) (by simp)
      unfold wantO at ht
      unfold actO at h6
      have c0 := cell_blk ht 0 _ rfl
      have c1 := cell_blk ht 1 _ rfl
      have lt := blk_lt ht
      have y0 := cell_blk h6 0 _ rfl
      have y1 := cell_blk h6 1 _ rfl
      have y2 := cell_blk h6 2 _ rfl
      have y3 := cell_blk h6 3 _ rfl
      have l6 := blk_lt h6
      clear ht h6
      go_wp2_with (first | (go_at_call 13; refine (HNum.out _ _).mono ?_; rintro e w' ⟨rfl, rfl⟩) | (go_at_call 11; fail))
      refine (P4.out.act r0 r1 r2 r3 HR.out.1.1 HR.out.1.2.1 HR.out.1.2.2.1 HR.out.1.2.2.2.1 HR.out.1.2.2.2.2.1 HR.out.1.2.2.2.2.2).mono ?_
      rintro e v5 ⟨p5, bo5, m5, bc5, rfl, hps⟩
      have P5 := Lib.hid hps
      clear hps c0 c1 lt y0 y1 y2 y3 l6 P4 P
      go_upto_region 13 with fail
      obtain ⟨T16, hT⟩ : ∃ X, X = v5.heap.size := ⟨_, rfl⟩
      obtain ⟨v6, hv6⟩ : ∃ W, W = v5.alloc (.cells #[.slice bo5 m5 bc5, .int .i64 most] 36) := ⟨_, rfl⟩
      have hps := P5.out.add (.cells #[.slice bo5 m5 bc5, .int .i64 most] 36)
      rw [← hv6, ← hT] at hps ⊢
      have P6 := Lib.hid hps
      have ht := hps.at (x := T16) (o := wantO bo5 m5 bc5 most) (by simp [wantO])
      have h6 := hps.at (x := X7) (o := actO q0 q1 q2 q3) (by simp)
      unfold wantO at ht
      unfold actO at h6
      have c0 := cell_blk ht 0 _ rfl
      have c1 := cell_blk ht 1 _ rfl
      have lt := blk_lt ht
      have y0 := cell_blk h6 0 _ rfl
      have y1 := cell_blk h6 1 _ rfl
      have y2 := cell_blk h6 2 _ rfl
      have y3 := cell_blk h6 3 _ rfl
      have l6 := blk_lt h6
      clear ht h6 hv6 hT hps P5
      go_wp2_with (go_at_call 11; fail)
      refine (P6.out.act q0 q1 q2 q3 HR.out.2.1 HR.out.2.2.1 HR.out.2.2.2.1 HR.out.2.2.2.2.1 HR.out.2.2.2.2.2.1 HR.out.2.2.2.2.2.2).mono ?_
      rintro e v7 ⟨p7, bo7, m7, bc7, rfl, hps⟩
      have EV0 : Hid (Ev w X8 T11 Eb bo m bc most L v7.heap.size v7) := Lib.hid (by
        have hk8 := hps.at (x := X8) (o := .cells #[.bool false] 4 (0, 0)) (by simp)
        have hk11 := hps.at (x := T11) (o := wantO bo m bc most) (by simp)
        exact ⟨hk8, hk11, HDR.out _ (fun x hx => hps.at (x := x.1) (o := x.2) (by simp [hx])), HSQ.out _ (fun x hx => hps.at (x := x.1) (o := x.2) (by simp [hx])), blk_lt hk8, blk_lt hk11, Nat.le_refl _, HX8.out.2.2.2.2, B1.out.trans (hps.bel.mono B1.out.size)⟩)
      clear hps c0 c1 lt y0 y1 y2 y3 l6 P6 HDR HSQ HR HNum
      obtain ⟨wa0, hwa⟩ : ∃ W, W = v7 := ⟨_, rfl⟩
      rw [← hwa] at EV0 ⊢
      clear hwa
      obtain ⟨lim, hlim⟩ : ∃ N, N = wa0.heap.size := ⟨_, rfl⟩
      rw [← hlim] at EV0
      clear hlim
      go_upto_region 14 with fail
      go_wp2_with fail
      refine wp_loop_rounds 3 ?_
      rw [rounds_succ]
      go_upto_block 4 with fail
      obtain ⟨nb0, hnb⟩ : ∃ B, B = wa0.heap.size := ⟨_, rfl⟩
      obtain ⟨wn0, hwn⟩ : ∃ W, W = wa0.alloc (.cells #[.int .i64 0] 3) := ⟨_, rfl⟩
      have hbN : Below wa0.heap.size wa0 wn0 := by rw [hwn]; exact (Below.refl _ wa0).alloc (Nat.le_refl _) _
      have hkN : wn0.heap[nb0]? = some (.cells #[.int .i64 0] 3 (0, 0)) := by rw [hwn, hnb]; exact alloc_blk_new _ _
      rw [← hnb, ← hwn]
      have hnl0 : nb0 < wn0.heap.size := blk_lt hkN
      have HLN0 : Hid (lim ≤ nb0) := Lib.hid (by rw [hnb]; exact EV0.out.ll)
      have EN0 := Lib.hid (EV0.out.to hbN EV0.out.ll)
      have NC0 := Lib.hid (cell_blk hkN 0 (.int .i64 0) rfl)
      have NF0 := Lib.hid (frozen_blk hkN 0)
      clear hnb hwn hbN hkN EV0
      obtain ⟨ao0, n0, c0, hkB, hrows⟩ := EN0.out.sq.ex
      have hnm : n0 = m := by have := hrows.len; have := EN0.out.dr.len; omega
      subst hnm
      have HRW0 := Lib.hid hrows
      have HKB0 := Lib.hid hkB
      clear hkB hrows
      refine range_cut (fun D W => wn0.heap.size ≤ D ∧ W.heap[D]? = some (.deferred (some [])) ∧ (∃ c : Nat, (c : Int) = min (n0 : Int) (max 1 ((n0 : Int) + 2)) ∧ W.cell? ⟨nb0, 0, none⟩ = some (.int .i64 c)) ∧ Below nb0 wn0 W) ?first0 ?rest0
      case first0 =>
        go_wp2_with fail
        refine (wpIn_wide (n := 5)).1 ?_
        have hnb3 := HLN0.out
        have hmm := HM.out
        have hEb : Eb < lim := EN0.out.sq.ok
        refine' wpIn_range_deepA (F := Fence.wide) rfl (by omega) (gf := 32) (lb := #[.pointer (some ⟨Eb, 0, none⟩)]) rfl trivial (enters_of Try.func32 (by kernel_rfl) rfl) (n₀ := nb0) (by omega)
          (All32_deep 4 (by omega) Eb nb0 ao0 n0 c0 L (by omega) wn0 (blk_lt HKB0.out) (by omega) (cell_blk HKB0.out 0 _ rfl) (fun hp => by
            cases ao0 with
            | none => have := HRW0.out.none_ rfl; have := HRW0.out.cap; omega
            | some a =>
              obtain ⟨g, cur, rfl, hg, hgg, _, hcc⟩ := HRW0.out.some_ a rfl
              refine ⟨g, 0, rfl, Nat.lt_of_lt_of_le hg hnb3, fun j hj => ?_⟩
              obtain ⟨y0, y1, y2⟩ := hcc j hj
              rw [Nat.zero_add]
              exact ⟨cell_blk hgg _ _ y0, cell_blk hgg _ _ y1, cell_blk hgg _ _ y2⟩)) (fun _ => rfl)
          (Rnd (List.finRange n0) ((n0 : Int) + 2) nb0 wn0) (Rxt (List.finRange n0) ((n0 : Int) + 2) nb0 wn0 0) (Rnd.ahead (by omega)) (Rxt.ahead (by omega)) (Rnd.start NC0.out NF0.out) (fun x => .cells #[.int .i64 (rAt L x.val).k, .int .u64 (rAt L x.val).i] 26) _ ?assign ?body ?done ?stop
        case assign =>
          intro l' x W X K hX hK
          unfold encT
          dsimp only
          gi_wp2
          rw [← hX]
          exact hK _ rfl
        case done =>
          rintro D ys W hD rfl hI hKd
          obtain ⟨hcc, hB⟩ := hI.whole
          rw [List.length_finRange] at hcc
          exact ⟨rfl, D, rfl, hD, hKd, hcc, hB⟩
        case stop =>
          rintro D c pre W hD hSp hIx hKd
          exfalso
          rcases hIx with g | g
          · exact g.2 hSp
          · have h1 := hSp.length_le
            have h2 := g.2.1.2.1
            rw [List.length_finRange] at h1
            omega
        case body =>
          rintro l' pre xx V X hX hXb ⟨⟨hp, hC⟩, ⟨hcn, hfn⟩, hB⟩ hlt
          have hnbV : nb0 < V.heap.size := by have := hB.size; omega
          have EW := EN0.out.to hB HLN0.out
          have ht := EW.bt
          unfold wantO at ht
          have c0 := cell_blk ht 0 _ rfl
          have c1 := cell_blk ht 1 _ rfl
          have l0 := blk_lt ht
          have c8 := cell_blk EW.b8 0 _ rfl
          have f8 := frozen_blk EW.b8 0
          have l8 := blk_lt EW.b8
          have l8n := blk_lt EN0.out.b8
          have hmore := fin_more n0 pre xx hp
          obtain ⟨pl, hpl⟩ : ∃ pl, pl = pre.length := ⟨_, rfl⟩
          rw [← hpl] at hcn hmore hlt hC
          obtain ⟨g, off, rfl, hgA, hgV, hcz⟩ := EW.dr.at_ (by omega)
          obtain ⟨y0, y1, y2⟩ := hcz pl hlt
          obtain ⟨xi', hxi'⟩ : ∃ xi, xi = xx.val := ⟨_, rfl⟩
          rw [← hxi'] at hmore hXb
          have hxl : xi' < n0 := by rw [hxi']; exact xx.isLt
          have hne : xi' ≠ pl → rAt L xi' ≠ rAt L pl := rAt_ne HSrt.out (by have := EW.dr.len; omega) (by have := EW.dr.len; omega)
          obtain ⟨rx, hrx⟩ : ∃ r, r = rAt L xi' := ⟨_, rfl⟩
          obtain ⟨ry, hry⟩ : ∃ r, r = rAt L pl := ⟨_, rfl⟩
          have hsame : xi' = pl → rx = ry := fun e => by rw [hrx, hry, e]
          rw [← hrx, ← hry] at hne
          rw [← hrx] at hXb
          rw [← hry] at y0 y1 y2
          simp only [← hxi']
          simp only [← hrx]
          obtain ⟨xk, xi, xd⟩ := rx
          obtain ⟨yk, yi, yd⟩ := ry
          simp only at hXb y0 y1 y2
          have x0 := cell_blk hXb 0 _ rfl
          have x1 := cell_blk hXb 1 _ rfl
          have lX := blk_lt hXb
          have HMore := Lib.hid hmore
          have HBl := Lib.hid hB
          have HPL := Lib.hid hpl
          have HCC := Lib.hid hC
          have HNE := Lib.hid hne
          have HSM := Lib.hid hsame
          have hgt : decide ((n0 : Int) ≤ pl) = false := by simp; omega
          have hgt2 : decide (n0 ≤ pl) = false := by simp; omega
          have hlt2 : (pl : Int) < n0 := by omega
          have hn9 : n0 ≤ 8192 := HM.out
          have hw1 : IntKind.i64.wrap ((pl : Int) + 1) = (pl : Int) + 1 := by rw [IntKind.wrap_i64]; omega
          clear hmore hp hB hcz hpl hC hxi' hrx hry hne hsame EW hXb ht
          by_cases e1 : xi' = pl
          case neg =>
            have hdiff := HNE.out e1
            by_cases e2 : xd = yd
            · subst e2
              have d1 : (xd != xd) = false := by simp
              have d2 : tmEq xk xi yk yi = false := by
                unfold tmEq
                have : ¬ (xk = yk ∧ xi = yi) := fun h => hdiff (by rw [h.1, h.2])
                simpa using this
              clear hdiff
              gi_wp2
              refine wpIn_region_round (by kernel_rfl) (by kernel_rfl) (by kernel_rfl) ?_
              repeat (gi_big_quiet_step (fail))
              refine wpQuietIn_nil ?_
              rintro _ ⟨nq, rfl⟩
              gi_wp2
              exact ⟨(Stays.below (n₀ := 0) (Below.drewN' V nq)).setCell (p := ⟨X8, 0, none⟩) (by show X8 < _; omega) _, .inl ⟨rfl, fun h => e1 (HMore.out.1 h)⟩⟩
            · have d1 : (xd != yd) = true := by simpa using e2
              clear hdiff e2
              gi_wp2
              refine wpIn_region_round (by kernel_rfl) (by kernel_rfl) (by kernel_rfl) ?_
              repeat (gi_big_quiet_step (fail))
              refine wpQuietIn_nil ?_
              rintro _ ⟨nq, rfl⟩
              gi_wp2
              exact ⟨(Stays.below (n₀ := 0) (Below.drewN' V nq)).setCell (p := ⟨X8, 0, none⟩) (by show X8 < _; omega) _, .inl ⟨rfl, fun h => e1 (HMore.out.1 h)⟩⟩
          obtain ⟨rfl, rfl, rfl⟩ : xk = yk ∧ xi = yi ∧ xd = yd := by have := HSM.out e1; simp at this; exact this
          have d1 : (xd != xd) = false := by simp
          have d2 : tmEq xk xi xk xi = true := by unfold tmEq; simp
          gi_wp2
          refine wpIn_region_round (by kernel_rfl) (by kernel_rfl) (by kernel_rfl) ?_
          repeat (gi_big_quiet_step (fail))
          refine wpQuietIn_nil ?_
          rintro _ ⟨nq, rfl⟩
          gi_wp2
          exact ⟨(Stays.below (n₀ := 0) (Below.drewN' V nq)).setCell (p := ⟨nb0, 0, none⟩) (by show nb0 < _; omega) _, (show Below nb0 V (V.drewN nq) from (Below.drewN' V nq).mono (by omega)).setCell (p := ⟨nb0, 0, none⟩) (Nat.le_refl _) _, Rnd.more (HMore.out.2 (by rw [e1, HPL.out])) (by rw [HPL.out]) (by omega) (by show (V.cell? _).isSome = true; rw [hcn]; rfl) hfn (HBl.out.trans ((Below.drewN' V nq).mono (by omega)))⟩
      case rest0 =>
        rintro D0 wa1 ⟨hD, hKd, ⟨kc, hcnt, hcc⟩, hB⟩
        dsimp only
        have hkc : kc = n0 := by omega
        rw [hkc] at hcc
        have EV1 := Lib.hid (EN0.out.to hB HLN0.out)
        have DK0 := Lib.hid hKd
        have hDl0 : w.heap.size ≤ D0 := by have := EN0.out.bel.size; omega
        have ht := EV1.out.bt
        unfold wantO at ht
        have k0 := cell_blk ht 0 _ rfl
        have k1 := cell_blk ht 1 _ rfl
        have l0 := blk_lt ht
        have nl : nb0 < wa1.heap.size := by have := hB.size; omega
        have d1 : ((n0 : Int) != (n0 : Int)) = false := by simp
        have d2 : (n0 != n0) = false := by simp
        clear hcnt hkc hKd hB ht EN0 NC0 NF0 HRW0 HKB0
        go_upto_region 16 with fail
        go_wp2_with fail
        clear hcc k0 k1 l0 nl d1 d2
        rw [rounds_succ]
        go_upto_block 4 with fail
        obtain ⟨nb1, hnb⟩ : ∃ B, B = wa1.heap.size := ⟨_, rfl⟩
        obtain ⟨wn1, hwn⟩ : ∃ W, W = wa1.alloc (.cells #[.int .i64 0] 3) := ⟨_, rfl⟩
        have hbN : Below wa1.heap.size wa1 wn1 := by rw [hwn]; exact (Below.refl _ wa1).alloc (Nat.le_refl _) _
        have hkN : wn1.heap[nb1]? = some (.cells #[.int .i64 0] 3 (0, 0)) := by rw [hwn, hnb]; exact alloc_blk_new _ _
        rw [← hnb, ← hwn]
        have hnl1 : nb1 < wn1.heap.size := blk_lt hkN
        have HLN1 : Hid (lim ≤ nb1) := Lib.hid (by rw [hnb]; exact EV1.out.ll)
        have EN1 := Lib.hid (EV1.out.to hbN EV1.out.ll)
        have NC1 := Lib.hid (cell_blk hkN 0 (.int .i64 0) rfl)
        have NF1 := Lib.hid (frozen_blk hkN 0)
        have DN0 := Lib.hid ((hbN.block D0 (blk_lt DK0.out)).trans DK0.out)
        have hD0n : D0 < nb1 := by rw [hnb]; exact blk_lt DK0.out
        clear hnb hwn hbN hkN EV1
        obtain ⟨ao1, n1, c1, hkB, hrows⟩ := EN1.out.sq.ex
        have hnm : n1 = n0 := by have := hrows.len; have := EN1.out.dr.len; omega
        subst hnm
        have HRW1 := Lib.hid hrows
        have HKB1 := Lib.hid hkB
        clear hkB hrows
        refine range_cut (fun D W => wn1.heap.size ≤ D ∧ W.heap[D]? = some (.deferred (some [])) ∧ (∃ c : Nat, (c : Int) = min (n1 : Int) (max 1 ((n1 : Int) + 2)) ∧ W.cell? ⟨nb1, 0, none⟩ = some (.int .i64 c)) ∧ Below nb1 wn1 W) ?first1 ?rest1
        case first1 =>
          go_wp2_with fail
          refine (wpIn_wide (n := 5)).1 ?_
          have hnb3 := HLN1.out
          have hmm := HM.out
          have hEb : Eb < lim := EN1.out.sq.ok
          refine' wpIn_range_deepA (F := Fence.wide) rfl (by omega) (gf := 32) (lb := #[.pointer (some ⟨Eb, 0, none⟩)]) rfl trivial (enters_of Try.func32 (by kernel_rfl) rfl) (n₀ := nb1) (by omega)
            (All32_deep 4 (by omega) Eb nb1 ao1 n1 c1 L (by omega) wn1 (blk_lt HKB1.out) (by omega) (cell_blk HKB1.out 0 _ rfl) (fun hp => by
              cases ao1 with
              | none => have := HRW1.out.none_ rfl; have := HRW1.out.cap; omega
              | some a =>
                obtain ⟨g, cur, rfl, hg, hgg, _, hcc⟩ := HRW1.out.some_ a rfl
                refine ⟨g, 0, rfl, Nat.lt_of_lt_of_le hg hnb3, fun j hj => ?_⟩
                obtain ⟨y0, y1, y2⟩ := hcc j hj
                rw [Nat.zero_add]
                exact ⟨cell_blk hgg _ _ y0, cell_blk hgg _ _ y1, cell_blk hgg _ _ y2⟩)) (fun _ => rfl)
            (Rnd (List.finRange n1) ((n1 : Int) + 2) nb1 wn1) (Rxt (List.finRange n1) ((n1 : Int) + 2) nb1 wn1 0) (Rnd.ahead (by omega)) (Rxt.ahead (by omega)) (Rnd.start NC1.out NF1.out) (fun x => .cells #[.int .i64 (rAt L x.val).k, .int .u64 (rAt L x.val).i] 26) _ ?assign ?body ?done ?stop
          case assign =>
            intro l' x W X K hX hK
            unfold encT
            dsimp only
            gi_wp2
            rw [← hX]
            exact hK _ rfl
          case done =>
            rintro D ys W hD rfl hI hKd
            obtain ⟨hcc, hB⟩ := hI.whole
            rw [List.length_finRange] at hcc
            exact ⟨rfl, D, rfl, hD, hKd, hcc, hB⟩
          case stop =>
            rintro D c pre W hD hSp hIx hKd
            exfalso
            rcases hIx with g | g
            · exact g.2 hSp
            · have h1 := hSp.length_le
              have h2 := g.2.1.2.1
              rw [List.length_finRange] at h1
              omega
          case body =>
            rintro l' pre xx V X hX hXb ⟨⟨hp, hC⟩, ⟨hcn, hfn⟩, hB⟩ hlt
            have hnbV : nb1 < V.heap.size := by have := hB.size; omega
            have EW := EN1.out.to hB HLN1.out
            have ht := EW.bt
            unfold wantO at ht
            have c0 := cell_blk ht 0 _ rfl
            have c1 := cell_blk ht 1 _ rfl
            have l0 := blk_lt ht
            have c8 := cell_blk EW.b8 0 _ rfl
            have f8 := frozen_blk EW.b8 0
            have l8 := blk_lt EW.b8
            have l8n := blk_lt EN1.out.b8
            have hmore := fin_more n1 pre xx hp
            obtain ⟨pl, hpl⟩ : ∃ pl, pl = pre.length := ⟨_, rfl⟩
            rw [← hpl] at hcn hmore hlt hC
            obtain ⟨g, off, rfl, hgA, hgV, hcz⟩ := EW.dr.at_ (by omega)
            obtain ⟨y0, y1, y2⟩ := hcz pl hlt
            obtain ⟨xi', hxi'⟩ : ∃ xi, xi = xx.val := ⟨_, rfl⟩
            rw [← hxi'] at hmore hXb
            have hxl : xi' < n1 := by rw [hxi']; exact xx.isLt
            have hne : xi' ≠ pl → rAt L xi' ≠ rAt L pl := rAt_ne HSrt.out (by have := EW.dr.len; omega) (by have := EW.dr.len; omega)
            obtain ⟨rx, hrx⟩ : ∃ r, r = rAt L xi' := ⟨_, rfl⟩
            obtain ⟨ry, hry⟩ : ∃ r, r = rAt L pl := ⟨_, rfl⟩
            have hsame : xi' = pl → rx = ry := fun e => by rw [hrx, hry, e]
            rw [← hrx, ← hry] at hne
            rw [← hrx] at hXb
            rw [← hry] at y0 y1 y2
            simp only [← hxi']
            simp only [← hrx]
            obtain ⟨xk, xi, xd⟩ := rx
            obtain ⟨yk, yi, yd⟩ := ry
            simp only at hXb y0 y1 y2
            have x0 := cell_blk hXb 0 _ rfl
            have x1 := cell_blk hXb 1 _ rfl
            have lX := blk_lt hXb
            have HMore := Lib.hid hmore
            have HBl := Lib.hid hB
            have HPL := Lib.hid hpl
            have HCC := Lib.hid hC
            have HNE := Lib.hid hne
            have HSM := Lib.hid hsame
            have hgt : decide ((n1 : Int) ≤ pl) = false := by simp; omega
            have hgt2 : decide (n1 ≤ pl) = false := by simp; omega
            have hlt2 : (pl : Int) < n1 := by omega
            have hn9 : n1 ≤ 8192 := HM.out
            have hw1 : IntKind.i64.wrap ((pl : Int) + 1) = (pl : Int) + 1 := by rw [IntKind.wrap_i64]; omega
            clear hmore hp hB hcz hpl hC hxi' hrx hry hne hsame EW hXb ht
            by_cases e1 : xi' = pl
            case neg =>
              have hdiff := HNE.out e1
              by_cases e2 : xd = yd
              · subst e2
                have d1 : (xd != xd) = false := by simp
                have d2 : tmEq xk xi yk yi = false := by
                  unfold tmEq
                  have : ¬ (xk = yk ∧ xi = yi) := fun h => hdiff (by rw [h.1, h.2])
                  simpa using this
                clear hdiff
                gi_wp2
                refine wpIn_region_round (by kernel_rfl) (by kernel_rfl) (by kernel_rfl) ?_
                repeat (gi_big_quiet_step (fail))
                refine wpQuietIn_nil ?_
                rintro _ ⟨nq, rfl⟩
                gi_wp2
                exact ⟨(Stays.below (n₀ := 0) (Below.drewN' V nq)).setCell (p := ⟨X8, 0, none⟩) (by show X8 < _; omega) _, .inl ⟨rfl, fun h => e1 (HMore.out.1 h)⟩⟩
              · have d1 : (xd != yd) = true := by simpa using e2
                clear hdiff e2
                gi_wp2
                refine wpIn_region_round (by kernel_rfl) (by kernel_rfl) (by kernel_rfl) ?_
                repeat (gi_big_quiet_step (fail))
                refine wpQuietIn_nil ?_
                rintro _ ⟨nq, rfl⟩
                gi_wp2
                exact ⟨(Stays.below (n₀ := 0) (Below.drewN' V nq)).setCell (p := ⟨X8, 0, none⟩) (by show X8 < _; omega) _, .inl ⟨rfl, fun h => e1 (HMore.out.1 h)⟩⟩
            obtain ⟨rfl, rfl, rfl⟩ : xk = yk ∧ xi = yi ∧ xd = yd := by have := HSM.out e1; simp at this; exact this
            have d1 : (xd != xd) = false := by simp
            have d2 : tmEq xk xi xk xi = true := by unfold tmEq; simp
            gi_wp2
            refine wpIn_region_round (by kernel_rfl) (by kernel_rfl) (by kernel_rfl) ?_
            repeat (gi_big_quiet_step (fail))
            refine wpQuietIn_nil ?_
            rintro _ ⟨nq, rfl⟩
            gi_wp2
            exact ⟨(Stays.below (n₀ := 0) (Below.drewN' V nq)).setCell (p := ⟨nb1, 0, none⟩) (by show nb1 < _; omega) _, (show Below nb1 V (V.drewN nq) from (Below.drewN' V nq).mono (by omega)).setCell (p := ⟨nb1, 0, none⟩) (Nat.le_refl _) _, Rnd.more (HMore.out.2 (by rw [e1, HPL.out])) (by rw [HPL.out]) (by omega) (by show (V.cell? _).isSome = true; rw [hcn]; rfl) hfn (HBl.out.trans ((Below.drewN' V nq).mono (by omega)))⟩
        case rest1 =>
          rintro D1 wa2 ⟨hD, hKd, ⟨kc, hcnt, hcc⟩, hB⟩
          dsimp only
          have hkc : kc = n1 := by omega
          rw [hkc] at hcc
          have EV2 := Lib.hid (EN1.out.to hB HLN1.out)
          have DK1 := Lib.hid hKd
          have hDl1 : w.heap.size ≤ D1 := by have := EN1.out.bel.size; omega
          have ht := EV2.out.bt
          unfold wantO at ht
          have k0 := cell_blk ht 0 _ rfl
          have k1 := cell_blk ht 1 _ rfl
          have l0 := blk_lt ht
          have nl : nb1 < wa2.heap.size := by have := hB.size; omega
          have d1 : ((n1 : Int) != (n1 : Int)) = false := by simp
          have d2 : (n1 != n1) = false := by simp
          have DK10 := Lib.hid ((hB.block D0 hD0n).trans DN0.out)
          clear hcnt hkc hKd hB ht EN1 NC1 NF1 HRW1 HKB1
          go_upto_region 16 with fail
          go_wp2_with fail
          clear hcc k0 k1 l0 nl d1 d2
          rw [rounds_succ]
          go_wp2_with (go_at_call 8; fail)
          refine (HWk.out _).mono ?_
          rintro e wz ⟨rfl, hb⟩
          have EZ := Lib.hid (EV2.out.to hb EV2.out.ll)
          have DZ1 := Lib.hid ((hb.block D1 (blk_lt DK1.out)).trans DK1.out)
          have DZ0 := Lib.hid ((hb.block D0 (blk_lt DK10.out)).trans DK10.out)
          have c1 := cell_blk EZ.out.b8 0 _ rfl
          have f1 := frozen_blk EZ.out.b8 0
          have l1 := blk_lt EZ.out.b8
          have hne1 : D1 ≠ X8 := fun e => by
            have h1 := DZ1.out
            rw [e, EZ.out.b8] at h1
            cases h1
          have hne0 : D0 ≠ X8 := fun e => by
            have h1 := DZ0.out
            rw [e, EZ.out.b8] at h1
            cases h1
          have hne : D0 ≠ D1 := by omega
          have HN1 := Lib.hid hne1
          have HN0 := Lib.hid hne0
          have HNN2 := Lib.hid hne
          clear hb hne1 hne0 hne EV2 DK1 DK10
          go_wp2_with fail
          have hk1 := (setCell_blk_ne (w := wz) (a := ⟨X8, 0, none⟩) HN1.out (.bool true)).trans DZ1.out
          have hk0 : ((wz.setCell ⟨X8, 0, none⟩ (.bool true)).putObj D1 (.deferred none)).heap[D0]? = some (.deferred (some [])) := (World.putObj_heap_other (w := wz.setCell ⟨X8, 0, none⟩ (.bool true)) HNN2.out).trans ((setCell_blk_ne (w := wz) (a := ⟨X8, 0, none⟩) HN0.out (.bool true)).trans DZ0.out)
          refine ⟨by simp, .inl ⟨_, _, rfl, run_takeDeferred hk1, ⟨by simp, .inl ⟨_, _, rfl, run_takeDeferred hk0, ?_⟩⟩⟩⟩
          have hk2 : (((wz.setCell ⟨X8, 0, none⟩ (.bool true)).putObj D1 (.deferred none)).putObj D0 (.deferred none)).cell? ⟨X8, 0, none⟩ = some (.bool true) :=
            cell_blk ((World.putObj_heap_other (fun e => HN0.out e.symm)).trans ((World.putObj_heap_other (fun e => HN1.out e.symm)).trans (setCell_blk EZ.out.b8 0 (.bool true)))) 0 _ rfl
          refine ⟨.bool true, ?_, rfl, (((EZ.out.bel.setCell (p := ⟨X8, 0, none⟩) EZ.out.w8 _).trans (below_put (by omega))).trans (below_put (by omega)))⟩
          simp [results, Try.f3, go_sem, hk2]
end
end Go.Proofs.Ytnmbhcekcdicnaa
