/-
  The chapter's rows.
-/
import Derived.Test.YtfnojmkiajdoaaaO
namespace Go.Proofs.Ytfnojmkiajdoaaa
open Go.RowKit
set_option linter.unusedVariables false
set_option linter.unusedSimpArgs false
attribute [local go_sem high] neq25 eql25

theorem fd_ok (f : Fd) (h1 : f.n.all (fun x => decide (0 ≤ x ∧ x < 256)) = true) (h2 : f.v.all (fun x => decide (0 ≤ x ∧ x < 256)) = true) (h3 : f.n.length + f.v.length ≤ 2000) (h4 : 0 ≤ f.k ∧ f.k ≤ 7) : f.Ok :=
  ⟨byt_dec h1, byt_dec h2, h3, by omega, by omega⟩
theorem of_lay0 (w : World) : Calls Try.prog 8 #[.string ⟨#[100, 97, 116, 97, 58, 32, 97]⟩] w fun e w' => e = .returned (.agg #[.int .i64 3, .string ⟨#[100, 97, 116, 97]⟩, .string ⟨#[97]⟩]) ∧ Below w.heap.size w w' := by
  have h := Of8 [100, 97, 116, 97, 58, 32, 97] (byt_dec rfl) (by decide) w
  have e1 : ofF [100, 97, 116, 97, 58, 32, 97] = ⟨3, [100, 97, 116, 97], [97]⟩ := by decide +kernel
  rw [e1] at h
  exact h
theorem of_lay1 (w : World) : Calls Try.prog 8 #[.string ⟨#[100, 97, 116, 97, 58, 32, 32, 97]⟩] w fun e w' => e = .returned (.agg #[.int .i64 3, .string ⟨#[100, 97, 116, 97]⟩, .string ⟨#[32, 97]⟩]) ∧ Below w.heap.size w w' := by
  have h := Of8 [100, 97, 116, 97, 58, 32, 32, 97] (byt_dec rfl) (by decide) w
  have e1 : ofF [100, 97, 116, 97, 58, 32, 32, 97] = ⟨3, [100, 97, 116, 97], [32, 97]⟩ := by decide +kernel
  rw [e1] at h
  exact h
theorem of_lay2 (w : World) : Calls Try.prog 8 #[.string ⟨#[100, 97, 116, 97]⟩] w fun e w' => e = .returned (.agg #[.int .i64 3, .string ⟨#[100, 97, 116, 97]⟩, .string ⟨#[]⟩]) ∧ Below w.heap.size w w' := by
  have h := Of8 [100, 97, 116, 97] (byt_dec rfl) (by decide) w
  have e1 : ofF [100, 97, 116, 97] = ⟨3, [100, 97, 116, 97], []⟩ := by decide +kernel
  rw [e1] at h
  exact h
theorem of_lay3 (w : World) : Calls Try.prog 8 #[.string ⟨#[58, 32, 120]⟩] w fun e w' => e = .returned (.agg #[.int .i64 2, .string ⟨#[]⟩, .string ⟨#[32, 120]⟩]) ∧ Below w.heap.size w w' := by
  have h := Of8 [58, 32, 120] (byt_dec rfl) (by decide) w
  have e1 : ofF [58, 32, 120] = ⟨2, [], [32, 120]⟩ := by decide +kernel
  rw [e1] at h
  exact h
theorem of_lay4 (w : World) : Calls Try.prog 8 #[.string ⟨#[100, 97, 116, 97, 120, 58, 49]⟩] w fun e w' => e = .returned (.agg #[.int .i64 7, .string ⟨#[100, 97, 116, 97, 120]⟩, .string ⟨#[49]⟩]) ∧ Below w.heap.size w w' := by
  have h := Of8 [100, 97, 116, 97, 120, 58, 49] (byt_dec rfl) (by decide) w
  have e1 : ofF [100, 97, 116, 97, 120, 58, 49] = ⟨7, [100, 97, 116, 97, 120], [49]⟩ := by decide +kernel
  rw [e1] at h
  exact h
theorem of_lay5 (w : World) : Calls Try.prog 8 #[.string ⟨#[114, 101, 116, 114, 121, 58, 32, 48, 49, 48]⟩] w fun e w' => e = .returned (.agg #[.int .i64 6, .string ⟨#[114, 101, 116, 114, 121]⟩, .string ⟨#[48, 49, 48]⟩]) ∧ Below w.heap.size w w' := by
  have h := Of8 [114, 101, 116, 114, 121, 58, 32, 48, 49, 48] (byt_dec rfl) (by decide) w
  have e1 : ofF [114, 101, 116, 114, 121, 58, 32, 48, 49, 48] = ⟨6, [114, 101, 116, 114, 121], [48, 49, 48]⟩ := by decide +kernel
  rw [e1] at h
  exact h
theorem of_lay6 (w : World) : Calls Try.prog 8 #[.string ⟨#[114, 101, 116, 114, 121, 58, 32, 45, 49]⟩] w fun e w' => e = .returned (.agg #[.int .i64 6, .string ⟨#[114, 101, 116, 114, 121]⟩, .string ⟨#[45, 49]⟩]) ∧ Below w.heap.size w w' := by
  have h := Of8 [114, 101, 116, 114, 121, 58, 32, 45, 49] (byt_dec rfl) (by decide) w
  have e1 : ofF [114, 101, 116, 114, 121, 58, 32, 45, 49] = ⟨6, [114, 101, 116, 114, 121], [45, 49]⟩ := by decide +kernel
  rw [e1] at h
  exact h
theorem of_lay7 (w : World) : Calls Try.prog 8 #[.string ⟨#[105, 100, 58, 32, 97, 0]⟩] w fun e w' => e = .returned (.agg #[.int .i64 5, .string ⟨#[105, 100]⟩, .string ⟨#[97, 0]⟩]) ∧ Below w.heap.size w w' := by
  have h := Of8 [105, 100, 58, 32, 97, 0] (byt_dec rfl) (by decide) w
  have e1 : ofF [105, 100, 58, 32, 97, 0] = ⟨5, [105, 100], [97, 0]⟩ := by decide +kernel
  rw [e1] at h
  exact h
theorem retry_lay5 (w : World) : Calls Try.prog 10 #[.agg #[.int .i64 6, .string ⟨#[114, 101, 116, 114, 121]⟩, .string ⟨#[48, 49, 48]⟩]] w fun e w' => e = .returned (.tuple #[.int .u64 10, .bool true]) ∧ Below w.heap.size w w' := by
  have h := Retry10 ⟨6, [114, 101, 116, 114, 121], [48, 49, 48]⟩ (fd_ok _ rfl rfl (by decide) (by decide)) w
  have e1 : retryF ⟨6, [114, 101, 116, 114, 121], [48, 49, 48]⟩ = (10, true) := by decide +kernel
  rw [e1] at h
  exact h
theorem retry_lay6 (w : World) : Calls Try.prog 10 #[.agg #[.int .i64 6, .string ⟨#[114, 101, 116, 114, 121]⟩, .string ⟨#[45, 49]⟩]] w fun e w' => e = .returned (.tuple #[.int .u64 0, .bool false]) ∧ Below w.heap.size w w' := by
  have h := Retry10 ⟨6, [114, 101, 116, 114, 121], [45, 49]⟩ (fd_ok _ rfl rfl (by decide) (by decide)) w
  have e1 : retryF ⟨6, [114, 101, 116, 114, 121], [45, 49]⟩ = (0, false) := by decide +kernel
  rw [e1] at h
  exact h
theorem counts_lay7 (w : World) : Calls Try.prog 13 #[.agg #[.int .i64 5, .string ⟨#[105, 100]⟩, .string ⟨#[97, 0]⟩]] w fun e w' => e = .returned (.bool false) ∧ Below w.heap.size w w' := by
  have h := Counts13 ⟨5, [105, 100], [97, 0]⟩ (fd_ok _ rfl rfl (by decide) (by decide)) w
  have e1 : countsF ⟨5, [105, 100], [97, 0]⟩ = false := by decide +kernel
  rw [e1] at h
  exact h
theorem line_lay0 (w : World) : Calls Try.prog 12 #[.agg #[.int .i64 5, .string ⟨#[105, 100]⟩, .string ⟨#[55]⟩]] w fun e w' => e = .returned (.tuple #[.string ⟨#[105, 100, 58, 32, 55]⟩, .int .i64 0]) ∧ Below w.heap.size w w' := by
  have h := Line12 ⟨5, [105, 100], [55]⟩ (fd_ok _ rfl rfl (by decide) (by decide)) w
  have e1 : rightF ⟨5, [105, 100], [55]⟩ = true := by decide +kernel
  rw [e1, if_pos rfl, if_pos rfl] at h
  have e2 : lineF ⟨5, [105, 100], [55]⟩ = [105, 100, 58, 32, 55] := by decide +kernel
  rw [e2] at h
  exact h
theorem line_lay1 (w : World) : Calls Try.prog 12 #[.agg #[.int .i64 3, .string ⟨#[100, 97, 116, 97]⟩, .string ⟨#[]⟩]] w fun e w' => e = .returned (.tuple #[.string ⟨#[100, 97, 116, 97]⟩, .int .i64 0]) ∧ Below w.heap.size w w' := by
  have h := Line12 ⟨3, [100, 97, 116, 97], []⟩ (fd_ok _ rfl rfl (by decide) (by decide)) w
  have e1 : rightF ⟨3, [100, 97, 116, 97], []⟩ = true := by decide +kernel
  rw [e1, if_pos rfl, if_pos rfl] at h
  have e2 : lineF ⟨3, [100, 97, 116, 97], []⟩ = [100, 97, 116, 97] := by decide +kernel
  rw [e2] at h
  exact h
set_option maxHeartbeats 6400000 in
set_option maxRecDepth 100000 in
theorem works_true (w : World) : Calls Try.prog 7 #[] w fun e w' => e = .returned (.bool true) ∧ Below w.heap.size w w' := by
  have q0 : fdEq 3 ⟨#[100, 97, 116, 97]⟩ ⟨#[97]⟩ 3 ⟨#[100, 97, 116, 97]⟩ ⟨#[97]⟩ = true := by simp [fdEq]
  have q1 : fdEq 3 ⟨#[100, 97, 116, 97]⟩ ⟨#[]⟩ 3 ⟨#[100, 97, 116, 97]⟩ ⟨#[]⟩ = true := by simp [fdEq]
  have q2 : fdEq 2 ⟨#[]⟩ ⟨#[32, 120]⟩ 2 ⟨#[]⟩ ⟨#[32, 120]⟩ = true := by simp [fdEq]
  have q3 : fdEq 7 ⟨#[100, 97, 116, 97, 120]⟩ ⟨#[49]⟩ 7 ⟨#[100, 97, 116, 97, 120]⟩ ⟨#[49]⟩ = true := by simp [fdEq]
  have z0 : ((⟨#[32, 97]⟩ : ByteArray).toList == [32, 97]) = true := by decide +kernel
  have z1 : ((⟨#[105, 100, 58, 32, 55]⟩ : ByteArray).toList == [105, 100, 58, 32, 55]) = true := by decide +kernel
  have z2 : ((⟨#[100, 97, 116, 97]⟩ : ByteArray).toList == [100, 97, 116, 97]) = true := by decide +kernel
  go_enter Try.func7, Try.ntmps7
  go_wp2_with (go_at_call 8; fail)
  refine (of_lay0 _).mono ?_
  rintro e w1 ⟨rfl, hb1⟩
  go_wp2_with (go_at_call 8; fail)
  refine (of_lay1 _).mono ?_
  rintro e w2 ⟨rfl, hb2⟩
  go_wp2_with (go_at_call 8; fail)
  refine (of_lay2 _).mono ?_
  rintro e w3 ⟨rfl, hb3⟩
  go_wp2_with (go_at_call 8; fail)
  refine (of_lay3 _).mono ?_
  rintro e w4 ⟨rfl, hb4⟩
  go_wp2_with (go_at_call 8; fail)
  refine (of_lay4 _).mono ?_
  rintro e w5 ⟨rfl, hb5⟩
  have B5 := Lib.hid ((((hb1.trans (hb2.mono hb1.size)).trans (hb3.mono (Nat.le_trans hb1.size hb2.size))).trans (hb4.mono (Nat.le_trans hb1.size (Nat.le_trans hb2.size hb3.size)))).trans (hb5.mono (Nat.le_trans hb1.size (Nat.le_trans hb2.size (Nat.le_trans hb3.size hb4.size)))))
  clear hb1 hb2 hb3 hb4 hb5
  obtain ⟨X, hX⟩ : ∃ X, X = w5.heap.size := ⟨_, rfl⟩
  obtain ⟨u0, hu0⟩ : ∃ W, W = w5.alloc (.cells #[.int .i64 3, .string ⟨#[100, 97, 116, 97]⟩, .string ⟨#[97]⟩] 25) := ⟨_, rfl⟩
  obtain ⟨u1, hu1⟩ : ∃ W, W = u0.alloc (.cells #[.int .i64 3, .string ⟨#[100, 97, 116, 97]⟩, .string ⟨#[32, 97]⟩] 25) := ⟨_, rfl⟩
  obtain ⟨u2, hu2⟩ : ∃ W, W = u1.alloc (.cells #[.int .i64 3, .string ⟨#[100, 97, 116, 97]⟩, .string ⟨#[]⟩] 25) := ⟨_, rfl⟩
  obtain ⟨u3, hu3⟩ : ∃ W, W = u2.alloc (.cells #[.int .i64 2, .string ⟨#[]⟩, .string ⟨#[32, 120]⟩] 25) := ⟨_, rfl⟩
  obtain ⟨u4, hu4⟩ : ∃ W, W = u3.alloc (.cells #[.int .i64 7, .string ⟨#[100, 97, 116, 97, 120]⟩, .string ⟨#[49]⟩] 25) := ⟨_, rfl⟩
  have s0 : u0.heap.size = X + 1 := by rw [hu0, hX]; simp
  have s1 : u1.heap.size = X + 2 := by rw [hu1]; simp [s0]
  have s2 : u2.heap.size = X + 3 := by rw [hu2]; simp [s1]
  have s3 : u3.heap.size = X + 4 := by rw [hu3]; simp [s2]
  have s4 : u4.heap.size = X + 5 := by rw [hu4]; simp [s3]
  have v0 : Below w.heap.size w u0 := by rw [hu0]; exact B5.out.alloc B5.out.size _
  have v1 : Below w.heap.size w u1 := by rw [hu1]; exact v0.alloc v0.size _
  have v2 : Below w.heap.size w u2 := by rw [hu2]; exact v1.alloc v1.size _
  have v3 : Below w.heap.size w u3 := by rw [hu3]; exact v2.alloc v2.size _
  have v4 : Below w.heap.size w u4 := by rw [hu4]; exact v3.alloc v3.size _
  have k0 : u0.heap[X]? = some (.cells #[.int .i64 3, .string ⟨#[100, 97, 116, 97]⟩, .string ⟨#[97]⟩] 25 (0, 0)) := by rw [hu0, hX]; exact alloc_blk_new _ _
  have k1 : u1.heap[X + 1]? = some (.cells #[.int .i64 3, .string ⟨#[100, 97, 116, 97]⟩, .string ⟨#[32, 97]⟩] 25 (0, 0)) := by rw [hu1, ← s0]; exact alloc_blk_new _ _
  have k2 : u2.heap[X + 2]? = some (.cells #[.int .i64 3, .string ⟨#[100, 97, 116, 97]⟩, .string ⟨#[]⟩] 25 (0, 0)) := by rw [hu2, ← s1]; exact alloc_blk_new _ _
  have k3 : u3.heap[X + 3]? = some (.cells #[.int .i64 2, .string ⟨#[]⟩, .string ⟨#[32, 120]⟩] 25 (0, 0)) := by rw [hu3, ← s2]; exact alloc_blk_new _ _
  have k4 : u4.heap[X + 4]? = some (.cells #[.int .i64 7, .string ⟨#[100, 97, 116, 97, 120]⟩, .string ⟨#[49]⟩] 25 (0, 0)) := by rw [hu4, ← s3]; exact alloc_blk_new _ _
  have K0 := Lib.hid (show u4.heap[X]? = some (.cells #[.int .i64 3, .string ⟨#[100, 97, 116, 97]⟩, .string ⟨#[97]⟩] 25 (0, 0)) from by rw [hu4, hu3, hu2, hu1]; exact (alloc_blk (alloc_blk (alloc_blk (alloc_blk k0 _) _) _) _))
  have K1 := Lib.hid (show u4.heap[X + 1]? = some (.cells #[.int .i64 3, .string ⟨#[100, 97, 116, 97]⟩, .string ⟨#[32, 97]⟩] 25 (0, 0)) from by rw [hu4, hu3, hu2]; exact (alloc_blk (alloc_blk (alloc_blk k1 _) _) _))
  have K2 := Lib.hid (show u4.heap[X + 2]? = some (.cells #[.int .i64 3, .string ⟨#[100, 97, 116, 97]⟩, .string ⟨#[]⟩] 25 (0, 0)) from by rw [hu4, hu3]; exact (alloc_blk (alloc_blk k2 _) _))
  have K3 := Lib.hid (show u4.heap[X + 3]? = some (.cells #[.int .i64 2, .string ⟨#[]⟩, .string ⟨#[32, 120]⟩] 25 (0, 0)) from by rw [hu4]; exact (alloc_blk k3 _))
  have K4 := Lib.hid (show u4.heap[X + 4]? = some (.cells #[.int .i64 7, .string ⟨#[100, 97, 116, 97, 120]⟩, .string ⟨#[49]⟩] 25 (0, 0)) from by exact k4)
  have U4 := Lib.hid v4
  have EX := Lib.hid hX
  have EU0 := Lib.hid hu0
  have EU1 := Lib.hid hu1
  have EU2 := Lib.hid hu2
  have EU3 := Lib.hid hu3
  have EU4 := Lib.hid hu4
  clear hX hu0 s0 v0 k0 hu1 s1 v1 k1 hu2 s2 v2 k2 hu3 s3 v3 k3 hu4 s4 v4 k4
  go_wp2_with (go_at_call 8; fail)
  rw [← EU0.out, ← EU1.out, ← EU2.out, ← EU3.out, ← EU4.out]
  try rw [← EX.out]
  refine (of_lay5 _).mono ?_
  rintro e y1 ⟨rfl, hb1⟩
  go_wp2_with (go_at_call 10; fail)
  refine (retry_lay5 _).mono ?_
  rintro e y2 ⟨rfl, hb2⟩
  go_wp2_with (go_at_call 8; fail)
  refine (of_lay6 _).mono ?_
  rintro e y3 ⟨rfl, hb3⟩
  go_wp2_with (go_at_call 10; fail)
  refine (retry_lay6 _).mono ?_
  rintro e y4 ⟨rfl, hb4⟩
  go_wp2_with (go_at_call 12; fail)
  refine (line_lay0 _).mono ?_
  rintro e y5 ⟨rfl, hb5⟩
  go_wp2_with (go_at_call 12; fail)
  refine (line_lay1 _).mono ?_
  rintro e y6 ⟨rfl, hb6⟩
  have Y6 := Lib.hid (((((hb1.trans (hb2.mono hb1.size)).trans (hb3.mono (Nat.le_trans hb1.size hb2.size))).trans (hb4.mono (Nat.le_trans (Nat.le_trans hb1.size hb2.size) hb3.size))).trans (hb5.mono (Nat.le_trans (Nat.le_trans (Nat.le_trans hb1.size hb2.size) hb3.size) hb4.size))).trans (hb6.mono (Nat.le_trans (Nat.le_trans (Nat.le_trans (Nat.le_trans hb1.size hb2.size) hb3.size) hb4.size) hb5.size)))
  have L0 := Lib.hid ((Y6.out.block _ (blk_lt K0.out)).trans K0.out)
  have L1 := Lib.hid ((Y6.out.block _ (blk_lt K1.out)).trans K1.out)
  have L2 := Lib.hid ((Y6.out.block _ (blk_lt K2.out)).trans K2.out)
  have L3 := Lib.hid ((Y6.out.block _ (blk_lt K3.out)).trans K3.out)
  have L4 := Lib.hid ((Y6.out.block _ (blk_lt K4.out)).trans K4.out)
  have c00 := cell_blk L0.out 0 _ rfl
  have c01 := cell_blk L0.out 1 _ rfl
  have c02 := cell_blk L0.out 2 _ rfl
  have l0 := blk_lt L0.out
  have c10 := cell_blk L1.out 0 _ rfl
  have c11 := cell_blk L1.out 1 _ rfl
  have c12 := cell_blk L1.out 2 _ rfl
  have l1 := blk_lt L1.out
  have c20 := cell_blk L2.out 0 _ rfl
  have c21 := cell_blk L2.out 1 _ rfl
  have c22 := cell_blk L2.out 2 _ rfl
  have l2 := blk_lt L2.out
  have c30 := cell_blk L3.out 0 _ rfl
  have c31 := cell_blk L3.out 1 _ rfl
  have c32 := cell_blk L3.out 2 _ rfl
  have l3 := blk_lt L3.out
  have c40 := cell_blk L4.out 0 _ rfl
  have c41 := cell_blk L4.out 1 _ rfl
  have c42 := cell_blk L4.out 2 _ rfl
  have l4 := blk_lt L4.out
  have W6 := Lib.hid (U4.out.trans (Y6.out.mono U4.out.size))
  clear hb1 hb2 hb3 hb4 hb5 hb6
  go_wp2_with (go_at_call 8; fail)
  refine (of_lay7 _).mono ?_
  rintro e y7 ⟨rfl, hb7⟩
  have W7 := Lib.hid (W6.out.trans (hb7.mono W6.out.size))
  clear hb7
  go_wp2_with (go_at_call 13; fail)
  refine (counts_lay7 _).mono ?_
  rintro e y8 ⟨rfl, hb8⟩
  have W8 := Lib.hid (W7.out.trans (hb8.mono W7.out.size))
  clear hb8
  go_wp2_with (go_at_call 16; refine (num16 _ _).mono ?_; rintro e w' ⟨rfl, rfl⟩)
  go_ret
  exact ⟨rfl, W8.out⟩
end Go.Proofs.Ytfnojmkiajdoaaa
