/-
  The document's Pop.
-/
import Derived.Test.YtnmbhcekcdicnaaYb
namespace Go.Proofs.Ytnmbhcekcdicnaa
open Go.RowKit
set_option linter.unusedVariables false
set_option linter.unusedSimpArgs false

section
variable {A : Nat → Prop} {w : World} {bo : Option Addr} {m bc : Nat} {l : List Rw}
set_option maxHeartbeats 6400000
set_option maxRecDepth 100000
theorem refPop_empty (h : DR A w bo m bc []) (most now : Int) :
    Calls Try.prog 29 #[.agg #[.slice bo m bc, .int .i64 most], .int .u64 now] w fun e w' => e = .returned (.tuple #[.agg #[.slice bo m bc, .int .i64 most], .agg #[.int .i64 0, .int .u64 0, .int .u64 0], .bool false]) ∧ Below w.heap.size w w' := by
  obtain rfl : m = 0 := h.len
  obtain ⟨X, hX⟩ : ∃ X, X = w.heap.size := ⟨_, rfl⟩
  obtain ⟨u1, hu1⟩ : ∃ W, W = w.alloc (.cells #[.slice bo 0 bc, .int .i64 most] 36) := ⟨_, rfl⟩
  obtain ⟨u2, hu2⟩ : ∃ W, W = u1.alloc (.cells #[.slice none 0 0, .int .i64 0] 36) := ⟨_, rfl⟩
  obtain ⟨u, hu⟩ : ∃ W, W = u2.alloc (.cells #[.int .i64 0, .int .u64 0, .int .u64 0] 46) := ⟨_, rfl⟩
  have hz1 : u1.heap.size = X + 1 := by rw [hu1, hX]; simp
  have hz2 : u2.heap.size = X + 2 := by rw [hu2]; simp [hz1]
  have c1 : Below w.heap.size w u1 := by rw [hu1]; exact (Below.refl _ w).alloc (Nat.le_refl _) _
  have c2 : Below w.heap.size w u2 := by rw [hu2]; exact c1.alloc (by omega) _
  have b1 : Below w.heap.size w u := by rw [hu]; exact c2.alloc (by omega) _
  have k1 : u.heap[X]? = some (.cells #[.slice bo 0 bc, .int .i64 most] 36 (0, 0)) := by rw [hu]; exact alloc_blk (by rw [hu2]; exact alloc_blk (by rw [hu1, hX]; exact alloc_blk_new _ _) _) _
  have k2 : u.heap[X + 1]? = some (.cells #[.slice none 0 0, .int .i64 0] 36 (0, 0)) := by rw [hu]; exact alloc_blk (by rw [hu2, ← hz1]; exact alloc_blk_new _ _) _
  have k3 : u.heap[X + 2]? = some (.cells #[.int .i64 0, .int .u64 0, .int .u64 0] 46 (0, 0)) := by rw [hu, ← hz2]; exact alloc_blk_new _ _
  have HUU : Hid (u = ((w.alloc (.cells #[.slice bo 0 bc, .int .i64 most] 36)).alloc (.cells #[.slice none 0 0, .int .i64 0] 36)).alloc (.cells #[.int .i64 0, .int .u64 0, .int .u64 0] 46)) := Lib.hid (by rw [hu, hu2, hu1])
  have EX := Lib.hid hX
  have K1 := Lib.hid k1
  have K2 := Lib.hid k2
  have K3 := Lib.hid k3
  have B1 := Lib.hid b1
  have q0 := cell_blk k1 0 _ rfl
  have q1 := cell_blk k1 1 _ rfl
  have q2 := cell_blk k2 0 _ rfl
  have q3 := cell_blk k2 1 _ rfl
  have q4 := cell_blk k3 0 _ rfl
  have q5 := cell_blk k3 1 _ rfl
  have q6 := cell_blk k3 2 _ rfl
  have p0 := frozen_blk k2 0
  have p1 := frozen_blk k2 1
  have p2 := frozen_blk k3 0
  have p3 := frozen_blk k3 1
  have p4 := frozen_blk k3 2
  have q8 := blk_lt k1
  have q9 := blk_lt k2
  have q10 := blk_lt k3
  clear hu hu1 hu2 hX hz1 hz2 b1 c1 c2 k1 k2 k3
  clear h
  go_enter Try.func29, Try.ntmps29
  go_upto_region 1 with fail
  rw [← HUU.out]
  try rw [← EX.out]
  go_wp2
  have hXw := EX.out
  have hk6 := setCell_blk (setCell_blk K2.out 0 (.slice bo 0 bc)) 1 (.int .i64 most)
  have hk7 := setCell_blk (setCell_blk (setCell_blk (((setCell_blk_ne (w := u.setCell ⟨X + 1, 0, none⟩ (.slice bo 0 bc)) (a := ⟨X + 1, 1, none⟩) (show X + 2 ≠ X + 1 by omega) (.int .i64 most)).trans ((setCell_blk_ne (w := u) (a := ⟨X + 1, 0, none⟩) (show X + 2 ≠ X + 1 by omega) (.slice bo 0 bc)).trans K3.out))) 0 (.int .i64 0)) 1 (.int .u64 0)) 2 (.int .u64 0)
  have hk8 := fun v0 v1 v2 => (setCell_blk_ne (w := (((u.setCell ⟨X + 1, 0, none⟩ (.slice bo 0 bc)).setCell ⟨X + 1, 1, none⟩ (.int .i64 most)).setCell ⟨X + 2, 0, none⟩ v0).setCell ⟨X + 2, 1, none⟩ v1) (a := ⟨X + 2, 2, none⟩) (show X + 1 ≠ X + 2 by omega) v2).trans ((setCell_blk_ne (w := ((u.setCell ⟨X + 1, 0, none⟩ (.slice bo 0 bc)).setCell ⟨X + 1, 1, none⟩ (.int .i64 most)).setCell ⟨X + 2, 0, none⟩ v0) (a := ⟨X + 2, 1, none⟩) (show X + 1 ≠ X + 2 by omega) v1).trans ((setCell_blk_ne (w := (u.setCell ⟨X + 1, 0, none⟩ (.slice bo 0 bc)).setCell ⟨X + 1, 1, none⟩ (.int .i64 most)) (a := ⟨X + 2, 0, none⟩) (show X + 1 ≠ X + 2 by omega) v0).trans hk6))
  have z0 := cell_blk (hk8 (.int .i64 0) (.int .u64 0) (.int .u64 0)) 0 (.slice bo 0 bc) rfl
  have z1 := cell_blk (hk8 (.int .i64 0) (.int .u64 0) (.int .u64 0)) 1 (.int .i64 most) rfl
  have z2 := cell_blk hk7 0 (.int .i64 0) rfl
  have z3 := cell_blk hk7 1 (.int .u64 0) rfl
  have z4 := cell_blk hk7 2 (.int .u64 0) rfl
  refine bodyPost_ret (v := .tuple #[.agg #[.slice bo 0 bc, .int .i64 most], .agg #[.int .i64 0, .int .u64 0, .int .u64 0], .bool false]) (by simp [results, Try.f29, go_sem, z0, z1, z2, z3, z4]) rfl ⟨rfl, ?_⟩
  exact ((((B1.out.setCell (p := ⟨X + 1, 0, none⟩) (by show w.heap.size ≤ X + 1; omega) _).setCell (p := ⟨X + 1, 1, none⟩) (by show w.heap.size ≤ X + 1; omega) _).setCell (p := ⟨X + 2, 0, none⟩) (by show w.heap.size ≤ X + 2; omega) _).setCell (p := ⟨X + 2, 1, none⟩) (by show w.heap.size ≤ X + 2; omega) _).setCell (p := ⟨X + 2, 2, none⟩) (by show w.heap.size ≤ X + 2; omega) _

theorem refPop_early {rk ri rd : Int} {t : List Rw} (h : DR A w bo m bc (⟨rk, ri, rd⟩ :: t)) (hm : m ≤ 10000) (most now : Int) (hn : now < rd) :
    Calls Try.prog 29 #[.agg #[.slice bo m bc, .int .i64 most], .int .u64 now] w fun e w' => e = .returned (.tuple #[.agg #[.slice bo m bc, .int .i64 most], .agg #[.int .i64 0, .int .u64 0, .int .u64 0], .bool false]) ∧ Below w.heap.size w w' := by
  have hl := h.len
  rw [List.length_cons] at hl
  have hm0 : 0 < m := by omega
  have e1 : ((m : Int) == 0) = false := by simp; omega
  have e2 : decide ((m : Int) = 0) = false := by simp; omega
  have e3 : decide (now < rd) = true := by simpa using hn
  obtain ⟨b, off, rfl, _, hbl, hc⟩ := h.at_ hm0
  obtain ⟨y0, y1, y2⟩ := hc 0 hm0
  simp only [Nat.zero_mul, Nat.add_zero] at y0 y1 y2
  have y0 : w.cell? ⟨b, off, none⟩ = some (.int .i64 rk) := y0
  have y1 : w.cell? ⟨b, off + 1, none⟩ = some (.int .u64 ri) := y1
  have y2 : w.cell? ⟨b, off + 2, none⟩ = some (.int .u64 rd) := y2
  obtain ⟨X, hX⟩ : ∃ X, X = w.heap.size := ⟨_, rfl⟩
  obtain ⟨u1, hu1⟩ : ∃ W, W = w.alloc (.cells #[.slice (some ⟨b, off, none⟩) m bc, .int .i64 most] 36) := ⟨_, rfl⟩
  obtain ⟨u2, hu2⟩ : ∃ W, W = u1.alloc (.cells #[.slice none 0 0, .int .i64 0] 36) := ⟨_, rfl⟩
  obtain ⟨u, hu⟩ : ∃ W, W = u2.alloc (.cells #[.int .i64 0, .int .u64 0, .int .u64 0] 46) := ⟨_, rfl⟩
  have hz1 : u1.heap.size = X + 1 := by rw [hu1, hX]; simp
  have hz2 : u2.heap.size = X + 2 := by rw [hu2]; simp [hz1]
  have c1 : Below w.heap.size w u1 := by rw [hu1]; exact (Below.refl _ w).alloc (Nat.le_refl _) _
  have c2 : Below w.heap.size w u2 := by rw [hu2]; exact c1.alloc (by omega) _
  have b1 : Below w.heap.size w u := by rw [hu]; exact c2.alloc (by omega) _
  have k1 : u.heap[X]? = some (.cells #[.slice (some ⟨b, off, none⟩) m bc, .int .i64 most] 36 (0, 0)) := by rw [hu]; exact alloc_blk (by rw [hu2]; exact alloc_blk (by rw [hu1, hX]; exact alloc_blk_new _ _) _) _
  have k2 : u.heap[X + 1]? = some (.cells #[.slice none 0 0, .int .i64 0] 36 (0, 0)) := by rw [hu]; exact alloc_blk (by rw [hu2, ← hz1]; exact alloc_blk_new _ _) _
  have k3 : u.heap[X + 2]? = some (.cells #[.int .i64 0, .int .u64 0, .int .u64 0] 46 (0, 0)) := by rw [hu, ← hz2]; exact alloc_blk_new _ _
  have HUU : Hid (u = ((w.alloc (.cells #[.slice (some ⟨b, off, none⟩) m bc, .int .i64 most] 36)).alloc (.cells #[.slice none 0 0, .int .i64 0] 36)).alloc (.cells #[.int .i64 0, .int .u64 0, .int .u64 0] 46)) := Lib.hid (by rw [hu, hu2, hu1])
  have EX := Lib.hid hX
  have K1 := Lib.hid k1
  have K2 := Lib.hid k2
  have K3 := Lib.hid k3
  have B1 := Lib.hid b1
  have q0 := cell_blk k1 0 _ rfl
  have q1 := cell_blk k1 1 _ rfl
  have q2 := cell_blk k2 0 _ rfl
  have q3 := cell_blk k2 1 _ rfl
  have q4 := cell_blk k3 0 _ rfl
  have q5 := cell_blk k3 1 _ rfl
  have q6 := cell_blk k3 2 _ rfl
  have p0 := frozen_blk k2 0
  have p1 := frozen_blk k2 1
  have p2 := frozen_blk k3 0
  have p3 := frozen_blk k3 1
  have p4 := frozen_blk k3 2
  have q8 := blk_lt k1
  have q9 := blk_lt k2
  have q10 := blk_lt k3
  clear hu hu1 hu2 hX hz1 hz2 b1 c1 c2 k1 k2 k3
  have y0 := (B1.out.cell (p := ⟨b, off, none⟩) hbl).trans y0
  have y1 := (B1.out.cell (p := ⟨b, off + 1, none⟩) hbl).trans y1
  have y2 := (B1.out.cell (p := ⟨b, off + 2, none⟩) hbl).trans y2
  have hbw := Nat.lt_of_lt_of_le hbl B1.out.size
  clear h hc hn hl
  go_enter Try.func29, Try.ntmps29
  go_upto_region 1 with fail
  rw [← HUU.out]
  try rw [← EX.out]
  go_wp2
  have hXw := EX.out
  have hk6 := setCell_blk (setCell_blk K2.out 0 (.slice (some ⟨b, off, none⟩) m bc)) 1 (.int .i64 most)
  have hk7 := setCell_blk (setCell_blk (setCell_blk (((setCell_blk_ne (w := u.setCell ⟨X + 1, 0, none⟩ (.slice (some ⟨b, off, none⟩) m bc)) (a := ⟨X + 1, 1, none⟩) (show X + 2 ≠ X + 1 by omega) (.int .i64 most)).trans ((setCell_blk_ne (w := u) (a := ⟨X + 1, 0, none⟩) (show X + 2 ≠ X + 1 by omega) (.slice (some ⟨b, off, none⟩) m bc)).trans K3.out))) 0 (.int .i64 0)) 1 (.int .u64 0)) 2 (.int .u64 0)
  have hk8 := fun v0 v1 v2 => (setCell_blk_ne (w := (((u.setCell ⟨X + 1, 0, none⟩ (.slice (some ⟨b, off, none⟩) m bc)).setCell ⟨X + 1, 1, none⟩ (.int .i64 most)).setCell ⟨X + 2, 0, none⟩ v0).setCell ⟨X + 2, 1, none⟩ v1) (a := ⟨X + 2, 2, none⟩) (show X + 1 ≠ X + 2 by omega) v2).trans ((setCell_blk_ne (w := ((u.setCell ⟨X + 1, 0, none⟩ (.slice (some ⟨b, off, none⟩) m bc)).setCell ⟨X + 1, 1, none⟩ (.int .i64 most)).setCell ⟨X + 2, 0, none⟩ v0) (a := ⟨X + 2, 1, none⟩) (show X + 1 ≠ X + 2 by omega) v1).trans ((setCell_blk_ne (w := (u.setCell ⟨X + 1, 0, none⟩ (.slice (some ⟨b, off, none⟩) m bc)).setCell ⟨X + 1, 1, none⟩ (.int .i64 most)) (a := ⟨X + 2, 0, none⟩) (show X + 1 ≠ X + 2 by omega) v0).trans hk6))
  have z0 := cell_blk (hk8 (.int .i64 0) (.int .u64 0) (.int .u64 0)) 0 (.slice (some ⟨b, off, none⟩) m bc) rfl
  have z1 := cell_blk (hk8 (.int .i64 0) (.int .u64 0) (.int .u64 0)) 1 (.int .i64 most) rfl
  have z2 := cell_blk hk7 0 (.int .i64 0) rfl
  have z3 := cell_blk hk7 1 (.int .u64 0) rfl
  have z4 := cell_blk hk7 2 (.int .u64 0) rfl
  refine bodyPost_ret (v := .tuple #[.agg #[.slice (some ⟨b, off, none⟩) m bc, .int .i64 most], .agg #[.int .i64 0, .int .u64 0, .int .u64 0], .bool false]) (by simp [results, Try.f29, go_sem, z0, z1, z2, z3, z4]) rfl ⟨rfl, ?_⟩
  exact ((((B1.out.setCell (p := ⟨X + 1, 0, none⟩) (by show w.heap.size ≤ X + 1; omega) _).setCell (p := ⟨X + 1, 1, none⟩) (by show w.heap.size ≤ X + 1; omega) _).setCell (p := ⟨X + 2, 0, none⟩) (by show w.heap.size ≤ X + 2; omega) _).setCell (p := ⟨X + 2, 1, none⟩) (by show w.heap.size ≤ X + 2; omega) _).setCell (p := ⟨X + 2, 2, none⟩) (by show w.heap.size ≤ X + 2; omega) _

theorem refPop_yes {rk ri rd : Int} {t : List Rw} (h : DR A w bo m bc (⟨rk, ri, rd⟩ :: t)) (hm : m ≤ 10000) (most now : Int) (hn : rd ≤ now) :
    Calls Try.prog 29 #[.agg #[.slice bo m bc, .int .i64 most], .int .u64 now] w fun e w' => ∃ bo' m' bc', e = .returned (.tuple #[.agg #[.slice bo' m' bc', .int .i64 most], .agg #[.int .i64 rk, .int .u64 ri, .int .u64 rd], .bool true]) ∧ DR A w' bo' m' bc' t ∧ Below w.heap.size w w' := by
  have hl := h.len
  rw [List.length_cons] at hl
  have hm0 : 0 < m := by omega
  have hm1 : 1 ≤ m := hm0
  have hmi : (1 : Int) ≤ m := by omega
  have e1 : ((m : Int) == 0) = false := by simp; omega
  have e2 : decide ((m : Int) = 0) = false := by simp; omega
  have e3 : decide (now < rd) = false := by simp; omega
  have hbc1 : 1 ≤ bc := by have := h.cap; omega
  have HH := Lib.hid h
  obtain ⟨b, off, rfl, hA, hbl, hc⟩ := h.at_ hm0
  obtain ⟨y0, y1, y2⟩ := hc 0 hm0
  simp only [Nat.zero_mul, Nat.add_zero] at y0 y1 y2
  have y0 : w.cell? ⟨b, off, none⟩ = some (.int .i64 rk) := y0
  have y1 : w.cell? ⟨b, off + 1, none⟩ = some (.int .u64 ri) := y1
  have y2 : w.cell? ⟨b, off + 2, none⟩ = some (.int .u64 rd) := y2
  obtain ⟨X, hX⟩ : ∃ X, X = w.heap.size := ⟨_, rfl⟩
  obtain ⟨u1, hu1⟩ : ∃ W, W = w.alloc (.cells #[.slice (some ⟨b, off, none⟩) m bc, .int .i64 most] 36) := ⟨_, rfl⟩
  obtain ⟨u2, hu2⟩ : ∃ W, W = u1.alloc (.cells #[.slice none 0 0, .int .i64 0] 36) := ⟨_, rfl⟩
  obtain ⟨u, hu⟩ : ∃ W, W = u2.alloc (.cells #[.int .i64 0, .int .u64 0, .int .u64 0] 46) := ⟨_, rfl⟩
  have hz1 : u1.heap.size = X + 1 := by rw [hu1, hX]; simp
  have hz2 : u2.heap.size = X + 2 := by rw [hu2]; simp [hz1]
  have c1 : Below w.heap.size w u1 := by rw [hu1]; exact (Below.refl _ w).alloc (Nat.le_refl _) _
  have c2 : Below w.heap.size w u2 := by rw [hu2]; exact c1.alloc (by omega) _
  have b1 : Below w.heap.size w u := by rw [hu]; exact c2.alloc (by omega) _
  have k1 : u.heap[X]? = some (.cells #[.slice (some ⟨b, off, none⟩) m bc, .int .i64 most] 36 (0, 0)) := by rw [hu]; exact alloc_blk (by rw [hu2]; exact alloc_blk (by rw [hu1, hX]; exact alloc_blk_new _ _) _) _
  have k2 : u.heap[X + 1]? = some (.cells #[.slice none 0 0, .int .i64 0] 36 (0, 0)) := by rw [hu]; exact alloc_blk (by rw [hu2, ← hz1]; exact alloc_blk_new _ _) _
  have k3 : u.heap[X + 2]? = some (.cells #[.int .i64 0, .int .u64 0, .int .u64 0] 46 (0, 0)) := by rw [hu, ← hz2]; exact alloc_blk_new _ _
  have HUU : Hid (u = ((w.alloc (.cells #[.slice (some ⟨b, off, none⟩) m bc, .int .i64 most] 36)).alloc (.cells #[.slice none 0 0, .int .i64 0] 36)).alloc (.cells #[.int .i64 0, .int .u64 0, .int .u64 0] 46)) := Lib.hid (by rw [hu, hu2, hu1])
  have EX := Lib.hid hX
  have K1 := Lib.hid k1
  have K2 := Lib.hid k2
  have K3 := Lib.hid k3
  have B1 := Lib.hid b1
  have q0 := cell_blk k1 0 _ rfl
  have q1 := cell_blk k1 1 _ rfl
  have q2 := cell_blk k2 0 _ rfl
  have q3 := cell_blk k2 1 _ rfl
  have q4 := cell_blk k3 0 _ rfl
  have q5 := cell_blk k3 1 _ rfl
  have q6 := cell_blk k3 2 _ rfl
  have p0 := frozen_blk k2 0
  have p1 := frozen_blk k2 1
  have p2 := frozen_blk k3 0
  have p3 := frozen_blk k3 1
  have p4 := frozen_blk k3 2
  have q8 := blk_lt k1
  have q9 := blk_lt k2
  have q10 := blk_lt k3
  clear hu hu1 hu2 hX hz1 hz2 b1 c1 c2 k1 k2 k3
  have y0 := (B1.out.cell (p := ⟨b, off, none⟩) hbl).trans y0
  have y1 := (B1.out.cell (p := ⟨b, off + 1, none⟩) hbl).trans y1
  have y2 := (B1.out.cell (p := ⟨b, off + 2, none⟩) hbl).trans y2
  have hbw := Nat.lt_of_lt_of_le hbl B1.out.size
  have HROW := Lib.hid (And.intro y0 (And.intro y1 y2))
  have HBu := Lib.hid hbw
  have HBL := Lib.hid hbl
  have HAb := Lib.hid hA
  have HCC := Lib.hid hc
  have HLn := Lib.hid hl
  obtain ⟨sa, hsa⟩ : ∃ sa, (if bc = 1 then some (⟨b, off, none⟩ : Addr) else some (⟨b, off + 3, none⟩ : Addr)) = sa := ⟨_, rfl⟩
  clear h hc hn hl hA hbl
  go_enter Try.func29, Try.ntmps29
  go_upto_region 1 with fail
  rw [← HUU.out]
  try rw [← EX.out]
  go_upto_region 3 with fail
  obtain ⟨wd, hwd⟩ : ∃ W, W = (u).drew := ⟨_, rfl⟩
  have HBd : Hid (Below (u).heap.size (u) wd) := Lib.hid (by rw [hwd]; exact Below.drewN' (u) 1)
  have hS0 : (fun W : World => (W.heap[X]? = some (.cells #[.slice (some ⟨b, off, none⟩) m bc, .int .i64 most] 36 (0, 0))) ∧ ((W.cell? ⟨b, off, none⟩ = some (.int .i64 rk) ∧ W.cell? ⟨b, off + 1, none⟩ = some (.int .u64 ri) ∧ W.cell? ⟨b, off + 2, none⟩ = some (.int .u64 rd)) ∧ b < W.heap.size) ∧ ((∃ c0 c1, W.heap[X + 1]? = some (.cells #[c0, c1] 36 (0, 0))) ∧ (∃ c0 c1 c2, W.heap[X + 2]? = some (.cells #[c0, c1, c2] 46 (0, 0)))) ∧ (Below w.heap.size w W)) wd := by rw [hwd]; exact ⟨K1.out, ⟨HROW.out, HBu.out⟩, ⟨⟨_, _, K2.out⟩, _, _, _, K3.out⟩, B1.out.drew⟩
  refine wp_region_held_drew (S := fun W => (W.heap[X]? = some (.cells #[.slice (some ⟨b, off, none⟩) m bc, .int .i64 most] 36 (0, 0))) ∧ ((W.cell? ⟨b, off, none⟩ = some (.int .i64 rk) ∧ W.cell? ⟨b, off + 1, none⟩ = some (.int .u64 ri) ∧ W.cell? ⟨b, off + 2, none⟩ = some (.int .u64 rd)) ∧ b < W.heap.size) ∧ ((∃ c0 c1, W.heap[X + 1]? = some (.cells #[c0, c1] 36 (0, 0))) ∧ (∃ c0 c1 c2, W.heap[X + 2]? = some (.cells #[c0, c1, c2] 46 (0, 0)))) ∧ (Below w.heap.size w W)) (by kernel_rfl) (by rw [← hwd]; exact hS0) (fun hHeld => ?_)
  rw [← hwd] at hHeld ⊢
  clear hwd hS0
  refine' wpAnyH_take (i := 0) (oi := { dst := some 22, op := Op.fieldAddr 36 (Operand.tmp 2) 0, type := 0, pos := "ref.go:99", after := #[], guard := none }) (v := ?v101001) rfl (by kernel_rfl) (by kernel_rfl) (by kernel_rfl) (fun _ _ _ h => h) (.inl ⟨by first | rfl | simp [Region.wanted, yielded], ?hy101001⟩) (by assumption) ?rest101001
  case hy101001 => (intro W hW; obtain ⟨g1, ⟨⟨f1, f2, f3⟩, f4⟩, -, -⟩ := hW; have f5 := cell_blk g1 0 _ rfl; have f6 := cell_blk g1 1 _ rfl; have f7 := blk_lt g1; go_simp; try with_reducible rfl)
  simp only [Act.put, List.setIfInBounds_toArray, List.set_cons_zero, List.set_cons_succ]
  refine' wpAnyH_take (i := 1) (oi := { dst := some 23, op := Op.load 34 (Operand.tmp 22), type := 34, pos := "ref.go:99", after := #[{ on := 0, ground := Ground.data }], guard := none }) (v := ?v101002) rfl (by kernel_rfl) (by kernel_rfl) (by kernel_rfl) (fun _ _ _ h => h) (.inl ⟨by first | rfl | simp [Region.wanted, yielded], ?hy101002⟩) (by assumption) ?rest101002
  case hy101002 => (intro W hW; obtain ⟨g1, ⟨⟨f1, f2, f3⟩, f4⟩, -, -⟩ := hW; have f5 := cell_blk g1 0 _ rfl; have f6 := cell_blk g1 1 _ rfl; have f7 := blk_lt g1; go_simp; try with_reducible rfl)
  simp only [Act.put, List.setIfInBounds_toArray, List.set_cons_zero, List.set_cons_succ]
  refine' wpAnyH_take (i := 2) (oi := { dst := some 24, op := Op.slice 34 (Operand.tmp 23) (some (Operand.const (Value.int IntKind.i64 1))) none none, type := 34, pos := "ref.go:99", after := #[{ on := 1, ground := Ground.data }], guard := none }) (v := ?v101003) rfl (by kernel_rfl) (by kernel_rfl) (by kernel_rfl) (fun _ _ _ h => h) (.inl ⟨by first | rfl | simp [Region.wanted, yielded], ?hy101003⟩) (by assumption) ?rest101003
  case hy101003 => (intro W hW; obtain ⟨g1, ⟨⟨f1, f2, f3⟩, f4⟩, -, -⟩ := hW; have f5 := cell_blk g1 0 _ rfl; have f6 := cell_blk g1 1 _ rfl; have f7 := blk_lt g1; go_simp; try with_reducible rfl)
  simp only [Act.put, List.setIfInBounds_toArray, List.set_cons_zero, List.set_cons_succ]
  refine' wpAnyH_take (i := 3) (oi := { dst := some 25, op := Op.fieldAddr 36 (Operand.tmp 2) 1, type := 0, pos := "ref.go:99", after := #[], guard := none }) (v := ?v101004) rfl (by kernel_rfl) (by kernel_rfl) (by kernel_rfl) (fun _ _ _ h => h) (.inl ⟨by first | rfl | simp [Region.wanted, yielded], ?hy101004⟩) (by assumption) ?rest101004
  case hy101004 => (intro W hW; obtain ⟨g1, ⟨⟨f1, f2, f3⟩, f4⟩, -, -⟩ := hW; have f5 := cell_blk g1 0 _ rfl; have f6 := cell_blk g1 1 _ rfl; have f7 := blk_lt g1; go_simp; try with_reducible rfl)
  simp only [Act.put, List.setIfInBounds_toArray, List.set_cons_zero, List.set_cons_succ]
  refine' wpAnyH_take (i := 4) (oi := { dst := some 26, op := Op.load 3 (Operand.tmp 25), type := 3, pos := "ref.go:99", after := #[{ on := 3, ground := Ground.data }], guard := none }) (v := ?v101005) rfl (by kernel_rfl) (by kernel_rfl) (by kernel_rfl) (fun _ _ _ h => h) (.inl ⟨by first | rfl | simp [Region.wanted, yielded], ?hy101005⟩) (by assumption) ?rest101005
  case hy101005 => (intro W hW; obtain ⟨g1, ⟨⟨f1, f2, f3⟩, f4⟩, -, -⟩ := hW; have f5 := cell_blk g1 0 _ rfl; have f6 := cell_blk g1 1 _ rfl; have f7 := blk_lt g1; go_simp; try with_reducible rfl)
  simp only [Act.put, List.setIfInBounds_toArray, List.set_cons_zero, List.set_cons_succ]
  refine' wpAnyH_take (i := 5) (oi := { dst := some 27, op := Op.build 36 #[(0, Operand.tmp 24), (1, Operand.tmp 26)], type := 36, pos := "ref.go:99", after := #[{ on := 2, ground := Ground.data }, { on := 4, ground := Ground.data }], guard := none }) (v := ?v101006) rfl (by kernel_rfl) (by kernel_rfl) (by kernel_rfl) (fun _ _ _ h => h) (.inl ⟨by first | rfl | simp [Region.wanted, yielded], ?hy101006⟩) (by assumption) ?rest101006
  case hy101006 => (intro W hW; obtain ⟨g1, ⟨⟨f1, f2, f3⟩, f4⟩, -, -⟩ := hW; have f5 := cell_blk g1 0 _ rfl; have f6 := cell_blk g1 1 _ rfl; have f7 := blk_lt g1; go_simp; try with_reducible rfl)
  simp only [Act.put, List.setIfInBounds_toArray, List.set_cons_zero, List.set_cons_succ]
  refine' wpAnyH_take (i := 6) (oi := { dst := some 28, op := Op.fieldAddr 36 (Operand.tmp 2) 0, type := 0, pos := "ref.go:99", after := #[{ on := 10, ground := Ground.gcOnly Departure.lateStores }], guard := none }) (v := ?v101007) rfl (by kernel_rfl) (by kernel_rfl) (by kernel_rfl) (fun _ _ _ h => h) (.inl ⟨by first | rfl | simp [Region.wanted, yielded], ?hy101007⟩) (by assumption) ?rest101007
  case hy101007 => (intro W hW; obtain ⟨g1, ⟨⟨f1, f2, f3⟩, f4⟩, -, -⟩ := hW; have f5 := cell_blk g1 0 _ rfl; have f6 := cell_blk g1 1 _ rfl; have f7 := blk_lt g1; go_simp; try with_reducible rfl)
  simp only [Act.put, List.setIfInBounds_toArray, List.set_cons_zero, List.set_cons_succ]
  refine' wpAnyH_take (i := 7) (oi := { dst := some 29, op := Op.load 34 (Operand.tmp 28), type := 34, pos := "ref.go:99", after := #[{ on := 6, ground := Ground.data }, { on := 10, ground := Ground.gcOnly Departure.lateStores }], guard := none }) (v := ?v101008) rfl (by kernel_rfl) (by kernel_rfl) (by kernel_rfl) (fun _ _ _ h => h) (.inl ⟨by first | rfl | simp [Region.wanted, yielded], ?hy101008⟩) (by assumption) ?rest101008
  case hy101008 => (intro W hW; obtain ⟨g1, ⟨⟨f1, f2, f3⟩, f4⟩, -, -⟩ := hW; have f5 := cell_blk g1 0 _ rfl; have f6 := cell_blk g1 1 _ rfl; have f7 := blk_lt g1; go_simp; try with_reducible rfl)
  simp only [Act.put, List.setIfInBounds_toArray, List.set_cons_zero, List.set_cons_succ]
  refine' wpAnyH_take (i := 8) (oi := { dst := some 30, op := Op.indexAddr 34 (Operand.tmp 29) (Operand.const (Value.int IntKind.i64 0)), type := 0, pos := "ref.go:99", after := #[{ on := 7, ground := Ground.data }, { on := 10, ground := Ground.gcOnly Departure.lateStores }], guard := none }) (v := ?v101009) rfl (by kernel_rfl) (by kernel_rfl) (by kernel_rfl) (fun _ _ _ h => h) (.inl ⟨by first | rfl | simp [Region.wanted, yielded], ?hy101009⟩) (by assumption) ?rest101009
  case hy101009 => (intro W hW; obtain ⟨g1, ⟨⟨f1, f2, f3⟩, f4⟩, -, -⟩ := hW; have f5 := cell_blk g1 0 _ rfl; have f6 := cell_blk g1 1 _ rfl; have f7 := blk_lt g1; go_simp; try with_reducible rfl)
  simp only [Act.put, List.setIfInBounds_toArray, List.set_cons_zero, List.set_cons_succ]
  refine' wpAnyH_take (i := 9) (oi := { dst := some 31, op := Op.load 46 (Operand.tmp 30), type := 46, pos := "ref.go:99", after := #[{ on := 8, ground := Ground.data }, { on := 10, ground := Ground.gcOnly Departure.lateStores }], guard := none }) (v := ?v101010) rfl (by kernel_rfl) (by kernel_rfl) (by kernel_rfl) (fun _ _ _ h => h) (.inl ⟨by first | rfl | simp [Region.wanted, yielded], ?hy101010⟩) (by assumption) ?rest101010
  case hy101010 => (intro W hW; obtain ⟨g1, ⟨⟨f1, f2, f3⟩, f4⟩, -, -⟩ := hW; have f5 := cell_blk g1 0 _ rfl; have f6 := cell_blk g1 1 _ rfl; have f7 := blk_lt g1; go_simp; try with_reducible rfl)
  simp only [Act.put, List.setIfInBounds_toArray, List.set_cons_zero, List.set_cons_succ]
  refine wpAnyH_ready (rs := [10]) (by kernel_rfl) (by simp) ?_
  refine AllReadyH.cons (o := { dst := none, op := Op.store 36 (Operand.tmp 4) (Operand.tmp 27), type := 0, pos := "ref.go:99", after := #[{ on := 5, ground := Ground.data }, { on := 0, ground := Ground.phase }, { on := 1, ground := Ground.phase }, { on := 2, ground := Ground.phase }, { on := 3, ground := Ground.phase }, { on := 4, ground := Ground.phase }, { on := 5, ground := Ground.phase }, { on := 6, ground := Ground.textOnly Departure.lateStores }, { on := 7, ground := Ground.textOnly Departure.lateStores }, { on := 8, ground := Ground.textOnly Departure.lateStores }, { on := 9, ground := Ground.textOnly Departure.lateStores }], guard := none }) rfl (fun KK hK => ?_) (AllReadyH.nil)
  try simp only [List.getElem_toArray, List.getElem_cons_succ, List.getElem_cons_zero]
  obtain ⟨g1, ⟨⟨f1, f2, f3⟩, f4⟩, ⟨⟨a0, a1, g2⟩, a2, a3, a4, g3⟩, g4⟩ := hHeld
  have e0 := cell_blk g2 0 _ rfl
  have e1 := cell_blk g2 1 _ rfl
  have e2 := blk_lt g2
  have e3 := frozen_blk g2 0
  have e4 := frozen_blk g2 1
  go_simp
  obtain ⟨wz1, hw6⟩ : ∃ Y, Y = (wd.setCell ⟨X + 1, 0, none⟩ (.slice sa (m - 1) (bc - 1))).setCell ⟨X + 1, 1, none⟩ (.int .i64 most) := ⟨_, rfl⟩
  rw [← hw6]
  have hXw := EX.out
  have HM1 : Hid (wz1.heap[X + 1]? = some (.cells #[.slice sa (m - 1) (bc - 1), .int .i64 most] 36 (0, 0))) := Lib.hid (by rw [hw6]; exact setCell_blk (setCell_blk g2 0 _) 1 _)
  have hHeld1 : (fun W : World => (W.heap[X]? = some (.cells #[.slice (some ⟨b, off, none⟩) m bc, .int .i64 most] 36 (0, 0))) ∧ ((W.cell? ⟨b, off, none⟩ = some (.int .i64 rk) ∧ W.cell? ⟨b, off + 1, none⟩ = some (.int .u64 ri) ∧ W.cell? ⟨b, off + 2, none⟩ = some (.int .u64 rd)) ∧ b < W.heap.size) ∧ ((∃ c0 c1, W.heap[X + 1]? = some (.cells #[c0, c1] 36 (0, 0))) ∧ (∃ c0 c1 c2, W.heap[X + 2]? = some (.cells #[c0, c1, c2] 46 (0, 0)))) ∧ (Below w.heap.size w W)) wz1 := by
    have hk : ∀ q, q ≠ X + 1 → wz1.heap[q]? = wd.heap[q]? := fun q hq => by rw [hw6]; exact (setCell_blk_ne hq _).trans (setCell_blk_ne hq _)
    have hbX : b ≠ X + 1 := by have := HBL.out; omega
    exact ⟨(hk X (by omega)).trans g1, ⟨⟨(World.cell?_of_block (w := wd) (a := ⟨b, off, none⟩) (hk b hbX)).trans f1, (World.cell?_of_block (w := wd) (a := ⟨b, off + 1, none⟩) (hk b hbX)).trans f2, (World.cell?_of_block (w := wd) (a := ⟨b, off + 2, none⟩) (hk b hbX)).trans f3⟩, by rw [hw6]; simpa [World.setCell] using f4⟩, ⟨⟨_, _, HM1.out⟩, a2, a3, a4, (hk (X + 2) (by omega)).trans g3⟩, by rw [hw6]; exact (g4.setCell (p := ⟨X + 1, 0, none⟩) (by show w.heap.size ≤ X + 1; omega) _).setCell (p := ⟨X + 1, 1, none⟩) (by show w.heap.size ≤ X + 1; omega) _⟩
  clear e0 e1 e2 e3 e4 hw6 hXw
  refine hK.out _ _ (by assumption) (fun hHeld => ?_)
  clear hK KK
  try simp only [Act.put, List.setIfInBounds_toArray, List.set_cons_zero, List.set_cons_succ]
  refine wpAnyH_ready (rs := [11]) (by kernel_rfl) (by simp) ?_
  refine AllReadyH.cons (o := { dst := none, op := Op.store 46 (Operand.tmp 5) (Operand.tmp 31), type := 0, pos := "ref.go:99", after := #[{ on := 9, ground := Ground.data }, { on := 10, ground := Ground.chain }, { on := 0, ground := Ground.phase }, { on := 1, ground := Ground.phase }, { on := 2, ground := Ground.phase }, { on := 3, ground := Ground.phase }, { on := 4, ground := Ground.phase }, { on := 5, ground := Ground.phase }, { on := 6, ground := Ground.phase }, { on := 7, ground := Ground.phase }, { on := 8, ground := Ground.phase }, { on := 9, ground := Ground.phase }, { on := 10, ground := Ground.phase }], guard := none }) rfl (fun KK hK => ?_) (AllReadyH.nil)
  try simp only [List.getElem_toArray, List.getElem_cons_succ, List.getElem_cons_zero]
  obtain ⟨g1, ⟨⟨f1, f2, f3⟩, f4⟩, ⟨⟨a0, a1, g2⟩, a2, a3, a4, g3⟩, g4⟩ := hHeld
  have e0 := cell_blk g3 0 _ rfl
  have e1 := cell_blk g3 1 _ rfl
  have e2 := cell_blk g3 2 _ rfl
  have e3 := blk_lt g3
  have e4 := frozen_blk g3 0
  have e5 := frozen_blk g3 1
  have e6 := frozen_blk g3 2
  go_simp
  obtain ⟨wz2, hw6⟩ : ∃ Y, Y = ((wz1.setCell ⟨X + 2, 0, none⟩ (.int .i64 rk)).setCell ⟨X + 2, 1, none⟩ (.int .u64 ri)).setCell ⟨X + 2, 2, none⟩ (.int .u64 rd) := ⟨_, rfl⟩
  rw [← hw6]
  have hXw := EX.out
  have HM2 : Hid (wz2.heap[X + 2]? = some (.cells #[.int .i64 rk, .int .u64 ri, .int .u64 rd] 46 (0, 0))) := Lib.hid (by rw [hw6]; exact setCell_blk (setCell_blk (setCell_blk g3 0 _) 1 _) 2 _)
  have HO2 : Hid (wz2.heap[X + 1]? = some (.cells #[.slice sa (m - 1) (bc - 1), .int .i64 most] 36 (0, 0))) := Lib.hid (by rw [hw6]; exact (setCell_blk_ne (show X + 1 ≠ X + 2 by omega) _).trans ((setCell_blk_ne (a := ⟨X + 2, 1, none⟩) (show X + 1 ≠ X + 2 by omega) _).trans ((setCell_blk_ne (a := ⟨X + 2, 0, none⟩) (show X + 1 ≠ X + 2 by omega) _).trans HM1.out)))
  have hHeld2 : (fun W : World => (W.heap[X]? = some (.cells #[.slice (some ⟨b, off, none⟩) m bc, .int .i64 most] 36 (0, 0))) ∧ ((W.cell? ⟨b, off, none⟩ = some (.int .i64 rk) ∧ W.cell? ⟨b, off + 1, none⟩ = some (.int .u64 ri) ∧ W.cell? ⟨b, off + 2, none⟩ = some (.int .u64 rd)) ∧ b < W.heap.size) ∧ ((∃ c0 c1, W.heap[X + 1]? = some (.cells #[c0, c1] 36 (0, 0))) ∧ (∃ c0 c1 c2, W.heap[X + 2]? = some (.cells #[c0, c1, c2] 46 (0, 0)))) ∧ (Below w.heap.size w W)) wz2 := by
    have hk : ∀ q, q ≠ X + 2 → wz2.heap[q]? = wz1.heap[q]? := fun q hq => by rw [hw6]; exact (setCell_blk_ne hq _).trans ((setCell_blk_ne hq _).trans (setCell_blk_ne hq _))
    have hbX : b ≠ X + 2 := by have := HBL.out; omega
    exact ⟨(hk X (by omega)).trans g1, ⟨⟨(World.cell?_of_block (w := wz1) (a := ⟨b, off, none⟩) (hk b hbX)).trans f1, (World.cell?_of_block (w := wz1) (a := ⟨b, off + 1, none⟩) (hk b hbX)).trans f2, (World.cell?_of_block (w := wz1) (a := ⟨b, off + 2, none⟩) (hk b hbX)).trans f3⟩, by rw [hw6]; simpa [World.setCell] using f4⟩, ⟨⟨a0, a1, (hk (X + 1) (by omega)).trans g2⟩, _, _, _, HM2.out⟩, by rw [hw6]; exact ((g4.setCell (p := ⟨X + 2, 0, none⟩) (by show w.heap.size ≤ X + 2; omega) _).setCell (p := ⟨X + 2, 1, none⟩) (by show w.heap.size ≤ X + 2; omega) _).setCell (p := ⟨X + 2, 2, none⟩) (by show w.heap.size ≤ X + 2; omega) _⟩
  clear e0 e1 e2 e3 e4 e5 e6 hw6 hXw
  refine hK.out _ _ (by assumption) (fun hHeld => ?_)
  clear hK KK
  try simp only [Act.put, List.setIfInBounds_toArray, List.set_cons_zero, List.set_cons_succ]
  refine' wpAnyH_take (i := 12) (oi := { dst := some 6, op := Op.assign (Operand.const (Value.bool true)), type := 4, pos := "ref.go:99", after := #[{ on := 11, ground := Ground.chain }, { on := 0, ground := Ground.phase }, { on := 1, ground := Ground.phase }, { on := 2, ground := Ground.phase }, { on := 3, ground := Ground.phase }, { on := 4, ground := Ground.phase }, { on := 5, ground := Ground.phase }, { on := 6, ground := Ground.phase }, { on := 7, ground := Ground.phase }, { on := 8, ground := Ground.phase }, { on := 9, ground := Ground.phase }, { on := 10, ground := Ground.phase }, { on := 11, ground := Ground.phase }], guard := none }) (v := ?v101011) rfl (by kernel_rfl) (by kernel_rfl) (by kernel_rfl) (fun _ _ _ h => h) (.inl ⟨by first | rfl | simp [Region.wanted, yielded], ?hy101011⟩) (by assumption) ?rest101011
  case hy101011 => (intro W hW; obtain ⟨g1, ⟨⟨f1, f2, f3⟩, f4⟩, -, -⟩ := hW; have f5 := cell_blk g1 0 _ rfl; have f6 := cell_blk g1 1 _ rfl; have f7 := blk_lt g1; go_simp; try with_reducible rfl)
  simp only [Act.put, List.setIfInBounds_toArray, List.set_cons_zero, List.set_cons_succ]
  refine wpAnyH_done (by kernel_rfl) ?_ _
  obtain ⟨-, -, -, hbel⟩ := hHeld2
  have HBE := Lib.hid hbel
  clear hbel
  go_wp2
  have z0 := cell_blk HO2.out 0 _ rfl
  have z1 := cell_blk HO2.out 1 _ rfl
  have z2 := cell_blk HM2.out 0 _ rfl
  have z3 := cell_blk HM2.out 1 _ rfl
  have z4 := cell_blk HM2.out 2 _ rfl
  refine bodyPost_ret (v := .tuple #[.agg #[.slice sa (m - 1) (bc - 1), .int .i64 most], .agg #[.int .i64 rk, .int .u64 ri, .int .u64 rd], .bool true]) (by simp [results, Try.f29, go_sem, z0, z1, z2, z3, z4]) rfl ⟨sa, m - 1, bc - 1, rfl, ⟨by have := HLn.out; omega, by have := HH.out.cap; omega, fun hp => ?_, fun hp => ?ty⟩, HBE.out⟩
  case ty =>
    have hbc : ¬ bc = 1 := by have := HH.out.cap; omega
    rw [if_neg hbc] at hsa
    obtain ⟨b', off', cur, e', hc⟩ := HH.out.ty (by omega)
    cases e'
    exact ⟨b, off + 3, cur, hsa.symm, (HBE.out.block b HBL.out).trans hc⟩
  have hbc : ¬ bc = 1 := by have := HH.out.cap; omega
  rw [if_neg hbc] at hsa
  refine ⟨b, off + 3, hsa.symm, HAb.out, Nat.lt_of_lt_of_le HBL.out HBE.out.size, fun j hj => ?_⟩
  obtain ⟨y0, y1, y2⟩ := HCC.out (j + 1) (by omega)
  have e0 : rAt (⟨rk, ri, rd⟩ :: t) (j + 1) = rAt t j := rfl
  rw [e0] at y0 y1 y2
  have ea : off + 3 + j * 3 = off + (j + 1) * 3 := by omega
  rw [ea]
  exact ⟨(HBE.out.cell (p := ⟨b, off + (j + 1) * 3, none⟩) HBL.out).trans y0, (HBE.out.cell (p := ⟨b, off + (j + 1) * 3 + 1, none⟩) HBL.out).trans y1, (HBE.out.cell (p := ⟨b, off + (j + 1) * 3 + 2, none⟩) HBL.out).trans y2⟩

end
end Go.Proofs.Ytnmbhcekcdicnaa
