/-
  The first row; when the first is due; New.
-/
import Derived.Test.YtnmbhcekcdicnaaN
namespace Go.Proofs.Ytnmbhcekcdicnaa
open Go.RowKit
set_option linter.unusedVariables false
set_option linter.unusedSimpArgs false

theorem rAt_nil (j : Nat) : rAt [] j = z0 := rfl
theorem first47 (ao : Option Addr) (n c : Nat) (l : List Rw) (w : World) (h : RAhead w.heap.size w ao n l) :
    Calls Try.prog 47 #[.slice ao n c] w fun e w' => e = .returned (.tuple #[rwV (rAt l 0), .bool (decide (0 < n))]) ∧ Below w.heap.size w w' := by
  by_cases hn : n = 0
  · subst hn
    have hl : l = [] := List.eq_nil_of_length_eq_zero h.1
    subst hl
    clear h
    go_enter Try.func47, Try.ntmps47
    go_wp2
    refine bodyPost_ret (v := .tuple #[rwV (rAt [] 0), .bool (decide (0 < 0))]) (by simp [results, Try.f47, go_sem, rAt, z0, rwV]) rfl ⟨rfl, ?_⟩
    exact (Below.refl _ w).alloc (Nat.le_refl _) _
  · obtain ⟨b, off, rfl, hb, hc⟩ := h.2 (by omega)
    obtain ⟨c0, c1, c2⟩ := hc 0 (by omega)
    simp only [Nat.zero_mul, Nat.add_zero] at c0 c1 c2
    have hd : decide (0 < n) = true := by simp; omega
    have hd2 : decide ((n : Int) = 0) = false := by simp; omega
    have hd3 : ((n : Int) == 0) = false := by simp; omega
    rw [hd]
    unfold rwV
    obtain ⟨xk, hxk⟩ : ∃ x, x = (rAt l 0).k := ⟨_, rfl⟩
    obtain ⟨xi, hxi⟩ : ∃ x, x = (rAt l 0).i := ⟨_, rfl⟩
    obtain ⟨xd, hxd⟩ : ∃ x, x = (rAt l 0).d := ⟨_, rfl⟩
    rw [← hxk] at c0 ⊢
    rw [← hxi] at c1 ⊢
    rw [← hxd] at c2 ⊢
    have hn1 : (0 : Int) < n := by omega
    clear hc h hxk hxi hxd hd
    go_enter Try.func47, Try.ntmps47
    go_wp2
    refine bodyPost_ret (v := .tuple #[.agg #[.int .i64 xk, .int .u64 xi, .int .u64 xd], .bool true]) (by simp [results, Try.f47, go_sem]) rfl ⟨rfl, ?_⟩
    exact (Below.refl _ w).alloc (Nat.le_refl _) _
section
variable {K K' : Nat → Prop} {p n c mb : Nat} {most : Int} {l : List Rw} {ao : Option Addr} {W W' : World}
theorem TAt.ahead (h : TAt K p most l ao n c mb W) : Calls Try.prog 39 #[.pointer (some ⟨p, 0, none⟩)] W fun e w' => e = .returned (.tuple #[rwV (rAt l 0), .bool (decide (0 < n))]) ∧ Below W.heap.size W w' := by
  obtain ⟨u, hu⟩ : ∃ X, X = W.alloc (.cells #[.int .i64 0, .int .u64 0, .int .u64 0] 80) := ⟨_, rfl⟩
  obtain ⟨X, hX⟩ : ∃ X, X = W.heap.size := ⟨_, rfl⟩
  have b1 : Below W.heap.size W u := by rw [hu]; exact (Below.refl _ W).alloc (Nat.le_refl _) _
  have kk : u.heap[X]? = some (.cells #[.int .i64 0, .int .u64 0, .int .u64 0] 80 (0, 0)) := by rw [hu, hX]; exact alloc_blk_new _ _
  have h2 := h.below b1
  have HN := Lib.hid h2.isT
  have HF0 := first47 ao n c l u h2.rows.ahead
  obtain ⟨q, hq⟩ : ∃ q, q = decide (0 < n) := ⟨_, rfl⟩
  unfold rwV at HF0 ⊢
  obtain ⟨xk, hxk⟩ : ∃ x, x = (rAt l 0).k := ⟨_, rfl⟩
  obtain ⟨xi, hxi⟩ : ∃ x, x = (rAt l 0).i := ⟨_, rfl⟩
  obtain ⟨xd, hxd⟩ : ∃ x, x = (rAt l 0).d := ⟨_, rfl⟩
  rw [← hxk, ← hxi, ← hxd, ← hq] at HF0 ⊢
  have HF := Lib.hid HF0
  have c0 := cell_blk h2.blk 0 _ rfl
  have lp := blk_lt h2.blk
  have EU := Lib.hid hu
  have B1 := Lib.hid b1
  have KK := Lib.hid kk
  have EX := Lib.hid hX
  clear h h2 HF0 hxk hxi hxd hq hu b1 kk hX
  go_enter Try.func39, Try.ntmps39
  go_wp2_with (go_at_call 30; fail)
  rw [← EU.out, ← EX.out]
  refine HN.out.mono ?_
  rintro e w' ⟨rfl, rfl⟩
  go_wp2_with (go_at_call 47; fail)
  refine HF.out.mono ?_
  rintro e w2 ⟨rfl, hb2⟩
  have HB := Lib.hid (B1.out.trans (hb2.mono B1.out.size))
  have k2 := (hb2.block _ (blk_lt KK.out)).trans KK.out
  have d0 := cell_blk k2 0 _ rfl
  have d1 := cell_blk k2 1 _ rfl
  have d2 := cell_blk k2 2 _ rfl
  have f0 := frozen_blk k2 0
  have f1 := frozen_blk k2 1
  have f2 := frozen_blk k2 2
  have lx := blk_lt k2
  clear hb2
  go_wp2
  have hXW : W.heap.size ≤ X := by rw [EX.out]; exact Nat.le_refl _
  have hk3 := setCell_blk (setCell_blk (setCell_blk k2 0 (.int .i64 xk)) 1 (.int .u64 xi)) 2 (.int .u64 xd)
  have g0 := cell_blk hk3 0 (.int .i64 xk) rfl
  have g1 := cell_blk hk3 1 (.int .u64 xi) rfl
  have g2 := cell_blk hk3 2 (.int .u64 xd) rfl
  refine bodyPost_ret (v := .tuple #[.agg #[.int .i64 xk, .int .u64 xi, .int .u64 xd], .bool q]) (by simp [results, Try.f39, go_sem, g0, g1, g2]) rfl ⟨rfl, ?_⟩
  exact ((HB.out.setCell (p := ⟨X, 0, none⟩) hXW _).setCell (p := ⟨X, 1, none⟩) hXW _).setCell (p := ⟨X, 2, none⟩) hXW _
theorem TAt.next (h : TAt K p most l ao n c mb W) : Calls Try.prog 22 #[.pointer (some ⟨p, 0, none⟩)] W fun e w' => e = .returned (.tuple #[.int .u64 (rAt l 0).d, .bool (decide (0 < n))]) ∧ Below W.heap.size W w' := by
  have HA0 := h.ahead
  obtain ⟨q, hq⟩ : ∃ q, q = decide (0 < n) := ⟨_, rfl⟩
  unfold rwV at HA0
  obtain ⟨xk, hxk⟩ : ∃ x, x = (rAt l 0).k := ⟨_, rfl⟩
  obtain ⟨xi, hxi⟩ : ∃ x, x = (rAt l 0).i := ⟨_, rfl⟩
  obtain ⟨xd, hxd⟩ : ∃ x, x = (rAt l 0).d := ⟨_, rfl⟩
  rw [← hxk, ← hxi, ← hxd, ← hq] at HA0
  rw [← hxd, ← hq]
  have HA := Lib.hid HA0
  clear h HA0 hxk hxi hxd hq
  go_enter Try.func22, Try.ntmps22
  go_wp2_with (go_at_call 39; fail)
  refine HA.out.mono ?_
  rintro e w2 ⟨rfl, hb2⟩
  have HB := Lib.hid (hb2.alloc hb2.size (.cells #[.int .i64 xk, .int .u64 xi, .int .u64 xd] 80))
  clear hb2
  go_wp2
  go_ret2
  exact ⟨rfl, HB.out⟩
end
end Go.Proofs.Ytnmbhcekcdicnaa
