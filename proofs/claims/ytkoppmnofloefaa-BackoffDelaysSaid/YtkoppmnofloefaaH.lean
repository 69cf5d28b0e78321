/-
  The reference's functions that hand a backoff back.
-/
import Derived.Test.YtkoppmnofloefaaG
namespace Go.Proofs.Ytkoppmnofloefaa
open Go.RowKit
set_option linter.unusedVariables false
set_option linter.unusedSimpArgs false

set_option maxHeartbeats 800000 in
theorem refReset (L M J base k : Int) (w : World) :
    Calls Try.prog 32 #[.agg #[.int .u64 L, .int .u64 M, .int .u64 J, .int .u64 base, .int .i64 k]] w fun e w' => e = .returned (.agg #[.int .u64 L, .int .u64 M, .int .u64 J, .int .u64 base, .int .i64 0]) ∧ Below w.heap.size w w' := by
  go_enter Try.func32, Try.ntmps32
  go_wp2
  refine bodyPost_ret (v := .agg #[.int .u64 L, .int .u64 M, .int .u64 J, .int .u64 base, .int .i64 0]) (by simp [results, Try.results32, go_sem]) rfl ⟨rfl, ?_⟩
  exact ((Below.refl _ _).alloc (Nat.le_refl _) _).alloc (by simp) _

/-- The cells of a block of five, and that none is frozen. -/
theorem five {w : World} {b : Nat} {a0 a1 a2 a3 a4 : Value} {t : TypeId} (h : w.heap[b]? = some (.cells #[a0, a1, a2, a3, a4] t (0, 0))) :
    w.cell? ⟨b, 0, none⟩ = some a0 ∧ w.cell? ⟨b, 1, none⟩ = some a1 ∧ w.cell? ⟨b, 2, none⟩ = some a2 ∧ w.cell? ⟨b, 3, none⟩ = some a3 ∧ w.cell? ⟨b, 4, none⟩ = some a4 ∧
    w.frozen? ⟨b, 0, none⟩ = false ∧ w.frozen? ⟨b, 1, none⟩ = false ∧ w.frozen? ⟨b, 2, none⟩ = false ∧ w.frozen? ⟨b, 3, none⟩ = false ∧ w.frozen? ⟨b, 4, none⟩ = false :=
  ⟨cell_blk h 0 _ rfl, cell_blk h 1 _ rfl, cell_blk h 2 _ rfl, cell_blk h 3 _ rfl, cell_blk h 4 _ rfl, frozen_blk h 0, frozen_blk h 1, frozen_blk h 2, frozen_blk h 3, frozen_blk h 4⟩

set_option maxHeartbeats 800000 in
theorem refNew (L M J : Int) (w : World) (h : okW L M J = true) :
    Calls Try.prog 14 #[.agg #[.int .u64 L, .int .u64 M, .int .u64 J]] w fun e w' => e = .returned (.tuple #[.agg #[.int .u64 L, .int .u64 M, .int .u64 J, .int .u64 L, .int .i64 0], .int .i64 0]) ∧ Below w.heap.size w w' := by
  obtain ⟨W, hW⟩ : ∃ W, W = (w.alloc (.cells #[.int .u64 L, .int .u64 M, .int .u64 J] 24)).alloc (.cells #[.int .u64 0, .int .u64 0, .int .u64 0, .int .u64 0, .int .i64 0] 37) := ⟨_, rfl⟩
  have HR := refRight L M J W
  rw [h] at HR
  have b0 : W.heap[w.heap.size]? = some (.cells #[.int .u64 L, .int .u64 M, .int .u64 J] 24 (0, 0)) := by rw [hW]; exact alloc_blk (alloc_blk_new _ _) _
  have b1 : W.heap[w.heap.size + 1]? = some (.cells #[.int .u64 0, .int .u64 0, .int .u64 0, .int .u64 0, .int .i64 0] 37 (0, 0)) := by rw [hW]; have := alloc_blk_new (w.alloc (.cells #[.int .u64 L, .int .u64 M, .int .u64 J] 24)) (.cells #[.int .u64 0, .int .u64 0, .int .u64 0, .int .u64 0, .int .i64 0] 37); rwa [World.size_alloc] at this
  have hB : Below w.heap.size w W := by rw [hW]; exact ((Below.refl _ w).alloc (Nat.le_refl _) _).alloc (by simp) _
  rw [hW] at HR
  have HR := Lib.hid HR
  have HB := Lib.hid hB
  have H0 := Lib.hid b0
  have H1 := Lib.hid b1
  have HW := Lib.hid hW
  clear h hB b0 b1 hW
  go_enter Try.func14, Try.ntmps14
  go_wp2_with fail
  refine HR.out.mono ?_
  rintro e w1 ⟨rfl, hb⟩
  rw [← HW.out] at hb
  have g0 := (hb.block _ (blk_lt H0.out)).trans H0.out
  have g1 := (hb.block _ (blk_lt H1.out)).trans H1.out
  have k0 := cell_blk g0 0 _ rfl
  have k1 := cell_blk g0 1 _ rfl
  have k2 := cell_blk g0 2 _ rfl
  obtain ⟨c0, c1, c2, c3, c4, f0, f1, f2, f3, f4⟩ := five g1
  have hlt : w.heap.size + 1 < w1.heap.size := blk_lt g1
  have HB2 := Lib.hid (HB.out.trans (hb.mono HB.out.size))
  clear hb g0 g1 HR HB H0 H1 HW
  go_wp2
  refine bodyPost_ret (v := .tuple #[.agg #[.int .u64 L, .int .u64 M, .int .u64 J, .int .u64 L, .int .i64 0], .int .i64 0]) (by simp [results, Try.results14, go_sem, *]) rfl ⟨rfl, ?_⟩
  exact ((((HB2.out.setCell (by simp) _).setCell (by simp) _).setCell (by simp) _).setCell (by simp) _).setCell (by simp) _
set_option maxHeartbeats 800000 in
theorem refNewBad (L M J : Int) (w : World) (h : okW L M J = false) :
    Calls Try.prog 14 #[.agg #[.int .u64 L, .int .u64 M, .int .u64 J]] w fun e w' => e = .returned (.tuple #[.agg #[.int .u64 0, .int .u64 0, .int .u64 0, .int .u64 0, .int .i64 0], .int .i64 2]) ∧ Below w.heap.size w w' := by
  obtain ⟨W, hW⟩ : ∃ W, W = (w.alloc (.cells #[.int .u64 L, .int .u64 M, .int .u64 J] 24)).alloc (.cells #[.int .u64 0, .int .u64 0, .int .u64 0, .int .u64 0, .int .i64 0] 37) := ⟨_, rfl⟩
  have HR := refRight L M J W
  rw [h] at HR
  have b0 : W.heap[w.heap.size]? = some (.cells #[.int .u64 L, .int .u64 M, .int .u64 J] 24 (0, 0)) := by rw [hW]; exact alloc_blk (alloc_blk_new _ _) _
  have b1 : W.heap[w.heap.size + 1]? = some (.cells #[.int .u64 0, .int .u64 0, .int .u64 0, .int .u64 0, .int .i64 0] 37 (0, 0)) := by rw [hW]; have := alloc_blk_new (w.alloc (.cells #[.int .u64 L, .int .u64 M, .int .u64 J] 24)) (.cells #[.int .u64 0, .int .u64 0, .int .u64 0, .int .u64 0, .int .i64 0] 37); rwa [World.size_alloc] at this
  have hB : Below w.heap.size w W := by rw [hW]; exact ((Below.refl _ w).alloc (Nat.le_refl _) _).alloc (by simp) _
  rw [hW] at HR
  have HR := Lib.hid HR
  have HB := Lib.hid hB
  have H0 := Lib.hid b0
  have H1 := Lib.hid b1
  have HW := Lib.hid hW
  clear h hB b0 b1 hW
  go_enter Try.func14, Try.ntmps14
  go_wp2_with fail
  refine HR.out.mono ?_
  rintro e w1 ⟨rfl, hb⟩
  rw [← HW.out] at hb
  have g0 := (hb.block _ (blk_lt H0.out)).trans H0.out
  have g1 := (hb.block _ (blk_lt H1.out)).trans H1.out
  have k0 := cell_blk g0 0 _ rfl
  have k1 := cell_blk g0 1 _ rfl
  have k2 := cell_blk g0 2 _ rfl
  obtain ⟨c0, c1, c2, c3, c4, f0, f1, f2, f3, f4⟩ := five g1
  have hlt : w.heap.size + 1 < w1.heap.size := blk_lt g1
  have HB2 := Lib.hid (HB.out.trans (hb.mono HB.out.size))
  clear hb g0 g1 HR HB H0 H1 HW
  go_wp2
  refine bodyPost_ret (v := .tuple #[.agg #[.int .u64 0, .int .u64 0, .int .u64 0, .int .u64 0, .int .i64 0], .int .i64 2]) (by simp [results, Try.results14, go_sem, *]) rfl ⟨rfl, ?_⟩
  exact ((((HB2.out.setCell (by simp) _).setCell (by simp) _).setCell (by simp) _).setCell (by simp) _).setCell (by simp) _

set_option maxHeartbeats 800000 in
theorem refNext (L M J base draw : Int) (k : Nat) (w : World) (h1 : 1 ≤ base) (hM : base ≤ M) (hM2 : M ≤ 1099511627776) (hJ : 0 ≤ J) (hJ2 : J ≤ 1099511627776) (hd : 0 ≤ draw) (hk : k ≤ 64) :
    Calls Try.prog 29 #[.agg #[.int .u64 L, .int .u64 M, .int .u64 J, .int .u64 base, .int .i64 k], .int .u64 draw] w fun e w' =>
      e = .returned (.tuple #[.agg #[.int .u64 L, .int .u64 M, .int .u64 J, .int .u64 base, .int .i64 (min (k + 1) 64 : Nat)], .int .u64 (delayOf M J base k draw)]) ∧ Below w.heap.size w w' := by
  obtain ⟨W, hW⟩ : ∃ W, W = (w.alloc (.cells #[.int .u64 L, .int .u64 M, .int .u64 J, .int .u64 base, .int .i64 k] 37)).alloc (.cells #[.int .u64 0, .int .u64 0, .int .u64 0, .int .u64 0, .int .i64 0] 37) := ⟨_, rfl⟩
  have HR := refDelay L M J base draw k W h1 hM hM2 hJ hJ2 hd hk
  have b0 : W.heap[w.heap.size]? = some (.cells #[.int .u64 L, .int .u64 M, .int .u64 J, .int .u64 base, .int .i64 k] 37 (0, 0)) := by rw [hW]; exact alloc_blk (alloc_blk_new _ _) _
  have b1 : W.heap[w.heap.size + 1]? = some (.cells #[.int .u64 0, .int .u64 0, .int .u64 0, .int .u64 0, .int .i64 0] 37 (0, 0)) := by rw [hW]; have := alloc_blk_new (w.alloc (.cells #[.int .u64 L, .int .u64 M, .int .u64 J, .int .u64 base, .int .i64 k] 37)) (.cells #[.int .u64 0, .int .u64 0, .int .u64 0, .int .u64 0, .int .i64 0] 37); rwa [World.size_alloc] at this
  have hB : Below w.heap.size w W := by rw [hW]; exact ((Below.refl _ w).alloc (Nat.le_refl _) _).alloc (by simp) _
  rw [hW] at HR
  obtain ⟨dl, hdl⟩ : ∃ dl, dl = delayOf M J base k draw := ⟨_, rfl⟩
  rw [← hdl] at HR ⊢
  have HR := Lib.hid HR
  have HB := Lib.hid hB
  have H0 := Lib.hid b0
  have H1 := Lib.hid b1
  have HW := Lib.hid hW
  clear hdl hB b0 b1 hW
  obtain ⟨k', hk'⟩ : ∃ k' : Nat, k' = min (k + 1) 64 := ⟨_, rfl⟩
  rw [← hk']
  have key : ((k : Int) + 1 ≤ 64 ∧ (k' : Int) = k + 1) ∨ (¬ ((k : Int) + 1 ≤ 64) ∧ (k' : Int) = 64) := by omega
  rcases key with ⟨hk2, hke⟩ | ⟨hk2, hke⟩
  all_goals
    rw [hke]
    clear hke hk'
    go_enter Try.func29, Try.ntmps29
    go_wp2_with fail
    refine HR.out.mono ?_
    rintro e w1 ⟨rfl, hb⟩
    rw [← HW.out] at hb
    have g0 := (hb.block _ (blk_lt H0.out)).trans H0.out
    have g1 := (hb.block _ (blk_lt H1.out)).trans H1.out
    obtain ⟨k0, k1, k2, k3, k4, e0, e1, e2, e3, e4⟩ := five g0
    obtain ⟨c0, c1, c2, c3, c4, f0, f1, f2, f3, f4⟩ := five g1
    have hlt : w.heap.size + 1 < w1.heap.size := blk_lt g1
    have HB2 := Lib.hid (HB.out.trans (hb.mono HB.out.size))
    clear hb g0 g1 HR HB H0 H1 HW
    go_wp2
    first
      | refine bodyPost_ret (v := .tuple #[.agg #[.int .u64 L, .int .u64 M, .int .u64 J, .int .u64 base, .int .i64 (k + 1)], .int .u64 dl]) (by simp [results, Try.results29, go_sem, *]) rfl ⟨rfl, ?_⟩
      | refine bodyPost_ret (v := .tuple #[.agg #[.int .u64 L, .int .u64 M, .int .u64 J, .int .u64 base, .int .i64 64], .int .u64 dl]) (by simp [results, Try.results29, go_sem, *]) rfl ⟨rfl, ?_⟩
    exact (((((HB2.out.setCell (Nat.le_refl _) _).setCell (by simp) _).setCell (by simp) _).setCell (by simp) _).setCell (by simp) _).setCell (by simp) _

set_option maxHeartbeats 1600000 in
theorem refSet (L M J base b : Int) (k : Int) (w : World) (hlm : L ≤ M) :
    Calls Try.prog 31 #[.agg #[.int .u64 L, .int .u64 M, .int .u64 J, .int .u64 base, .int .i64 k], .int .u64 b] w fun e w' =>
      e = .returned (.agg #[.int .u64 L, .int .u64 M, .int .u64 J, .int .u64 (max L (min M b)), .int .i64 k]) ∧ Below w.heap.size w w' := by
  obtain ⟨x, hx⟩ : ∃ x, x = max L (min M b) := ⟨_, rfl⟩
  have key : (b < L ∧ x = L) ∨ (L < b ∧ b < M ∧ x = b) ∨ (L < b ∧ M < b ∧ x = M) ∨ (b = L ∧ x = L) ∨ (b = M ∧ x = M) := by omega
  rw [← hx]
  clear hx
  rcases key with ⟨a, rfl⟩ | ⟨a, a', rfl⟩ | ⟨a, a', rfl⟩ | ⟨rfl, rfl⟩ | ⟨rfl, rfl⟩
  all_goals
    go_enter Try.func31, Try.ntmps31
    go_wp2
  all_goals
    refine bodyPost_ret (v := .agg #[.int .u64 _, .int .u64 _, .int .u64 J, .int .u64 x, .int .i64 k]) (by simp [results, Try.results31, go_sem]; done) rfl ⟨rfl, ?_⟩
    exact ((Below.refl _ _).alloc (Nat.le_refl _) _).alloc (by simp) _
end Go.Proofs.Ytkoppmnofloefaa
