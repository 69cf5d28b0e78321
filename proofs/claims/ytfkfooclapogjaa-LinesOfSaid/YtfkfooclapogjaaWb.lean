/-
  A splitter: told.
-/
import Derived.Test.YtfkfooclapogjaaWa
namespace Go.Proofs.Ytfkfooclapogjaa
open Go.RowKit
set_option linter.unusedVariables false
set_option linter.unusedSimpArgs false

/-- What waits, as a line: more bytes than the cap are none. -/
theorem told_short {T : Nat → Prop} (p D : Nat) (most : Int) (a : Option Addr) (n c : Nat) (begun cr : Bool) (zs : List Int) (w : World) (h : SpAt w p D most a n c begun cr) (hA : Arg T w a n zs) (hn : a = none → n = 0 ∧ c = 0) (hle : (n : Int) ≤ most) (hn2 : n ≤ 1000000) :
    Calls Try.prog 36 #[.pointer (some ⟨p, 0, none⟩)] w fun e w' => e = .returned (.agg #[.string (strOfNums zs), .bool false]) ∧ Below w.heap.size w w' := by
  have c1 := cell_blk h.blk 1 _ rfl
  have c2 := cell_blk h.blk 2 _ rfl
  have lp := blk_lt h.blk
  have hzl := hA.1
  have d1 : decide (most < (n : Int)) = false := by simp; omega
  obtain ⟨Y, hY⟩ : ∃ Y, Y = strOfNums zs := ⟨_, rfl⟩
  have HCv : Hid (∀ W, Below w.heap.size w W → (convert 22 9 (.slice a n c)).run Try.prog W = .ok (.string Y) W) := Lib.hid fun W hW => by
    have h1 := hA.below hW
    rw [hY]
    have h2 := conv_any (xs := zs) c (T := T) (w := W) (a := a) (by rw [hzl]; exact h1) (fun e => by rw [hzl]; exact hn e)
    rw [hzl] at h2
    exact h2
  rw [← hY]
  obtain ⟨w1, hw1⟩ : ∃ W, W = w.alloc (.cells #[.string ⟨#[]⟩, .bool false] 35) := ⟨_, rfl⟩
  obtain ⟨X, hX⟩ : ∃ X, X = w.heap.size := ⟨_, rfl⟩
  have hb1 : Below w.heap.size w w1 := by rw [hw1]; exact (Below.refl _ w).alloc (Nat.le_refl _) _
  have k1 : w1.heap[X]? = some (.cells #[.string ⟨#[]⟩, .bool false] 35 (0, 0)) := by rw [hw1, hX]; exact alloc_blk_new _ _
  have y1 := (hb1.cell (p := ⟨p, 1, none⟩) lp).trans c1
  have y2 := (hb1.cell (p := ⟨p, 2, none⟩) lp).trans c2
  have lp1 := Nat.lt_of_lt_of_le lp hb1.size
  have cv : ∀ q, (convert 22 9 (.slice a n c)).run Try.prog (w1.drewN q) = .ok (.string Y) (w1.drewN q) := fun q => HCv.out _ (hb1.trans ((Below.drewN' w1 q).mono hb1.size))
  have kq : ∀ q, (w1.drewN q).heap[X]? = some (.cells #[.string ⟨#[]⟩, .bool false] 35 (0, 0)) := fun q => k1
  have x0 : ∀ q, (w1.drewN q).cell? ⟨X, 0, none⟩ = some (.string ⟨#[]⟩) := fun q => cell_blk (kq q) 0 _ rfl
  have x1 : ∀ q, (w1.drewN q).frozen? ⟨X, 0, none⟩ = false := fun q => frozen_blk (kq q) 0
  have x2 : ∀ q v, ((w1.drewN q).setCell ⟨X, 0, none⟩ v).cell? ⟨X, 1, none⟩ = some (.bool false) := fun q v => cell_blk (setCell_blk (kq q) 0 v) 1 _ rfl
  have x3 : ∀ q v, ((w1.drewN q).setCell ⟨X, 0, none⟩ v).frozen? ⟨X, 1, none⟩ = false := fun q v => frozen_blk (setCell_blk (kq q) 0 v) 1
  have x4 : ∀ q v u, (((w1.drewN q).setCell ⟨X, 0, none⟩ v).setCell ⟨X, 1, none⟩ u).cell? ⟨X, 0, none⟩ = some v := fun q v u => cell_blk (setCell_blk (setCell_blk (kq q) 0 v) 1 u) 0 _ rfl
  have x5 : ∀ q v u, (((w1.drewN q).setCell ⟨X, 0, none⟩ v).setCell ⟨X, 1, none⟩ u).cell? ⟨X, 1, none⟩ = some u := fun q v u => cell_blk (setCell_blk (setCell_blk (kq q) 0 v) 1 u) 1 _ rfl
  have E1 := Lib.hid hw1
  have EX := Lib.hid hX
  have HB1 := Lib.hid hb1
  clear h hA hY hzl hw1 hX hb1 k1 kq
  go_enter Try.func36, Try.ntmps36
  go_wp2_with fail
  rw [← E1.out, ← EX.out]
  go_quiet (fail)
  go_wp2
  refine bodyPost_ret (v := .agg #[.string Y, .bool false]) (by simp [results, Try.results36, go_sem, *]) rfl ⟨rfl, ?_⟩
  exact (((HB1.out.trans ((Below.drewN' w1 _).mono HB1.out.size)).setCell (p := ⟨X, 0, none⟩) (Nat.le_of_eq EX.out.symm) _).setCell (p := ⟨X, 1, none⟩) (Nat.le_of_eq EX.out.symm) _)
theorem told_long {T : Nat → Prop} (p D : Nat) (most : Int) (a : Option Addr) (n c : Nat) (begun cr : Bool) (zs : List Int) (w : World) (h : SpAt w p D most a n c begun cr) (hA : Arg T w a n zs) (hn : a = none → n = 0 ∧ c = 0) (hle : most < (n : Int)) (hn2 : n ≤ 1000000) :
    Calls Try.prog 36 #[.pointer (some ⟨p, 0, none⟩)] w fun e w' => e = .returned (.agg #[.string ⟨#[]⟩, .bool true]) ∧ Below w.heap.size w w' := by
  have c1 := cell_blk h.blk 1 _ rfl
  have c2 := cell_blk h.blk 2 _ rfl
  have lp := blk_lt h.blk
  have hzl := hA.1
  have d1 : decide (most < (n : Int)) = true := by simpa using hle
  obtain ⟨Y, hY⟩ : ∃ Y, Y = strOfNums zs := ⟨_, rfl⟩
  have HCv : Hid (∀ W, Below w.heap.size w W → (convert 22 9 (.slice a n c)).run Try.prog W = .ok (.string Y) W) := Lib.hid fun W hW => by
    have h1 := hA.below hW
    rw [hY]
    have h2 := conv_any (xs := zs) c (T := T) (w := W) (a := a) (by rw [hzl]; exact h1) (fun e => by rw [hzl]; exact hn e)
    rw [hzl] at h2
    exact h2
  obtain ⟨w1, hw1⟩ : ∃ W, W = w.alloc (.cells #[.string ⟨#[]⟩, .bool false] 35) := ⟨_, rfl⟩
  obtain ⟨X, hX⟩ : ∃ X, X = w.heap.size := ⟨_, rfl⟩
  have hb1 : Below w.heap.size w w1 := by rw [hw1]; exact (Below.refl _ w).alloc (Nat.le_refl _) _
  have k1 : w1.heap[X]? = some (.cells #[.string ⟨#[]⟩, .bool false] 35 (0, 0)) := by rw [hw1, hX]; exact alloc_blk_new _ _
  have y1 := (hb1.cell (p := ⟨p, 1, none⟩) lp).trans c1
  have y2 := (hb1.cell (p := ⟨p, 2, none⟩) lp).trans c2
  have lp1 := Nat.lt_of_lt_of_le lp hb1.size
  have cv : ∀ q, (convert 22 9 (.slice a n c)).run Try.prog (w1.drewN q) = .ok (.string Y) (w1.drewN q) := fun q => HCv.out _ (hb1.trans ((Below.drewN' w1 q).mono hb1.size))
  have kq : ∀ q, (w1.drewN q).heap[X]? = some (.cells #[.string ⟨#[]⟩, .bool false] 35 (0, 0)) := fun q => k1
  have x0 : ∀ q, (w1.drewN q).cell? ⟨X, 0, none⟩ = some (.string ⟨#[]⟩) := fun q => cell_blk (kq q) 0 _ rfl
  have x1 : ∀ q, (w1.drewN q).frozen? ⟨X, 0, none⟩ = false := fun q => frozen_blk (kq q) 0
  have x2 : ∀ q v, ((w1.drewN q).setCell ⟨X, 0, none⟩ v).cell? ⟨X, 1, none⟩ = some (.bool false) := fun q v => cell_blk (setCell_blk (kq q) 0 v) 1 _ rfl
  have x3 : ∀ q v, ((w1.drewN q).setCell ⟨X, 0, none⟩ v).frozen? ⟨X, 1, none⟩ = false := fun q v => frozen_blk (setCell_blk (kq q) 0 v) 1
  have x4 : ∀ q v u, (((w1.drewN q).setCell ⟨X, 0, none⟩ v).setCell ⟨X, 1, none⟩ u).cell? ⟨X, 0, none⟩ = some v := fun q v u => cell_blk (setCell_blk (setCell_blk (kq q) 0 v) 1 u) 0 _ rfl
  have x5 : ∀ q v u, (((w1.drewN q).setCell ⟨X, 0, none⟩ v).setCell ⟨X, 1, none⟩ u).cell? ⟨X, 1, none⟩ = some u := fun q v u => cell_blk (setCell_blk (setCell_blk (kq q) 0 v) 1 u) 1 _ rfl
  have E1 := Lib.hid hw1
  have EX := Lib.hid hX
  have HB1 := Lib.hid hb1
  clear h hA hY hzl hw1 hX hb1 k1 kq
  go_enter Try.func36, Try.ntmps36
  go_wp2_with fail
  rw [← E1.out, ← EX.out]
  go_quiet (fail)
  go_wp2
  refine bodyPost_ret (v := .agg #[.string ⟨#[]⟩, .bool true]) (by simp [results, Try.results36, go_sem, *]) rfl ⟨rfl, ?_⟩
  exact (((HB1.out.trans ((Below.drewN' w1 _).mono HB1.out.size)).setCell (p := ⟨X, 0, none⟩) (Nat.le_of_eq EX.out.symm) _).setCell (p := ⟨X, 1, none⟩) (Nat.le_of_eq EX.out.symm) _)
end Go.Proofs.Ytfkfooclapogjaa
