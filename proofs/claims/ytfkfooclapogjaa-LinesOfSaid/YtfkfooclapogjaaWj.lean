/-
  Of, Waits, the law's of.
-/
import Derived.Test.YtfkfooclapogjaaWi
namespace Go.Proofs.Ytfkfooclapogjaa
open Go.RowKit
set_option linter.unusedVariables false
set_option linter.unusedSimpArgs false

/-- The lines of bytes. -/
def linesOf (bs : List Int) : List (List Int) := (runP ([], false, false) (pts bs)).1

theorem Of_bad (m : Int) (bo : Option Addr) (n c : Nat) (w : World) (h : m < 1 ∨ 65536 < m) : Calls Try.prog 10 #[.int .i64 m, .slice bo n c] w fun e w' => e = .returned (.tuple #[.slice none 0 0, .int .i64 2]) ∧ w = w' := by
  have HN := Lib.hid (New_bad m w h)
  clear h
  go_enter Try.func10, Try.ntmps10
  go_wp2_with (go_at_call 7; refine HN.out.mono ?_; rintro e w' ⟨rfl, rfl⟩)
  go_ret2
  exact ⟨rfl, rfl⟩
theorem Of_ls {U : Nat → Prop} (most : Nat) (h0 : 1 ≤ most) (h1 : most ≤ 65536) (bo : Option Addr) (m c : Nat) (bs : List Int) (W0 : World) (hb : Arg U W0 bo m bs) (hbn : bo = none → m = 0 ∧ c = 0) (hby : Byt bs) (hm : m ≤ 100000) :
    Calls Try.prog 10 #[.int .i64 most, .slice bo m c] W0 fun e w' => ∃ ra rc, e = .returned (.tuple #[.slice ra (linesOf bs).length rc, .int .i64 0]) ∧ w'.ownsRow W0.heap.size 35 2 (.slice ra (linesOf bs).length rc) (linesOf bs).length (tolds most (linesOf bs)) ∧ Below W0.heap.size W0 w' := by
  have HN := Lib.hid (New_ls most W0 W0 h0 h1 (Below.refl _ W0))
  have HA := Lib.hid (And.intro hb (And.intro hbn (And.intro hby hm)))
  clear hb hbn hby hm
  go_enter Try.func10, Try.ntmps10
  go_wp2_with (go_at_call 7; fail)
  refine HN.out.mono ?_
  rintro e w1 ⟨p, D, rfl, hls, hb1, hp0, hD0⟩
  have HW := Lib.hid (Write_ls hls bo m c (HA.out.1.below hb1) HA.out.2.1 HA.out.2.2.1 HA.out.2.2.2)
  have HB1 := Lib.hid hb1
  have HP0 := Lib.hid (And.intro hp0 hD0)
  clear hls hb1 hp0 hD0 HN
  go_wp2_with (go_at_call 8; fail)
  refine HW.out.mono ?_
  rintro e w2 ⟨ra, rc, rfl, hrow, _, hm2⟩
  have H2 := Lib.hid (And.intro hrow hm2)
  clear hrow hm2 HW
  go_wp2
  go_ret2
  obtain ⟨hrow, hm2⟩ := H2.out
  have hs := HB1.out.size
  exact ⟨ra, rc, rfl, hrow.mono hs, ((Mod.of_below HB1.out (fun k => W0.heap.size ≤ k)).trans hm2 (fun k _ e => by have := HP0.out; rcases e with e | e <;> omega)).below (fun k hk => by omega)⟩

theorem Waits_ls {w wr : World} {K : Nat → Prop} {p D most : Nat} {zs : List Int} {s : Ss} (h : LS w K p D most zs s wr) :
    Calls Try.prog 19 #[.pointer (some ⟨p, 0, none⟩)] wr fun e w' => e = .returned (toldV most s.1) ∧ Below wr.heap.size wr w' := by
  have hm0 := h.m0
  have hm1 := h.m1
  obtain ⟨a, n, c0, hd, hsp, hln⟩ := h.at_
  obtain ⟨w1, hw1⟩ : ∃ W, W = wr.alloc (.cells #[.string ⟨#[]⟩, .bool false] 35) := ⟨_, rfl⟩
  obtain ⟨X, hX⟩ : ∃ X, X = wr.heap.size := ⟨_, rfl⟩
  have hb1 : Below wr.heap.size wr w1 := by rw [hw1]; exact (Below.refl _ wr).alloc (Nat.le_refl _) _
  have k1 : w1.heap[X]? = some (.cells #[.string ⟨#[]⟩, .bool false] 35 (0, 0)) := by rw [hw1, hX]; exact alloc_blk_new _ _
  have HNo := Lib.hid (none_s p most w1 (by omega) ((hsp.below hb1).cells).2.1)
  have HT := Lib.hid (told_any p D most a n c0 s.2.1 s.2.2 s.1 w1 (hsp.below hb1) (hln.below hb1) hm1)
  obtain ⟨ts, tb, htv, htc⟩ := toldV_eq most s.1
  rw [htv] at HT ⊢
  have E1 := Lib.hid hw1
  have EX := Lib.hid hX
  have K1 := Lib.hid k1
  have HB1 := Lib.hid hb1
  clear h hm0 hm1 hd hsp hln hw1 hX k1 hb1 htv htc
  go_enter Try.func19, Try.ntmps19
  go_wp2_with fail
  rw [← E1.out, ← EX.out]
  go_wp2_with (first | (go_at_call 23; refine HNo.out.mono ?_; rintro e w' ⟨rfl, rfl⟩) | (go_at_call 36; fail))
  refine HT.out.mono ?_
  rintro e w2 ⟨rfl, hb2⟩
  have k2 := (hb2.block X (blk_lt K1.out)).trans K1.out
  have lx := blk_lt k2
  have x0 : w2.cell? ⟨X, 0, none⟩ = some (.string ⟨#[]⟩) := cell_blk k2 0 _ rfl
  have x1 : w2.frozen? ⟨X, 0, none⟩ = false := frozen_blk k2 0
  have x2 : ∀ v, (w2.setCell ⟨X, 0, none⟩ v).cell? ⟨X, 1, none⟩ = some (.bool false) := fun v => cell_blk (setCell_blk k2 0 v) 1 _ rfl
  have x3 : ∀ v, (w2.setCell ⟨X, 0, none⟩ v).frozen? ⟨X, 1, none⟩ = false := fun v => frozen_blk (setCell_blk k2 0 v) 1
  have x4 : ∀ v u, ((w2.setCell ⟨X, 0, none⟩ v).setCell ⟨X, 1, none⟩ u).cell? ⟨X, 0, none⟩ = some v := fun v u => cell_blk (setCell_blk (setCell_blk k2 0 v) 1 u) 0 _ rfl
  have x5 : ∀ v u, ((w2.setCell ⟨X, 0, none⟩ v).setCell ⟨X, 1, none⟩ u).cell? ⟨X, 1, none⟩ = some u := fun v u => cell_blk (setCell_blk (setCell_blk k2 0 v) 1 u) 1 _ rfl
  have HB2 := Lib.hid (HB1.out.trans (hb2.mono HB1.out.size))
  clear hb2 k2 HT HNo
  go_wp2
  refine bodyPost_ret (v := .agg #[.string ts, .bool tb]) (by simp [results, Try.results19, go_sem, *]) rfl ⟨rfl, ?_⟩
  exact ((HB2.out.setCell (p := ⟨X, 0, none⟩) (Nat.le_of_eq EX.out.symm) _).setCell (p := ⟨X, 1, none⟩) (Nat.le_of_eq EX.out.symm) _)
theorem Waits_no (v : Value) (w : World) (hv : v = .pointer none ∨ ∃ p, v = .pointer (some ⟨p, 0, none⟩) ∧ w.cell? ⟨p, 1, none⟩ = some (.int .i64 0) ∧ p < w.heap.size) :
    Calls Try.prog 19 #[v] w fun e w' => e = .returned (.agg #[.string ⟨#[]⟩, .bool false]) ∧ Below w.heap.size w w' := by
  obtain ⟨w1, hw1⟩ : ∃ W, W = w.alloc (.cells #[.string ⟨#[]⟩, .bool false] 35) := ⟨_, rfl⟩
  obtain ⟨X, hX⟩ : ∃ X, X = w.heap.size := ⟨_, rfl⟩
  have hb1 : Below w.heap.size w w1 := by rw [hw1]; exact (Below.refl _ w).alloc (Nat.le_refl _) _
  have k1 : w1.heap[X]? = some (.cells #[.string ⟨#[]⟩, .bool false] 35 (0, 0)) := by rw [hw1, hX]; exact alloc_blk_new _ _
  have hno : Calls Try.prog 23 #[v] w1 fun e w' => e = .returned (.bool true) ∧ w1 = w' := by
    rcases hv with rfl | ⟨p, rfl, h, hl⟩
    · exact none_snil w1
    · exact none_szero p w1 ((hb1.cell (p := ⟨p, 1, none⟩) hl).trans h)
  have HNo := Lib.hid hno
  have E1 := Lib.hid hw1
  have EX := Lib.hid hX
  have HB1 := Lib.hid hb1
  have lx := blk_lt k1
  have x0 : w1.cell? ⟨X, 0, none⟩ = some (.string ⟨#[]⟩) := cell_blk k1 0 _ rfl
  have x1 : w1.frozen? ⟨X, 0, none⟩ = false := frozen_blk k1 0
  have x2 : ∀ v, (w1.setCell ⟨X, 0, none⟩ v).cell? ⟨X, 1, none⟩ = some (.bool false) := fun v => cell_blk (setCell_blk k1 0 v) 1 _ rfl
  have x3 : ∀ v, (w1.setCell ⟨X, 0, none⟩ v).frozen? ⟨X, 1, none⟩ = false := fun v => frozen_blk (setCell_blk k1 0 v) 1
  have x4 : ∀ v u, ((w1.setCell ⟨X, 0, none⟩ v).setCell ⟨X, 1, none⟩ u).cell? ⟨X, 0, none⟩ = some v := fun v u => cell_blk (setCell_blk (setCell_blk k1 0 v) 1 u) 0 _ rfl
  have x5 : ∀ v u, ((w1.setCell ⟨X, 0, none⟩ v).setCell ⟨X, 1, none⟩ u).cell? ⟨X, 1, none⟩ = some u := fun v u => cell_blk (setCell_blk (setCell_blk k1 0 v) 1 u) 1 _ rfl
  clear hw1 hX hb1 k1 hno hv
  go_enter Try.func19, Try.ntmps19
  go_wp2_with fail
  rw [← E1.out, ← EX.out]
  go_wp2_with (go_at_call 23; refine HNo.out.mono ?_; rintro e w' ⟨rfl, rfl⟩)
  refine bodyPost_ret (v := .agg #[.string ⟨#[]⟩, .bool false]) (by simp [results, Try.results19, go_sem, *]) rfl ⟨rfl, ?_⟩
  exact ((HB1.out.setCell (p := ⟨X, 0, none⟩) (Nat.le_of_eq EX.out.symm) _).setCell (p := ⟨X, 1, none⟩) (Nat.le_of_eq EX.out.symm) _)
end Go.Proofs.Ytfkfooclapogjaa
