/-
  The document's splitter: New, one, Waits.
-/
import Derived.Test.YtfkfooclapogjaaWm
namespace Go.Proofs.Ytfkfooclapogjaa
open Go.RowKit
set_option linter.unusedVariables false
set_option linter.unusedSimpArgs false

/-- What the document keeps of a line: all of it, or too much. -/
def RT (most : Nat) (L R : List Int) : Prop := Byt R ∧ R.length ≤ most + 4 ∧ (R = L ∨ (most < L.length ∧ most < R.length))
theorem RT.nil (most : Nat) : RT most [] [] := ⟨by simp [Byt], by simp, .inl rfl⟩
theorem RT.told {most : Nat} {L R : List Int} (h : RT most L R) : toldL most R = toldL most L := by
  obtain ⟨_, _, rfl | ⟨h1, h2⟩⟩ := h
  · rfl
  · unfold toldL
    rw [if_neg (by omega), if_neg (by omega)]
theorem RT.more {most : Nat} {L R : List Int} (h : RT most L R) {p : Int} (hp : Pt p) (hle : R.length ≤ most) : RT most (L ++ bytesL p) (R ++ bytesL p) := by
  obtain ⟨h1, h2, h3⟩ := h
  have hb := bytesL_len p
  refine ⟨fun x hx => ?_, by rw [List.length_append]; omega, ?_⟩
  · rcases List.mem_append.1 hx with e | e
    · exact h1 x e
    · exact bytesL_byt hp x e
  · rcases h3 with rfl | ⟨h3, h4⟩
    · exact .inl rfl
    · omega
theorem RT.skip {most : Nat} {L R : List Int} (h : RT most L R) (A : List Int) (hle : most < R.length) : RT most (L ++ A) R := by
  obtain ⟨h1, h2, h3⟩ := h
  refine ⟨h1, h2, .inr ⟨?_, hle⟩⟩
  rw [List.length_append]
  rcases h3 with rfl | ⟨h3, h4⟩ <;> omega

def rsV (da : Option Addr) (dn dc : Nat) (most : Nat) (R : ByteArray) (bg cr : Bool) : Value := .agg #[.slice da dn dc, .int .i64 most, .string R, .bool bg, .bool cr]

theorem one_any (da : Option Addr) (dn dc most : Nat) (R0 : ByteArray) (bg cr : Bool) (R : List Int) (S : ByteArray) (hS : S = strOfNums R) (w : World) :
    Calls Try.prog 34 #[rsV da dn dc most R0 bg cr, .string S] w fun e w' => e = .returned (lvV (toldL most R)) ∧ Below w.heap.size w w' := by
  obtain ⟨m, hm⟩ : ∃ m, m = S.size := ⟨_, rfl⟩
  have hml : m = R.length := by rw [hm, hS, strOfNums_size]
  have zs : S.size = m := hm.symm
  have HM := Lib.hid (And.intro hml hS)
  have HB : Hid (∀ o o', Below w.heap.size w ((w.alloc o).alloc o')) := Lib.hid (fun o o' => ((Below.refl _ w).alloc (Nat.le_refl _) _).alloc (by simp) _)
  unfold rsV
  clear hm hml hS
  by_cases hle : m ≤ most
  · have d1 : decide ((most : Int) < m) = false := by simp; omega
    have d2 : decide (most < m) = false := by simp; omega
    have HV : Hid (toldL most R = (S, false)) := Lib.hid (by unfold toldL; rw [← HM.out.1, if_pos hle, HM.out.2])
    rw [HV.out]
    unfold lvV
    go_enter Try.func34, Try.ntmps34
    go_wp2_with fail
    refine bodyPost_ret (v := .agg #[.string S, .bool false]) (by simp [results, Try.results34, go_sem, *]) rfl ⟨rfl, ?_⟩
    exact HB.out _ _
  · have d1 : decide ((most : Int) < m) = true := by simp; omega
    have d2 : decide (most < m) = true := by simp; omega
    have HV : Hid (toldL most R = (⟨#[]⟩, true)) := Lib.hid (by unfold toldL; rw [← HM.out.1, if_neg hle])
    rw [HV.out]
    unfold lvV
    go_enter Try.func34, Try.ntmps34
    go_wp2_with fail
    refine bodyPost_ret (v := .agg #[.string ⟨#[]⟩, .bool true]) (by simp [results, Try.results34, go_sem, *]) rfl ⟨rfl, ?_⟩
    exact HB.out _ _

theorem refNew_bad (m : Int) (w : World) (h : m < 1 ∨ 65536 < m) : Calls Try.prog 15 #[.int .i64 m] w fun e w' => e = .returned (.tuple #[rsV none 0 0 0 ⟨#[]⟩ false false, .int .i64 2]) ∧ Below w.heap.size w w' := by
  have HB : Hid (∀ o, Below w.heap.size w (w.alloc o)) := Lib.hid (fun o => ((Below.refl _ w).alloc (Nat.le_refl _) _))
  unfold rsV
  rcases Int.lt_or_le m 1 with h1 | h1
  · have d1 : decide (m < 1) = true := by simpa using h1
    clear h
    go_enter Try.func15, Try.ntmps15
    go_wp2_with fail
    refine bodyPost_ret (v := .tuple #[.agg #[.slice none 0 0, .int .i64 0, .string ⟨#[]⟩, .bool false, .bool false], .int .i64 2]) (by simp [results, Try.results15, go_sem, *]) rfl ⟨rfl, ?_⟩
    exact HB.out _
  · have d1 : decide (m < 1) = false := by simp; omega
    have d2 : decide (65536 < m) = true := by simp; omega
    clear h
    go_enter Try.func15, Try.ntmps15
    go_wp2_with fail
    refine bodyPost_ret (v := .tuple #[.agg #[.slice none 0 0, .int .i64 0, .string ⟨#[]⟩, .bool false, .bool false], .int .i64 2]) (by simp [results, Try.results15, go_sem, *]) rfl ⟨rfl, ?_⟩
    exact HB.out _
theorem refNew_any (most : Nat) (w : World) (h0 : 1 ≤ most) (h1 : most ≤ 65536) : Calls Try.prog 15 #[.int .i64 most] w fun e w' => e = .returned (.tuple #[rsV none 0 0 most ⟨#[]⟩ false false, .int .i64 0]) ∧ Below w.heap.size w w' := by
  have HB : Hid (∀ o, Below w.heap.size w (w.alloc o)) := Lib.hid (fun o => ((Below.refl _ w).alloc (Nat.le_refl _) _))
  unfold rsV
  have d1 : decide ((most : Int) < 1) = false := by simp; omega
  have d2 : decide (65536 < (most : Int)) = false := by simp; omega
  go_enter Try.func15, Try.ntmps15
  go_wp2_with fail
  refine bodyPost_ret (v := .tuple #[.agg #[.slice none 0 0, .int .i64 most, .string ⟨#[]⟩, .bool false, .bool false], .int .i64 0]) (by simp [results, Try.results15, go_sem, *]) rfl ⟨rfl, ?_⟩
  exact HB.out _
theorem refWaits_any (da : Option Addr) (dn dc most : Nat) (R : List Int) (S : ByteArray) (hS : S = strOfNums R) (bg cr : Bool) (w : World) :
    Calls Try.prog 20 #[rsV da dn dc most S bg cr] w fun e w' => e = .returned (lvV (toldL most R)) ∧ Below w.heap.size w w' := by
  obtain ⟨X, hX⟩ : ∃ X, X = w.heap.size := ⟨_, rfl⟩
  obtain ⟨w1, hw1⟩ : ∃ W, W = w.alloc (.cells #[.slice da dn dc, .int .i64 most, .string S, .bool bg, .bool cr] 48) := ⟨_, rfl⟩
  obtain ⟨w2, hw2⟩ : ∃ W, W = w1.alloc (.cells #[.string ⟨#[]⟩, .bool false] 35) := ⟨_, rfl⟩
  have s1 : w1.heap.size = X + 1 := by rw [hw1, hX]; simp
  have b1 : Below w.heap.size w w1 := by rw [hw1]; exact (Below.refl _ w).alloc (Nat.le_refl _) _
  have b2 : Below w.heap.size w w2 := by rw [hw2]; exact b1.alloc b1.size _
  have k1 : w1.heap[X]? = some (.cells #[.slice da dn dc, .int .i64 most, .string S, .bool bg, .bool cr] 48 (0, 0)) := by rw [hw1, hX]; exact alloc_blk_new _ _
  have k1' : w2.heap[X]? = some (.cells #[.slice da dn dc, .int .i64 most, .string S, .bool bg, .bool cr] 48 (0, 0)) := by rw [hw2]; exact alloc_blk k1 _
  have k2 : w2.heap[X + 1]? = some (.cells #[.string ⟨#[]⟩, .bool false] 35 (0, 0)) := by rw [hw2, ← s1]; exact alloc_blk_new _ _
  have c0 := cell_blk k1' 0 _ rfl
  have c1 := cell_blk k1' 1 _ rfl
  have c2 := cell_blk k1' 2 _ rfl
  have c3 := cell_blk k1' 3 _ rfl
  have c4 := cell_blk k1' 4 _ rfl
  have l1 := blk_lt k1'
  have EX := Lib.hid hX
  have E1 := Lib.hid hw1
  have E2 := Lib.hid hw2
  have S1 := Lib.hid s1
  have B2 := Lib.hid b2
  have K2 := Lib.hid k2
  have HO := Lib.hid (one_any da dn dc most S bg cr R S hS w2)
  obtain ⟨⟨ts, tb⟩, ht⟩ : ∃ x, toldL most R = x := ⟨_, rfl⟩
  rw [ht] at HO ⊢
  unfold rsV lvV at HO ⊢
  simp only at HO ⊢
  clear hS hX hw1 hw2 s1 b1 b2 k1 k1' k2 ht
  go_enter Try.func20, Try.ntmps20
  go_wp2_with fail
  rw [← E1.out, ← E2.out, ← EX.out]
  go_wp2_with (go_at_call 34; fail)
  refine HO.out.mono ?_
  rintro e w3 ⟨rfl, hb3⟩
  have k3 := (hb3.block (X + 1) (blk_lt K2.out)).trans K2.out
  have lx := blk_lt k3
  have x0 : w3.cell? ⟨X + 1, 0, none⟩ = some (.string ⟨#[]⟩) := cell_blk k3 0 _ rfl
  have x1 : w3.frozen? ⟨X + 1, 0, none⟩ = false := frozen_blk k3 0
  have x2 : ∀ v, (w3.setCell ⟨X + 1, 0, none⟩ v).cell? ⟨X + 1, 1, none⟩ = some (.bool false) := fun v => cell_blk (setCell_blk k3 0 v) 1 _ rfl
  have x3 : ∀ v, (w3.setCell ⟨X + 1, 0, none⟩ v).frozen? ⟨X + 1, 1, none⟩ = false := fun v => frozen_blk (setCell_blk k3 0 v) 1
  have x4 : ∀ v u, ((w3.setCell ⟨X + 1, 0, none⟩ v).setCell ⟨X + 1, 1, none⟩ u).cell? ⟨X + 1, 0, none⟩ = some v := fun v u => cell_blk (setCell_blk (setCell_blk k3 0 v) 1 u) 0 _ rfl
  have x5 : ∀ v u, ((w3.setCell ⟨X + 1, 0, none⟩ v).setCell ⟨X + 1, 1, none⟩ u).cell? ⟨X + 1, 1, none⟩ = some u := fun v u => cell_blk (setCell_blk (setCell_blk k3 0 v) 1 u) 1 _ rfl
  have B3 := Lib.hid (B2.out.trans (hb3.mono B2.out.size))
  clear hb3 k3 HO
  go_wp2_with fail
  refine bodyPost_ret (v := .agg #[.string ts, .bool tb]) (by simp [results, Try.results20, go_sem, *]) rfl ⟨rfl, ?_⟩
  exact ((B3.out.setCell (p := ⟨X + 1, 0, none⟩) (by have := EX.out; show w.heap.size ≤ X + 1; omega) _).setCell (p := ⟨X + 1, 1, none⟩) (by have := EX.out; show w.heap.size ≤ X + 1; omega) _)
end Go.Proofs.Ytfkfooclapogjaa
