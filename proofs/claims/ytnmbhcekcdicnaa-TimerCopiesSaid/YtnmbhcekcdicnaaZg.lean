/-
  act: Pop.
-/
import Derived.Test.YtnmbhcekcdicnaaZa
namespace Go.Proofs.Ytnmbhcekcdicnaa
open Go.RowKit
set_option linter.unusedVariables false
set_option linter.unusedSimpArgs false

attribute [local go_sem high] eql26 neq26
section
variable {K : Nat → Prop} {p : Nat} {most : Int} {l : List Rw} {bo : Option Addr} {m bc : Nat} {w : World}
set_option maxHeartbeats 6400000
set_option maxRecDepth 100000
theorem act_pop5 (h : AS K p most l bo m bc w) (what k i n : Int) (k0 : -9223372036854775808 ≤ k) (k1 : k ≤ 9223372036854775807) (i0 : 0 ≤ i) (i1 : i ≤ 18446744073709551615) (n0 : 0 ≤ n) (n1 : n ≤ 18446744073709551615) (hw : what = 5) :
    Calls Try.prog 11 #[.pointer (some ⟨p, 0, none⟩), .agg #[.slice bo m bc, .int .i64 most], .agg #[.int .i64 what, .int .i64 k, .int .u64 i, .int .u64 n]] w fun e w' => ∃ p' bo' m' bc', e = .returned (.tuple #[.pointer (some ⟨p', 0, none⟩), .agg #[.slice bo' m' bc', .int .i64 most], .bool true]) ∧ Acted K p' most (popL l n) bo' m' bc' w w' := by
  have hm := h.m
  obtain ⟨u, hu⟩ : ∃ W, W = ((w.alloc (.cells #[.slice bo m bc, .int .i64 most] 36)).alloc (.cells #[.int .i64 what, .int .i64 k, .int .u64 i, .int .u64 n] 28)).alloc (.cells #[.slice none 0 0, .int .i64 0] 36) := ⟨_, rfl⟩
  obtain ⟨X, hX⟩ : ∃ X, X = w.heap.size := ⟨_, rfl⟩
  obtain ⟨hab, b1, hz⟩ := AB.start w (.slice bo m bc) most what k i n
  rw [← hu, ← hX] at hab
  rw [← hu] at b1 hz
  rw [← hX] at hz
  obtain ⟨K0, hK0⟩ : ∃ K0 : Nat → Prop, K0 = fun q => K q ∧ q < w.heap.size := ⟨_, rfl⟩
  have hts : TS K0 p most l u := by rw [hK0]; exact h.ts.old.below b1
  have hdr : DR (fun q => ¬ K0 q ∧ q < w.heap.size) u bo m bc l := by
    rw [hK0]
    exact (h.dr.keep (Nat.le_refl _) (fun q e hq => ⟨fun g => e g.1, hq⟩) fun _ _ _ => rfl : DR (fun q => ¬ (K q ∧ q < w.heap.size) ∧ q < w.heap.size) w bo m bc l).below b1
  have HKk : Hid (∀ q, K0 q → K q ∧ q < w.heap.size) := Lib.hid (by rw [hK0]; exact fun q e => e)
  have HUU := Lib.hid hu
  have EX := Lib.hid hX
  have HZ := Lib.hid hz
  have HAB := Lib.hid hab
  have B1 := Lib.hid b1
  have HTS := Lib.hid hts
  have HDR := Lib.hid hdr
  have HR := Lib.hid (And.intro (And.intro i0 i1) (And.intro n0 n1))
  have HRk := Lib.hid (And.intro k0 k1)
  obtain ⟨⟨c0, c1⟩, ⟨c2, c3, c4, c5⟩, c6, c7, c8⟩ := hab.cells
  have t0 : ((what : Int) == 0) = false := by simp [hw]
  have s0 : decide ((what : Int) = 0) = false := by simp [hw]
  have t1 : ((what : Int) == 1) = false := by simp [hw]
  have s1 : decide ((what : Int) = 1) = false := by simp [hw]
  have t2 : ((what : Int) == 2) = false := by simp [hw]
  have s2 : decide ((what : Int) = 2) = false := by simp [hw]
  have t3 : ((what : Int) == 3) = false := by simp [hw]
  have s3 : decide ((what : Int) = 3) = false := by simp [hw]
  have t4 : ((what : Int) == 4) = false := by simp [hw]
  have s4 : decide ((what : Int) = 4) = false := by simp [hw]
  have t5 : ((what : Int) == 5) = true := by simp [hw]
  have s5 : decide ((what : Int) = 5) = true := by simp [hw]
  clear hw
  clear hu hX hab b1 hz hts hdr hK0 h i0 i1 n0 n1 k0 k1
  go_enter Try.func11, Try.ntmps11
  go_upto_region 1 with fail
  rw [← HUU.out]
  try rw [← EX.out]
  go_wp2_with (go_at_call 29; fail)
  have hpop := refPop_any HDR.out (by omega) most n
  unfold rwV at hpop
  obtain ⟨rk, hrk⟩ : ∃ x, x = (popR l n).k := ⟨_, rfl⟩
  obtain ⟨ri, hri⟩ : ∃ x, x = (popR l n).i := ⟨_, rfl⟩
  obtain ⟨rd, hrd⟩ : ∃ x, x = (popR l n).d := ⟨_, rfl⟩
  obtain ⟨pi, hpi⟩ : ∃ x, x = popIs l n := ⟨_, rfl⟩
  rw [← hrk, ← hri, ← hrd, ← hpi] at hpop
  refine hpop.mono ?_
  rintro e v1 ⟨bo', m', bc', rfl, hd1, hb1⟩
  have HRK := Lib.hid hrk
  have HRI := Lib.hid hri
  have HRD := Lib.hid hrd
  have HPI := Lib.hid hpi
  have HB1 := Lib.hid hb1
  have HD1 := Lib.hid hd1
  have HAB1 := Lib.hid (HAB.out.below hb1)
  clear hpop hb1 hd1 hrk hri hrd hpi c0 c1 c2 c3 c4 c5 c6 c7 c8
  obtain ⟨⟨c0, c1⟩, ⟨c2, c3, c4, c5⟩, c6, c7, c8⟩ := HAB1.out.cells
  go_wp2_with (go_at_call 21; fail)
  obtain ⟨Y, hY⟩ : ∃ Y, Y = v1.heap.size := ⟨_, rfl⟩
  obtain ⟨v1b, hv1b⟩ : ∃ Q, Q = v1.alloc (.cells #[.slice bo' m' bc', .int .i64 most] 36) := ⟨_, rfl⟩
  obtain ⟨v2, hv2⟩ : ∃ Q, Q = v1b.alloc (.cells #[.int .i64 rk, .int .u64 ri, .int .u64 rd] 46) := ⟨_, rfl⟩
  have hz1b : v1b.heap.size = Y + 1 := by rw [hv1b, hY]; simp
  rw [← hv1b, ← hv2]
  try rw [← hY]
  have hb2 : Below v1.heap.size v1 v2 := by
    rw [hv2]
    exact (show Below v1.heap.size v1 v1b by rw [hv1b]; exact (Below.refl _ v1).alloc (Nat.le_refl _) _).alloc (by omega) _
  have hy0 : v2.heap[Y]? = some (.cells #[.slice bo' m' bc', .int .i64 most] 36 (0, 0)) := by rw [hv2]; exact alloc_blk (by rw [hv1b, hY]; exact alloc_blk_new _ _) _
  have hy1 : v2.heap[Y + 1]? = some (.cells #[.int .i64 rk, .int .u64 ri, .int .u64 rd] 46 (0, 0)) := by rw [hv2, ← hz1b]; exact alloc_blk_new _ _
  have hb12 : Below u.heap.size u v2 := HB1.out.trans (hb2.mono HB1.out.size)
  have hst := (HTS.out.below hb12).pop_any n
  rw [← HRK.out, ← HRI.out, ← HRD.out, ← HPI.out] at hst
  unfold tmV at hst
  refine hst.mono ?_
  rintro e v3 ⟨rfl, hT⟩
  have HAB3 := Lib.hid ((HAB1.out.below hb2).mod hT.mod fun q e => .inl (HKk.out q e).2)
  have HT := Lib.hid hT
  have HB12 := Lib.hid hb12
  have hn0 : ∀ q, w.heap.size ≤ q → ¬ K0 q := fun q hq e => by have := (HKk.out q e).2; omega
  have hsz : w.heap.size + 3 ≤ v1.heap.size := by have := HB1.out.size; have := HZ.out; have := EX.out; omega
  have HYY : Hid (w.heap.size + 3 ≤ Y ∧ Y + 1 < v2.heap.size) := Lib.hid ⟨by omega, blk_lt hy1⟩
  have HY03 := Lib.hid ((hT.mod.block Y (blk_lt hy0) (hn0 Y (by omega))).trans hy0)
  have HY13 := Lib.hid ((hT.mod.block (Y + 1) (blk_lt hy1) (hn0 _ (by omega))).trans hy1)
  have HD3 : Hid (DR (fun q => ¬ K0 q ∧ q < w.heap.size) v3 bo' m' bc' (popL l n)) := Lib.hid ((HD1.out.below hb2).keep hT.mod.size (fun q e _ => e) fun q e hq => hT.mod.block q hq e.1)
  clear hst hT hb2 hb12 hy0 hy1 hv1b hv2 hz1b hn0 hsz hY c0 c1 c2 c3 c4 c5 c6 c7 c8
  go_upto_region 17 with fail
  obtain ⟨Z, hZ⟩ : ∃ Z, Z = v3.heap.size := ⟨_, rfl⟩
  obtain ⟨v4, hv4⟩ : ∃ Q, Q = v3.alloc (.cells #[.int .i64 rk, .int .u64 ri] 26) := ⟨_, rfl⟩
  rw [← hv4]
  try rw [← hZ]
  have hb4 : Below v3.heap.size v3 v4 := by rw [hv4]; exact (Below.refl _ v3).alloc (Nat.le_refl _) _
  have hz4 : v4.heap[Z]? = some (.cells #[.int .i64 rk, .int .u64 ri] 26 (0, 0)) := by rw [hv4, hZ]; exact alloc_blk_new _ _
  have hwX := EX.out
  have HY0 : Hid ((Y < v4.heap.size ∧ Y ≠ X + 2) ∧ v4.heap[Y]? = some (.cells #[.slice bo' m' bc', .int .i64 most] 36 (0, 0))) := Lib.hid (by
    have h1 := (hb4.block Y (blk_lt HY03.out)).trans HY03.out
    exact ⟨⟨blk_lt h1, by have := HYY.out; omega⟩, h1⟩)
  have HY1 : Hid ((Y + 1 < v4.heap.size ∧ Y + 1 ≠ X + 2) ∧ v4.heap[Y + 1]? = some (.cells #[.int .i64 rk, .int .u64 ri, .int .u64 rd] 46 (0, 0))) := Lib.hid (by
    have h1 := (hb4.block (Y + 1) (blk_lt HY13.out)).trans HY13.out
    exact ⟨⟨blk_lt h1, by have := HYY.out; omega⟩, h1⟩)
  have HY2 : Hid ((Z < v4.heap.size ∧ Z ≠ X + 2) ∧ v4.heap[Z]? = some (.cells #[.int .i64 rk, .int .u64 ri] 26 (0, 0))) := Lib.hid ⟨⟨blk_lt hz4, by have := HYY.out; have := HT.out.mod.size; omega⟩, hz4⟩
  have HAB4 := Lib.hid (HAB3.out.below hb4)
  have HFIN : Hid (∀ z, Mod (fun q => q = X + 2) v4 z → Acted K p most (popL l n) bo' m' bc' w z) := Lib.hid fun z hz => by
    have hwz := HZ.out
    have hs1 := HB12.out.size
    have hs2 := HT.out.mod.size
    refine Acted.fin (T := X + 2) (by omega) (HT.out.st.below hb4) (fun q e => ?_) ?_ ?_ HAB4.out.b7 hz
    · rcases e with e | e
      · exact .inl (HKk.out q e).1
      · exact .inr ⟨by omega, Nat.lt_of_lt_of_le e.2 hb4.size⟩
    · refine (HD3.out.below hb4).keep (Nat.le_refl _) (fun q e hq => ⟨fun g => ?_, by omega⟩) (fun _ _ _ => rfl)
      rcases g with g | g
      · exact e.1 g
      · omega
    · exact ((Mod.of_below (B1.out.trans (HB12.out.mono B1.out.size)) K).trans HT.out.mod fun q _ e => (HKk.out q e).1).trans (Mod.of_below hb4 K) fun _ _ e => e
  have htm : tmEq rk ri rk ri = true := by unfold tmEq; simp
  have r1 : (rd == rd) = true := by simp
  have r2 : (pi == pi) = true := by simp
  clear hv4 hZ hb4 hz4 hwX
  obtain ⟨wd, hwd⟩ : ∃ W, W = (v4).drew := ⟨_, rfl⟩
  have HBd : Hid (Below (v4).heap.size (v4) wd) := Lib.hid (by rw [hwd]; exact Below.drewN' (v4) 1)
  have hS0 : (fun W : World => Mod (fun q => q = X + 2) v4 W ∧ (∃ a0 a1, W.heap[X + 2]? = some (.cells #[a0, a1] 36 (0, 0)))) wd := by rw [hwd]; exact ⟨(Mod.refl _ v4).drew, _, _, HAB4.out.b7⟩
  refine wp_region_held_drew (S := fun W => Mod (fun q => q = X + 2) v4 W ∧ (∃ a0 a1, W.heap[X + 2]? = some (.cells #[a0, a1] 36 (0, 0)))) (by kernel_rfl) (by rw [← hwd]; exact hS0) (fun hHeld => ?_)
  rw [← hwd] at hHeld ⊢
  clear hwd hS0
  refine' wpAnyH_take (i := 0) (oi := { dst := some 118, op := Op.move (Operand.tmp 0), type := 30, pos := "law.go:57", after := #[], guard := none }) (v := ?v236001) rfl (by kernel_rfl) (by kernel_rfl) (by kernel_rfl) (fun _ _ _ h => h) (.inl ⟨by first | rfl | simp [Region.wanted, yielded], ?hy236001⟩) (by assumption) ?rest236001
  case hy236001 => (intro W hW; obtain ⟨g1, g2⟩ := hW; have g9 := (g1.block Y HY0.out.1.1 HY0.out.1.2).trans HY0.out.2; have g8 := (g1.block (Y + 1) HY1.out.1.1 HY1.out.1.2).trans HY1.out.2; have g7 := (g1.block Z HY2.out.1.1 HY2.out.1.2).trans HY2.out.2; have f1 := cell_blk g9 0 _ rfl; have f2 := cell_blk g9 1 _ rfl; have f3 := blk_lt g9; have f4 := cell_blk g8 0 _ rfl; have f5 := cell_blk g8 1 _ rfl; have f6 := cell_blk g8 2 _ rfl; have f7 := blk_lt g8; have f8 := cell_blk g7 0 _ rfl; have f9 := cell_blk g7 1 _ rfl; have f10 := blk_lt g7; go_simp; try with_reducible rfl)
  simp only [Act.put, List.setIfInBounds_toArray, List.set_cons_zero, List.set_cons_succ]
  refine' wpAnyH_take (i := 1) (oi := { dst := some 119, op := Op.load 36 (Operand.tmp 20), type := 36, pos := "law.go:57", after := #[{ on := 17, ground := Ground.gcOnly Departure.lateStores }], guard := none }) (v := ?v236002) rfl (by kernel_rfl) (by kernel_rfl) (by kernel_rfl) (fun _ _ _ h => h) (.inl ⟨by first | rfl | simp [Region.wanted, yielded], ?hy236002⟩) (by assumption) ?rest236002
  case hy236002 => (intro W hW; obtain ⟨g1, g2⟩ := hW; have g9 := (g1.block Y HY0.out.1.1 HY0.out.1.2).trans HY0.out.2; have g8 := (g1.block (Y + 1) HY1.out.1.1 HY1.out.1.2).trans HY1.out.2; have g7 := (g1.block Z HY2.out.1.1 HY2.out.1.2).trans HY2.out.2; have f1 := cell_blk g9 0 _ rfl; have f2 := cell_blk g9 1 _ rfl; have f3 := blk_lt g9; have f4 := cell_blk g8 0 _ rfl; have f5 := cell_blk g8 1 _ rfl; have f6 := cell_blk g8 2 _ rfl; have f7 := blk_lt g8; have f8 := cell_blk g7 0 _ rfl; have f9 := cell_blk g7 1 _ rfl; have f10 := blk_lt g7; go_simp; try with_reducible rfl)
  simp only [Act.put, List.setIfInBounds_toArray, List.set_cons_zero, List.set_cons_succ]
  refine' wpAnyH_take (i := 2) (oi := { dst := some 120, op := Op.load 26 (Operand.tmp 23), type := 26, pos := "law.go:57", after := #[], guard := none }) (v := ?v236003) rfl (by kernel_rfl) (by kernel_rfl) (by kernel_rfl) (fun _ _ _ h => h) (.inl ⟨by first | rfl | simp [Region.wanted, yielded], ?hy236003⟩) (by assumption) ?rest236003
  case hy236003 => (intro W hW; obtain ⟨g1, g2⟩ := hW; have g9 := (g1.block Y HY0.out.1.1 HY0.out.1.2).trans HY0.out.2; have g8 := (g1.block (Y + 1) HY1.out.1.1 HY1.out.1.2).trans HY1.out.2; have g7 := (g1.block Z HY2.out.1.1 HY2.out.1.2).trans HY2.out.2; have f1 := cell_blk g9 0 _ rfl; have f2 := cell_blk g9 1 _ rfl; have f3 := blk_lt g9; have f4 := cell_blk g8 0 _ rfl; have f5 := cell_blk g8 1 _ rfl; have f6 := cell_blk g8 2 _ rfl; have f7 := blk_lt g8; have f8 := cell_blk g7 0 _ rfl; have f9 := cell_blk g7 1 _ rfl; have f10 := blk_lt g7; go_simp; try with_reducible rfl)
  simp only [Act.put, List.setIfInBounds_toArray, List.set_cons_zero, List.set_cons_succ]
  refine' wpAnyH_take (i := 3) (oi := { dst := some 121, op := Op.fieldAddr 46 (Operand.tmp 21) 0, type := 0, pos := "law.go:57", after := #[], guard := none }) (v := ?v236004) rfl (by kernel_rfl) (by kernel_rfl) (by kernel_rfl) (fun _ _ _ h => h) (.inl ⟨by first | rfl | simp [Region.wanted, yielded], ?hy236004⟩) (by assumption) ?rest236004
  case hy236004 => (intro W hW; obtain ⟨g1, g2⟩ := hW; have g9 := (g1.block Y HY0.out.1.1 HY0.out.1.2).trans HY0.out.2; have g8 := (g1.block (Y + 1) HY1.out.1.1 HY1.out.1.2).trans HY1.out.2; have g7 := (g1.block Z HY2.out.1.1 HY2.out.1.2).trans HY2.out.2; have f1 := cell_blk g9 0 _ rfl; have f2 := cell_blk g9 1 _ rfl; have f3 := blk_lt g9; have f4 := cell_blk g8 0 _ rfl; have f5 := cell_blk g8 1 _ rfl; have f6 := cell_blk g8 2 _ rfl; have f7 := blk_lt g8; have f8 := cell_blk g7 0 _ rfl; have f9 := cell_blk g7 1 _ rfl; have f10 := blk_lt g7; go_simp; try with_reducible rfl)
  simp only [Act.put, List.setIfInBounds_toArray, List.set_cons_zero, List.set_cons_succ]
  refine' wpAnyH_take (i := 4) (oi := { dst := some 122, op := Op.load 26 (Operand.tmp 121), type := 26, pos := "law.go:57", after := #[{ on := 3, ground := Ground.data }], guard := none }) (v := ?v236005) rfl (by kernel_rfl) (by kernel_rfl) (by kernel_rfl) (fun _ _ _ h => h) (.inl ⟨by first | rfl | simp [Region.wanted, yielded], ?hy236005⟩) (by assumption) ?rest236005
  case hy236005 => (intro W hW; obtain ⟨g1, g2⟩ := hW; have g9 := (g1.block Y HY0.out.1.1 HY0.out.1.2).trans HY0.out.2; have g8 := (g1.block (Y + 1) HY1.out.1.1 HY1.out.1.2).trans HY1.out.2; have g7 := (g1.block Z HY2.out.1.1 HY2.out.1.2).trans HY2.out.2; have f1 := cell_blk g9 0 _ rfl; have f2 := cell_blk g9 1 _ rfl; have f3 := blk_lt g9; have f4 := cell_blk g8 0 _ rfl; have f5 := cell_blk g8 1 _ rfl; have f6 := cell_blk g8 2 _ rfl; have f7 := blk_lt g8; have f8 := cell_blk g7 0 _ rfl; have f9 := cell_blk g7 1 _ rfl; have f10 := blk_lt g7; go_simp; try with_reducible rfl)
  simp only [Act.put, List.setIfInBounds_toArray, List.set_cons_zero, List.set_cons_succ]
  refine' wpAnyH_take (i := 5) (oi := { dst := some 123, op := Op.binOp BinOp.eql 26 (Operand.tmp 120) (Operand.tmp 122) 26, type := 4, pos := "law.go:57", after := #[{ on := 2, ground := Ground.data }, { on := 4, ground := Ground.data }], guard := none }) (v := ?v236006) rfl (by kernel_rfl) (by kernel_rfl) (by kernel_rfl) (fun _ _ _ h => h) (.inl ⟨by first | rfl | simp [Region.wanted, yielded], ?hy236006⟩) (by assumption) ?rest236006
  case hy236006 => (intro W hW; obtain ⟨g1, g2⟩ := hW; have g9 := (g1.block Y HY0.out.1.1 HY0.out.1.2).trans HY0.out.2; have g8 := (g1.block (Y + 1) HY1.out.1.1 HY1.out.1.2).trans HY1.out.2; have g7 := (g1.block Z HY2.out.1.1 HY2.out.1.2).trans HY2.out.2; have f1 := cell_blk g9 0 _ rfl; have f2 := cell_blk g9 1 _ rfl; have f3 := blk_lt g9; have f4 := cell_blk g8 0 _ rfl; have f5 := cell_blk g8 1 _ rfl; have f6 := cell_blk g8 2 _ rfl; have f7 := blk_lt g8; have f8 := cell_blk g7 0 _ rfl; have f9 := cell_blk g7 1 _ rfl; have f10 := blk_lt g7; go_simp; try with_reducible rfl)
  simp only [Act.put, List.setIfInBounds_toArray, List.set_cons_zero, List.set_cons_succ]
  refine' wpAnyH_take (i := 6) (oi := { dst := some 124, op := Op.move (Operand.tmp 123), type := 4, pos := "law.go:57", after := #[{ on := 5, ground := Ground.data }], guard := none }) (v := ?v236007) rfl (by kernel_rfl) (by kernel_rfl) (by kernel_rfl) (fun _ _ _ h => h) (.inl ⟨by first | rfl | simp [Region.wanted, yielded], ?hy236007⟩) (by assumption) ?rest236007
  case hy236007 => (intro W hW; obtain ⟨g1, g2⟩ := hW; have g9 := (g1.block Y HY0.out.1.1 HY0.out.1.2).trans HY0.out.2; have g8 := (g1.block (Y + 1) HY1.out.1.1 HY1.out.1.2).trans HY1.out.2; have g7 := (g1.block Z HY2.out.1.1 HY2.out.1.2).trans HY2.out.2; have f1 := cell_blk g9 0 _ rfl; have f2 := cell_blk g9 1 _ rfl; have f3 := blk_lt g9; have f4 := cell_blk g8 0 _ rfl; have f5 := cell_blk g8 1 _ rfl; have f6 := cell_blk g8 2 _ rfl; have f7 := blk_lt g8; have f8 := cell_blk g7 0 _ rfl; have f9 := cell_blk g7 1 _ rfl; have f10 := blk_lt g7; go_simp; try with_reducible rfl)
  simp only [Act.put, List.setIfInBounds_toArray, List.set_cons_zero, List.set_cons_succ]
  refine' wpAnyH_take (i := 7) (oi := { dst := some 125, op := Op.move (Operand.tmp 24), type := 24, pos := "law.go:57", after := #[{ on := 6, ground := Ground.guard }], guard := some (6, true) }) (v := ?v236008) rfl (by kernel_rfl) (by kernel_rfl) (by kernel_rfl) (fun _ _ _ h => h) (.inl ⟨by first | rfl | simp [Region.wanted, yielded], ?hy236008⟩) (by assumption) ?rest236008
  case hy236008 => (intro W hW; obtain ⟨g1, g2⟩ := hW; have g9 := (g1.block Y HY0.out.1.1 HY0.out.1.2).trans HY0.out.2; have g8 := (g1.block (Y + 1) HY1.out.1.1 HY1.out.1.2).trans HY1.out.2; have g7 := (g1.block Z HY2.out.1.1 HY2.out.1.2).trans HY2.out.2; have f1 := cell_blk g9 0 _ rfl; have f2 := cell_blk g9 1 _ rfl; have f3 := blk_lt g9; have f4 := cell_blk g8 0 _ rfl; have f5 := cell_blk g8 1 _ rfl; have f6 := cell_blk g8 2 _ rfl; have f7 := blk_lt g8; have f8 := cell_blk g7 0 _ rfl; have f9 := cell_blk g7 1 _ rfl; have f10 := blk_lt g7; go_simp; try with_reducible rfl)
  simp only [Act.put, List.setIfInBounds_toArray, List.set_cons_zero, List.set_cons_succ]
  refine' wpAnyH_take (i := 8) (oi := { dst := some 126, op := Op.fieldAddr 46 (Operand.tmp 21) 1, type := 0, pos := "law.go:57", after := #[{ on := 6, ground := Ground.guard }], guard := some (6, true) }) (v := ?v236009) rfl (by kernel_rfl) (by kernel_rfl) (by kernel_rfl) (fun _ _ _ h => h) (.inl ⟨by first | rfl | simp [Region.wanted, yielded], ?hy236009⟩) (by assumption) ?rest236009
  case hy236009 => (intro W hW; obtain ⟨g1, g2⟩ := hW; have g9 := (g1.block Y HY0.out.1.1 HY0.out.1.2).trans HY0.out.2; have g8 := (g1.block (Y + 1) HY1.out.1.1 HY1.out.1.2).trans HY1.out.2; have g7 := (g1.block Z HY2.out.1.1 HY2.out.1.2).trans HY2.out.2; have f1 := cell_blk g9 0 _ rfl; have f2 := cell_blk g9 1 _ rfl; have f3 := blk_lt g9; have f4 := cell_blk g8 0 _ rfl; have f5 := cell_blk g8 1 _ rfl; have f6 := cell_blk g8 2 _ rfl; have f7 := blk_lt g8; have f8 := cell_blk g7 0 _ rfl; have f9 := cell_blk g7 1 _ rfl; have f10 := blk_lt g7; go_simp; try with_reducible rfl)
  simp only [Act.put, List.setIfInBounds_toArray, List.set_cons_zero, List.set_cons_succ]
  refine' wpAnyH_take (i := 9) (oi := { dst := some 127, op := Op.load 24 (Operand.tmp 126), type := 24, pos := "law.go:57", after := #[{ on := 8, ground := Ground.data }, { on := 6, ground := Ground.guard }], guard := some (6, true) }) (v := ?v236010) rfl (by kernel_rfl) (by kernel_rfl) (by kernel_rfl) (fun _ _ _ h => h) (.inl ⟨by first | rfl | simp [Region.wanted, yielded], ?hy236010⟩) (by assumption) ?rest236010
  case hy236010 => (intro W hW; obtain ⟨g1, g2⟩ := hW; have g9 := (g1.block Y HY0.out.1.1 HY0.out.1.2).trans HY0.out.2; have g8 := (g1.block (Y + 1) HY1.out.1.1 HY1.out.1.2).trans HY1.out.2; have g7 := (g1.block Z HY2.out.1.1 HY2.out.1.2).trans HY2.out.2; have f1 := cell_blk g9 0 _ rfl; have f2 := cell_blk g9 1 _ rfl; have f3 := blk_lt g9; have f4 := cell_blk g8 0 _ rfl; have f5 := cell_blk g8 1 _ rfl; have f6 := cell_blk g8 2 _ rfl; have f7 := blk_lt g8; have f8 := cell_blk g7 0 _ rfl; have f9 := cell_blk g7 1 _ rfl; have f10 := blk_lt g7; go_simp; try with_reducible rfl)
  simp only [Act.put, List.setIfInBounds_toArray, List.set_cons_zero, List.set_cons_succ]
  refine' wpAnyH_take (i := 10) (oi := { dst := some 128, op := Op.binOp BinOp.eql 24 (Operand.tmp 125) (Operand.tmp 127) 24, type := 4, pos := "law.go:57", after := #[{ on := 7, ground := Ground.data }, { on := 9, ground := Ground.data }, { on := 6, ground := Ground.guard }], guard := some (6, true) }) (v := ?v236011) rfl (by kernel_rfl) (by kernel_rfl) (by kernel_rfl) (fun _ _ _ h => h) (.inl ⟨by first | rfl | simp [Region.wanted, yielded], ?hy236011⟩) (by assumption) ?rest236011
  case hy236011 => (intro W hW; obtain ⟨g1, g2⟩ := hW; have g9 := (g1.block Y HY0.out.1.1 HY0.out.1.2).trans HY0.out.2; have g8 := (g1.block (Y + 1) HY1.out.1.1 HY1.out.1.2).trans HY1.out.2; have g7 := (g1.block Z HY2.out.1.1 HY2.out.1.2).trans HY2.out.2; have f1 := cell_blk g9 0 _ rfl; have f2 := cell_blk g9 1 _ rfl; have f3 := blk_lt g9; have f4 := cell_blk g8 0 _ rfl; have f5 := cell_blk g8 1 _ rfl; have f6 := cell_blk g8 2 _ rfl; have f7 := blk_lt g8; have f8 := cell_blk g7 0 _ rfl; have f9 := cell_blk g7 1 _ rfl; have f10 := blk_lt g7; go_simp; try with_reducible rfl)
  simp only [Act.put, List.setIfInBounds_toArray, List.set_cons_zero, List.set_cons_succ]
  refine' wpAnyH_take (i := 11) (oi := { dst := some 129, op := Op.pick (Operand.tmp 124) (Operand.tmp 128) (Operand.const (Value.bool false)), type := 4, pos := "law.go:57", after := #[{ on := 6, ground := Ground.data }, { on := 10, ground := Ground.data }], guard := none }) (v := ?v236012) rfl (by kernel_rfl) (by kernel_rfl) (by kernel_rfl) (fun _ _ _ h => h) (.inl ⟨by first | rfl | simp [Region.wanted, yielded], ?hy236012⟩) (by assumption) ?rest236012
  case hy236012 => (intro W hW; obtain ⟨g1, g2⟩ := hW; have g9 := (g1.block Y HY0.out.1.1 HY0.out.1.2).trans HY0.out.2; have g8 := (g1.block (Y + 1) HY1.out.1.1 HY1.out.1.2).trans HY1.out.2; have g7 := (g1.block Z HY2.out.1.1 HY2.out.1.2).trans HY2.out.2; have f1 := cell_blk g9 0 _ rfl; have f2 := cell_blk g9 1 _ rfl; have f3 := blk_lt g9; have f4 := cell_blk g8 0 _ rfl; have f5 := cell_blk g8 1 _ rfl; have f6 := cell_blk g8 2 _ rfl; have f7 := blk_lt g8; have f8 := cell_blk g7 0 _ rfl; have f9 := cell_blk g7 1 _ rfl; have f10 := blk_lt g7; go_simp; try with_reducible rfl)
  simp only [Act.put, List.setIfInBounds_toArray, List.set_cons_zero, List.set_cons_succ]
  refine' wpAnyH_take (i := 12) (oi := { dst := some 130, op := Op.move (Operand.tmp 129), type := 4, pos := "law.go:57", after := #[{ on := 11, ground := Ground.data }, { on := 6, ground := Ground.chain }], guard := none }) (v := ?v236013) rfl (by kernel_rfl) (by kernel_rfl) (by kernel_rfl) (fun _ _ _ h => h) (.inl ⟨by first | rfl | simp [Region.wanted, yielded], ?hy236013⟩) (by assumption) ?rest236013
  case hy236013 => (intro W hW; obtain ⟨g1, g2⟩ := hW; have g9 := (g1.block Y HY0.out.1.1 HY0.out.1.2).trans HY0.out.2; have g8 := (g1.block (Y + 1) HY1.out.1.1 HY1.out.1.2).trans HY1.out.2; have g7 := (g1.block Z HY2.out.1.1 HY2.out.1.2).trans HY2.out.2; have f1 := cell_blk g9 0 _ rfl; have f2 := cell_blk g9 1 _ rfl; have f3 := blk_lt g9; have f4 := cell_blk g8 0 _ rfl; have f5 := cell_blk g8 1 _ rfl; have f6 := cell_blk g8 2 _ rfl; have f7 := blk_lt g8; have f8 := cell_blk g7 0 _ rfl; have f9 := cell_blk g7 1 _ rfl; have f10 := blk_lt g7; go_simp; try with_reducible rfl)
  simp only [Act.put, List.setIfInBounds_toArray, List.set_cons_zero, List.set_cons_succ]
  refine' wpAnyH_take (i := 13) (oi := { dst := some 131, op := Op.move (Operand.tmp 25), type := 4, pos := "law.go:57", after := #[{ on := 12, ground := Ground.guard }, { on := 18, ground := Ground.gcOnly Departure.lateStores }], guard := some (12, true) }) (v := ?v236014) rfl (by kernel_rfl) (by kernel_rfl) (by kernel_rfl) (fun _ _ _ h => h) (.inl ⟨by first | rfl | simp [Region.wanted, yielded], ?hy236014⟩) (by assumption) ?rest236014
  case hy236014 => (intro W hW; obtain ⟨g1, g2⟩ := hW; have g9 := (g1.block Y HY0.out.1.1 HY0.out.1.2).trans HY0.out.2; have g8 := (g1.block (Y + 1) HY1.out.1.1 HY1.out.1.2).trans HY1.out.2; have g7 := (g1.block Z HY2.out.1.1 HY2.out.1.2).trans HY2.out.2; have f1 := cell_blk g9 0 _ rfl; have f2 := cell_blk g9 1 _ rfl; have f3 := blk_lt g9; have f4 := cell_blk g8 0 _ rfl; have f5 := cell_blk g8 1 _ rfl; have f6 := cell_blk g8 2 _ rfl; have f7 := blk_lt g8; have f8 := cell_blk g7 0 _ rfl; have f9 := cell_blk g7 1 _ rfl; have f10 := blk_lt g7; go_simp; try with_reducible rfl)
  simp only [Act.put, List.setIfInBounds_toArray, List.set_cons_zero, List.set_cons_succ]
  refine' wpAnyH_take (i := 14) (oi := { dst := some 132, op := Op.move (Operand.tmp 22), type := 4, pos := "law.go:57", after := #[{ on := 12, ground := Ground.guard }, { on := 18, ground := Ground.gcOnly Departure.lateStores }], guard := some (12, true) }) (v := ?v236015) rfl (by kernel_rfl) (by kernel_rfl) (by kernel_rfl) (fun _ _ _ h => h) (.inl ⟨by first | rfl | simp [Region.wanted, yielded], ?hy236015⟩) (by assumption) ?rest236015
  case hy236015 => (intro W hW; obtain ⟨g1, g2⟩ := hW; have g9 := (g1.block Y HY0.out.1.1 HY0.out.1.2).trans HY0.out.2; have g8 := (g1.block (Y + 1) HY1.out.1.1 HY1.out.1.2).trans HY1.out.2; have g7 := (g1.block Z HY2.out.1.1 HY2.out.1.2).trans HY2.out.2; have f1 := cell_blk g9 0 _ rfl; have f2 := cell_blk g9 1 _ rfl; have f3 := blk_lt g9; have f4 := cell_blk g8 0 _ rfl; have f5 := cell_blk g8 1 _ rfl; have f6 := cell_blk g8 2 _ rfl; have f7 := blk_lt g8; have f8 := cell_blk g7 0 _ rfl; have f9 := cell_blk g7 1 _ rfl; have f10 := blk_lt g7; go_simp; try with_reducible rfl)
  simp only [Act.put, List.setIfInBounds_toArray, List.set_cons_zero, List.set_cons_succ]
  refine' wpAnyH_take (i := 15) (oi := { dst := some 133, op := Op.binOp BinOp.eql 4 (Operand.tmp 131) (Operand.tmp 132) 4, type := 4, pos := "law.go:57", after := #[{ on := 13, ground := Ground.data }, { on := 14, ground := Ground.data }, { on := 12, ground := Ground.guard }, { on := 18, ground := Ground.gcOnly Departure.lateStores }], guard := some (12, true) }) (v := ?v236016) rfl (by kernel_rfl) (by kernel_rfl) (by kernel_rfl) (fun _ _ _ h => h) (.inl ⟨by first | rfl | simp [Region.wanted, yielded], ?hy236016⟩) (by assumption) ?rest236016
  case hy236016 => (intro W hW; obtain ⟨g1, g2⟩ := hW; have g9 := (g1.block Y HY0.out.1.1 HY0.out.1.2).trans HY0.out.2; have g8 := (g1.block (Y + 1) HY1.out.1.1 HY1.out.1.2).trans HY1.out.2; have g7 := (g1.block Z HY2.out.1.1 HY2.out.1.2).trans HY2.out.2; have f1 := cell_blk g9 0 _ rfl; have f2 := cell_blk g9 1 _ rfl; have f3 := blk_lt g9; have f4 := cell_blk g8 0 _ rfl; have f5 := cell_blk g8 1 _ rfl; have f6 := cell_blk g8 2 _ rfl; have f7 := blk_lt g8; have f8 := cell_blk g7 0 _ rfl; have f9 := cell_blk g7 1 _ rfl; have f10 := blk_lt g7; go_simp; try with_reducible rfl)
  simp only [Act.put, List.setIfInBounds_toArray, List.set_cons_zero, List.set_cons_succ]
  refine' wpAnyH_take (i := 16) (oi := { dst := some 134, op := Op.pick (Operand.tmp 130) (Operand.tmp 133) (Operand.const (Value.bool false)), type := 4, pos := "law.go:57", after := #[{ on := 12, ground := Ground.data }, { on := 15, ground := Ground.data }, { on := 18, ground := Ground.gcOnly Departure.lateStores }], guard := none }) (v := ?v236017) rfl (by kernel_rfl) (by kernel_rfl) (by kernel_rfl) (fun _ _ _ h => h) (.inl ⟨by first | rfl | simp [Region.wanted, yielded], ?hy236017⟩) (by assumption) ?rest236017
  case hy236017 => (intro W hW; obtain ⟨g1, g2⟩ := hW; have g9 := (g1.block Y HY0.out.1.1 HY0.out.1.2).trans HY0.out.2; have g8 := (g1.block (Y + 1) HY1.out.1.1 HY1.out.1.2).trans HY1.out.2; have g7 := (g1.block Z HY2.out.1.1 HY2.out.1.2).trans HY2.out.2; have f1 := cell_blk g9 0 _ rfl; have f2 := cell_blk g9 1 _ rfl; have f3 := blk_lt g9; have f4 := cell_blk g8 0 _ rfl; have f5 := cell_blk g8 1 _ rfl; have f6 := cell_blk g8 2 _ rfl; have f7 := blk_lt g8; have f8 := cell_blk g7 0 _ rfl; have f9 := cell_blk g7 1 _ rfl; have f10 := blk_lt g7; go_simp; try with_reducible rfl)
  simp only [Act.put, List.setIfInBounds_toArray, List.set_cons_zero, List.set_cons_succ]
  refine' wpAnyH_take (i := 17) (oi := { dst := some 6, op := Op.assign (Operand.tmp 118), type := 30, pos := "law.go:57", after := #[{ on := 0, ground := Ground.data }, { on := 12, ground := Ground.chain }, { on := 0, ground := Ground.phase }, { on := 1, ground := Ground.textOnly Departure.lateStores }, { on := 2, ground := Ground.textOnly Departure.lateStores }, { on := 3, ground := Ground.textOnly Departure.lateStores }, { on := 4, ground := Ground.textOnly Departure.lateStores }, { on := 5, ground := Ground.textOnly Departure.lateStores }, { on := 6, ground := Ground.textOnly Departure.lateStores }, { on := 7, ground := Ground.textOnly Departure.lateStores }, { on := 8, ground := Ground.textOnly Departure.lateStores }, { on := 9, ground := Ground.textOnly Departure.lateStores }, { on := 10, ground := Ground.textOnly Departure.lateStores }, { on := 11, ground := Ground.textOnly Departure.lateStores }, { on := 12, ground := Ground.textOnly Departure.lateStores }, { on := 13, ground := Ground.textOnly Departure.lateStores }, { on := 14, ground := Ground.textOnly Departure.lateStores }, { on := 15, ground := Ground.textOnly Departure.lateStores }, { on := 16, ground := Ground.textOnly Departure.lateStores }], guard := none }) (v := ?v236018) rfl (by kernel_rfl) (by kernel_rfl) (by kernel_rfl) (fun _ _ _ h => h) (.inl ⟨by first | rfl | simp [Region.wanted, yielded], ?hy236018⟩) (by assumption) ?rest236018
  case hy236018 => (intro W hW; obtain ⟨g1, g2⟩ := hW; have g9 := (g1.block Y HY0.out.1.1 HY0.out.1.2).trans HY0.out.2; have g8 := (g1.block (Y + 1) HY1.out.1.1 HY1.out.1.2).trans HY1.out.2; have g7 := (g1.block Z HY2.out.1.1 HY2.out.1.2).trans HY2.out.2; have f1 := cell_blk g9 0 _ rfl; have f2 := cell_blk g9 1 _ rfl; have f3 := blk_lt g9; have f4 := cell_blk g8 0 _ rfl; have f5 := cell_blk g8 1 _ rfl; have f6 := cell_blk g8 2 _ rfl; have f7 := blk_lt g8; have f8 := cell_blk g7 0 _ rfl; have f9 := cell_blk g7 1 _ rfl; have f10 := blk_lt g7; go_simp; try with_reducible rfl)
  simp only [Act.put, List.setIfInBounds_toArray, List.set_cons_zero, List.set_cons_succ]
  refine wpAnyH_ready (rs := [18]) (by kernel_rfl) (by simp) ?_
  refine AllReadyH.cons (o := { dst := none, op := Op.store 36 (Operand.tmp 7) (Operand.tmp 119), type := 0, pos := "law.go:57", after := #[{ on := 1, ground := Ground.data }, { on := 17, ground := Ground.chain }, { on := 0, ground := Ground.phase }, { on := 1, ground := Ground.phase }, { on := 2, ground := Ground.textOnly Departure.lateStores }, { on := 3, ground := Ground.textOnly Departure.lateStores }, { on := 4, ground := Ground.textOnly Departure.lateStores }, { on := 5, ground := Ground.textOnly Departure.lateStores }, { on := 6, ground := Ground.textOnly Departure.lateStores }, { on := 7, ground := Ground.textOnly Departure.lateStores }, { on := 8, ground := Ground.textOnly Departure.lateStores }, { on := 9, ground := Ground.textOnly Departure.lateStores }, { on := 10, ground := Ground.textOnly Departure.lateStores }, { on := 11, ground := Ground.textOnly Departure.lateStores }, { on := 12, ground := Ground.textOnly Departure.lateStores }, { on := 13, ground := Ground.textOnly Departure.lateStores }, { on := 14, ground := Ground.textOnly Departure.lateStores }, { on := 15, ground := Ground.textOnly Departure.lateStores }, { on := 16, ground := Ground.textOnly Departure.lateStores }, { on := 17, ground := Ground.phase }], guard := none }) rfl (fun KK hK => ?_) (AllReadyH.nil)
  try simp only [List.getElem_toArray, List.getElem_cons_succ, List.getElem_cons_zero]
  obtain ⟨g1, a0, a1, g2⟩ := hHeld
  have e0 := cell_blk g2 0 _ rfl
  have e1 := cell_blk g2 1 _ rfl
  have e2 := blk_lt g2
  have e3 := frozen_blk g2 0
  have e4 := frozen_blk g2 1
  go_simp
  obtain ⟨zz, hzz⟩ : ∃ Q, Q = (wd.setCell ⟨X + 2, 0, none⟩ (.slice bo' m' bc')).setCell ⟨X + 2, 1, none⟩ (.int .i64 most) := ⟨_, rfl⟩
  rw [← hzz]
  have hb7 : zz.heap[X + 2]? = some (.cells #[(.slice bo' m' bc'), .int .i64 most] 36 (0, 0)) := by rw [hzz]; exact setCell_blk (setCell_blk g2 0 _) 1 _
  have hHeldz : (fun W : World => Mod (fun q => q = X + 2) v4 W ∧ (∃ a0 a1, W.heap[X + 2]? = some (.cells #[a0, a1] 36 (0, 0)))) zz := ⟨by rw [hzz]; exact (g1.setCell ⟨X + 2, 0, none⟩ (.inl rfl) _).setCell ⟨X + 2, 1, none⟩ (.inl rfl) _, _, _, hb7⟩
  have HB7 := Lib.hid hb7
  have HMz := Lib.hid hHeldz.1
  clear e0 e1 e2 e3 e4 hzz hb7
  refine hK.out _ _ (by assumption) (fun hHeld => ?_)
  clear hK KK
  try simp only [Act.put, List.setIfInBounds_toArray, List.set_cons_zero, List.set_cons_succ]
  refine' wpAnyH_take (i := 19) (oi := { dst := some 8, op := Op.assign (Operand.tmp 134), type := 4, pos := "law.go:57", after := #[{ on := 16, ground := Ground.data }, { on := 18, ground := Ground.chain }, { on := 0, ground := Ground.phase }, { on := 1, ground := Ground.phase }, { on := 2, ground := Ground.phase }, { on := 3, ground := Ground.phase }, { on := 4, ground := Ground.phase }, { on := 5, ground := Ground.phase }, { on := 6, ground := Ground.phase }, { on := 7, ground := Ground.phase }, { on := 8, ground := Ground.phase }, { on := 9, ground := Ground.phase }, { on := 10, ground := Ground.phase }, { on := 11, ground := Ground.phase }, { on := 12, ground := Ground.phase }, { on := 13, ground := Ground.phase }, { on := 14, ground := Ground.phase }, { on := 15, ground := Ground.phase }, { on := 16, ground := Ground.phase }, { on := 17, ground := Ground.phase }, { on := 18, ground := Ground.phase }], guard := none }) (v := ?v236019) rfl (by kernel_rfl) (by kernel_rfl) (by kernel_rfl) (fun _ _ _ h => h) (.inl ⟨by first | rfl | simp [Region.wanted, yielded], ?hy236019⟩) (by assumption) ?rest236019
  case hy236019 => (intro W hW; obtain ⟨g1, g2⟩ := hW; have g9 := (g1.block Y HY0.out.1.1 HY0.out.1.2).trans HY0.out.2; have g8 := (g1.block (Y + 1) HY1.out.1.1 HY1.out.1.2).trans HY1.out.2; have g7 := (g1.block Z HY2.out.1.1 HY2.out.1.2).trans HY2.out.2; have f1 := cell_blk g9 0 _ rfl; have f2 := cell_blk g9 1 _ rfl; have f3 := blk_lt g9; have f4 := cell_blk g8 0 _ rfl; have f5 := cell_blk g8 1 _ rfl; have f6 := cell_blk g8 2 _ rfl; have f7 := blk_lt g8; have f8 := cell_blk g7 0 _ rfl; have f9 := cell_blk g7 1 _ rfl; have f10 := blk_lt g7; go_simp; try with_reducible rfl)
  simp only [Act.put, List.setIfInBounds_toArray, List.set_cons_zero, List.set_cons_succ]
  refine wpAnyH_done (by kernel_rfl) ?_ _
  clear hHeldz
  go_wp2
  have z0 := cell_blk HB7.out 0 _ rfl
  have z1 := cell_blk HB7.out 1 _ rfl
  refine bodyPost_ret (v := .tuple #[.pointer (some ⟨p, 0, none⟩), .agg #[.slice bo' m' bc', .int .i64 most], .bool true]) (by simp [results, Try.f11, go_sem, z0, z1]) rfl ⟨p, bo', m', bc', rfl, ?_⟩
  exact HFIN.out _ HMz.out
end
end Go.Proofs.Ytnmbhcekcdicnaa
