/-
  act: Set.
-/
import Derived.Test.YtnmbhcekcdicnaaZa
namespace Go.Proofs.Ytnmbhcekcdicnaa
open Go.RowKit
set_option linter.unusedVariables false
set_option linter.unusedSimpArgs false

attribute [local go_sem high] eql26 neq26
section
variable {K : Nat → Prop} {p : Nat} {most : Int} {l : List Rw} {bo : Option Addr} {m bc : Nat} {w : World}
set_option maxHeartbeats 6400000
set_option maxRecDepth 100000
theorem act_set1 (h : AS K p most l bo m bc w) (what k i n : Int) (k0 : -9223372036854775808 ≤ k) (k1 : k ≤ 9223372036854775807) (i0 : 0 ≤ i) (i1 : i ≤ 18446744073709551615) (n0 : 0 ≤ n) (n1 : n ≤ 18446744073709551615) (hw : what = 1) :
    Calls Try.prog 11 #[.pointer (some ⟨p, 0, none⟩), .agg #[.slice bo m bc, .int .i64 most], .agg #[.int .i64 what, .int .i64 k, .int .u64 i, .int .u64 n]] w fun e w' => ∃ p' bo' m' bc', e = .returned (.tuple #[.pointer (some ⟨p', 0, none⟩), .agg #[.slice bo' m' bc', .int .i64 most], .bool true]) ∧ Acted K p' most (setL most l k i n) bo' m' bc' w w' := by
  have HNum := Lib.hid num13
  have hm := h.m
  obtain ⟨u, hu⟩ : ∃ W, W = ((w.alloc (.cells #[.slice bo m bc, .int .i64 most] 36)).alloc (.cells #[.int .i64 what, .int .i64 k, .int .u64 i, .int .u64 n] 28)).alloc (.cells #[.slice none 0 0, .int .i64 0] 36) := ⟨_, rfl⟩
  obtain ⟨X, hX⟩ : ∃ X, X = w.heap.size := ⟨_, rfl⟩
  obtain ⟨hab, b1, hz⟩ := AB.start w (.slice bo m bc) most what k i n
  rw [← hu, ← hX] at hab
  rw [← hu] at b1 hz
  rw [← hX] at hz
  obtain ⟨K0, hK0⟩ : ∃ K0 : Nat → Prop, K0 = fun q => K q ∧ q < w.heap.size := ⟨_, rfl⟩
  have hts : TS K0 p most l u := by rw [hK0]; exact h.ts.old.below b1
  have hdr : DR (fun q => ¬ K0 q ∧ q < w.heap.size) u bo m bc l := by
    rw [hK0]
    exact (h.dr.keep (Nat.le_refl _) (fun q e hq => ⟨fun g => e g.1, hq⟩) fun _ _ _ => rfl : DR (fun q => ¬ (K q ∧ q < w.heap.size) ∧ q < w.heap.size) w bo m bc l).below b1
  have HKk : Hid (∀ q, K0 q → K q ∧ q < w.heap.size) := Lib.hid (by rw [hK0]; exact fun q e => e)
  have HUU := Lib.hid hu
  have EX := Lib.hid hX
  have HZ := Lib.hid hz
  have HAB := Lib.hid hab
  have B1 := Lib.hid b1
  have HTS := Lib.hid hts
  have HDR := Lib.hid hdr
  have HR := Lib.hid (And.intro (And.intro i0 i1) (And.intro n0 n1))
  have HRk := Lib.hid (And.intro k0 k1)
  obtain ⟨⟨c0, c1⟩, ⟨c2, c3, c4, c5⟩, c6, c7, c8⟩ := hab.cells
  have t0 : ((what : Int) == 0) = false := by simp [hw]
  have s0 : decide ((what : Int) = 0) = false := by simp [hw]
  have t1 : ((what : Int) == 1) = true := by simp [hw]
  have s1 : decide ((what : Int) = 1) = true := by simp [hw]
  clear hw
  clear hu hX hab b1 hz hts hdr hK0 h i0 i1 n0 n1 k0 k1
  go_enter Try.func11, Try.ntmps11
  go_upto_region 1 with fail
  rw [← HUU.out]
  try rw [← EX.out]
  go_wp2_with (go_at_call 26; fail)
  have hset := refSet_any HDR.out (by omega) most k i n
  obtain ⟨sw, hsw⟩ : ∃ x, x = setWas most l k i := ⟨_, rfl⟩
  obtain ⟨sh, hsh⟩ : ∃ x, x = setHad most l k i := ⟨_, rfl⟩
  obtain ⟨se, hse⟩ : ∃ x, x = setErr most l k i := ⟨_, rfl⟩
  rw [← hsw, ← hsh, ← hse] at hset
  unfold tmV at hset
  refine hset.mono ?_
  rintro e v1 ⟨bo', m', bc', rfl, hd1, hb1⟩
  have HD1 := Lib.hid hd1
  have HB1 := Lib.hid hb1
  have HAB1 := Lib.hid (HAB.out.below hb1)
  have HSW := Lib.hid hsw
  have HSH := Lib.hid hsh
  have HSE := Lib.hid hse
  clear hset hd1 hb1 c0 c1 c2 c3 c4 c5 c6 c7 c8 hsw hsh hse
  obtain ⟨⟨c0, c1⟩, ⟨c2, c3, c4, c5⟩, c6, c7, c8⟩ := HAB1.out.cells
  go_wp2_with (go_at_call 18; fail)
  obtain ⟨Y, hY⟩ : ∃ Y, Y = v1.heap.size := ⟨_, rfl⟩
  obtain ⟨v2, hv2⟩ : ∃ Q, Q = v1.alloc (.cells #[.slice bo' m' bc', .int .i64 most] 36) := ⟨_, rfl⟩
  rw [← hY, ← hv2]
  have hb2 : Below v1.heap.size v1 v2 := by rw [hv2]; exact (Below.refl _ v1).alloc (Nat.le_refl _) _
  have hy2 : v2.heap[Y]? = some (.cells #[.slice bo' m' bc', .int .i64 most] 36 (0, 0)) := by rw [hv2, hY]; exact alloc_blk_new _ _
  have hb12 : Below u.heap.size u v2 := HB1.out.trans (hb2.mono HB1.out.size)
  have hts2 := HTS.out.below hb12
  have hst := hts2.set_all (k := k) (i := i) (d := n) HR.out.1.1 HR.out.1.2 HR.out.2.1 HR.out.2.2
  rw [← HSW.out, ← HSH.out, ← HSE.out] at hst
  unfold tmV at hst
  refine hst.mono ?_
  rintro e v3 ⟨rfl, hT⟩
  have hn0 : ∀ q, w.heap.size ≤ q → ¬ K0 q := fun q hq e => by have := (HKk.out q e).2; omega
  have hsz : w.heap.size + 3 ≤ v1.heap.size := by have := HB1.out.size; have := HZ.out; have := EX.out; omega
  have HYL : Hid (Y < v3.heap.size ∧ Y ≠ X + 2) := Lib.hid ⟨Nat.lt_of_lt_of_le (blk_lt hy2) hT.mod.size, by have := EX.out; omega⟩
  have HY3 : Hid (v3.heap[Y]? = some (.cells #[.slice bo' m' bc', .int .i64 most] 36 (0, 0))) := Lib.hid ((hT.mod.block Y (blk_lt hy2) (hn0 Y (by omega))).trans hy2)
  have HAB3 := Lib.hid ((HAB1.out.below hb2).mod hT.mod fun q e => .inl (HKk.out q e).2)
  have HFIN : Hid (∀ z, Mod (fun q => q = X + 2) v3 z → Acted K p most (setL most l k i n) bo' m' bc' w z) := Lib.hid fun z hz => by
    have hwX := EX.out
    refine Acted.fin (T := X + 2) (by omega) hT.st (fun q e => ?_) ?_ ?_ HAB3.out.b7 hz
    · rcases e with e | e
      · exact .inl (HKk.out q e).1
      · exact .inr ⟨by have := B1.out.size; have := hb12.size; omega, e.2⟩
    · refine (HD1.out.below hb2).keep hT.mod.size (fun q e hq => ?_) (fun q e hq => hT.mod.block q hq ?_)
      · rcases e with e | e
        · exact ⟨fun g => by
            rcases g with g | g
            · exact e.1.1 g
            · omega, by have := e.1.2; omega⟩
        · exact ⟨fun g => by
            rcases g with g | g
            · exact hn0 q (by have := HZ.out; omega) g
            · omega, by have := HZ.out; omega⟩
      · rcases e with e | e
        · exact e.1.1
        · exact hn0 q (by have := HZ.out; omega)
    · exact ((Mod.of_below (B1.out.trans (hb12.mono B1.out.size)) K).trans hT.mod fun q _ e => (HKk.out q e).1)
  clear hst hT hts2 hb2 hb12 hy2 hY hv2 hn0 hsz c0 c1 c2 c3 c4 c5 c6 c7 c8
  obtain ⟨⟨c0, c1⟩, ⟨c2, c3, c4, c5⟩, c6, c7, c8⟩ := HAB3.out.cells
  go_upto_region 8 with fail
  obtain ⟨wd, hwd⟩ : ∃ W, W = (v3).drew := ⟨_, rfl⟩
  have HBd : Hid (Below (v3).heap.size (v3) wd) := Lib.hid (by rw [hwd]; exact Below.drewN' (v3) 1)
  have hS0 : (fun W : World => Mod (fun q => q = X + 2) v3 W ∧ (∃ a0 a1, W.heap[X + 2]? = some (.cells #[a0, a1] 36 (0, 0)))) wd := by rw [hwd]; exact ⟨(Mod.refl _ v3).drew, _, _, HAB3.out.b7⟩
  refine wp_region_held_drew (S := fun W => Mod (fun q => q = X + 2) v3 W ∧ (∃ a0 a1, W.heap[X + 2]? = some (.cells #[a0, a1] 36 (0, 0)))) (by kernel_rfl) (by rw [← hwd]; exact hS0) (fun hHeld => ?_)
  rw [← hwd] at hHeld ⊢
  clear hwd hS0
  refine' wpAnyH_take (i := 0) (oi := { dst := some 54, op := Op.move (Operand.tmp 0), type := 30, pos := "law.go:49", after := #[], guard := none }) (v := ?v202001) rfl (by kernel_rfl) (by kernel_rfl) (by kernel_rfl) (fun _ _ _ h => h) (.inl ⟨by first | rfl | simp [Region.wanted, yielded], ?hy202001⟩) (by assumption) ?rest202001
  case hy202001 => (intro W hW; obtain ⟨g1, g2⟩ := hW; have g9 := (g1.block Y HYL.out.1 HYL.out.2).trans HY3.out; have f1 := cell_blk g9 0 _ rfl; have f2 := cell_blk g9 1 _ rfl; have f3 := blk_lt g9; go_simp; try with_reducible rfl)
  simp only [Act.put, List.setIfInBounds_toArray, List.set_cons_zero, List.set_cons_succ]
  refine' wpAnyH_take (i := 1) (oi := { dst := some 55, op := Op.load 36 (Operand.tmp 9), type := 36, pos := "law.go:49", after := #[{ on := 16, ground := Ground.gcOnly Departure.lateStores }], guard := none }) (v := ?v202002) rfl (by kernel_rfl) (by kernel_rfl) (by kernel_rfl) (fun _ _ _ h => h) (.inl ⟨by first | rfl | simp [Region.wanted, yielded], ?hy202002⟩) (by assumption) ?rest202002
  case hy202002 => (intro W hW; obtain ⟨g1, g2⟩ := hW; have g9 := (g1.block Y HYL.out.1 HYL.out.2).trans HY3.out; have f1 := cell_blk g9 0 _ rfl; have f2 := cell_blk g9 1 _ rfl; have f3 := blk_lt g9; go_simp; try with_reducible rfl)
  simp only [Act.put, List.setIfInBounds_toArray, List.set_cons_zero, List.set_cons_succ]
  refine' wpAnyH_take (i := 2) (oi := { dst := some 56, op := Op.move (Operand.tmp 13), type := 24, pos := "law.go:49", after := #[], guard := none }) (v := ?v202003) rfl (by kernel_rfl) (by kernel_rfl) (by kernel_rfl) (fun _ _ _ h => h) (.inl ⟨by first | rfl | simp [Region.wanted, yielded], ?hy202003⟩) (by assumption) ?rest202003
  case hy202003 => (intro W hW; obtain ⟨g1, g2⟩ := hW; have g9 := (g1.block Y HYL.out.1 HYL.out.2).trans HY3.out; have f1 := cell_blk g9 0 _ rfl; have f2 := cell_blk g9 1 _ rfl; have f3 := blk_lt g9; go_simp; try with_reducible rfl)
  simp only [Act.put, List.setIfInBounds_toArray, List.set_cons_zero, List.set_cons_succ]
  refine' wpAnyH_take (i := 3) (oi := { dst := some 57, op := Op.move (Operand.tmp 10), type := 24, pos := "law.go:49", after := #[], guard := none }) (v := ?v202004) rfl (by kernel_rfl) (by kernel_rfl) (by kernel_rfl) (fun _ _ _ h => h) (.inl ⟨by first | rfl | simp [Region.wanted, yielded], ?hy202004⟩) (by assumption) ?rest202004
  case hy202004 => (intro W hW; obtain ⟨g1, g2⟩ := hW; have g9 := (g1.block Y HYL.out.1 HYL.out.2).trans HY3.out; have f1 := cell_blk g9 0 _ rfl; have f2 := cell_blk g9 1 _ rfl; have f3 := blk_lt g9; go_simp; try with_reducible rfl)
  simp only [Act.put, List.setIfInBounds_toArray, List.set_cons_zero, List.set_cons_succ]
  refine' wpAnyH_take (i := 4) (oi := { dst := some 58, op := Op.binOp BinOp.eql 24 (Operand.tmp 56) (Operand.tmp 57) 24, type := 4, pos := "law.go:49", after := #[{ on := 2, ground := Ground.data }, { on := 3, ground := Ground.data }], guard := none }) (v := ?v202005) rfl (by kernel_rfl) (by kernel_rfl) (by kernel_rfl) (fun _ _ _ h => h) (.inl ⟨by first | rfl | simp [Region.wanted, yielded], ?hy202005⟩) (by assumption) ?rest202005
  case hy202005 => (intro W hW; obtain ⟨g1, g2⟩ := hW; have g9 := (g1.block Y HYL.out.1 HYL.out.2).trans HY3.out; have f1 := cell_blk g9 0 _ rfl; have f2 := cell_blk g9 1 _ rfl; have f3 := blk_lt g9; go_simp; try with_reducible rfl)
  simp only [Act.put, List.setIfInBounds_toArray, List.set_cons_zero, List.set_cons_succ]
  refine' wpAnyH_take (i := 5) (oi := { dst := some 59, op := Op.move (Operand.tmp 58), type := 4, pos := "law.go:49", after := #[{ on := 4, ground := Ground.data }], guard := none }) (v := ?v202006) rfl (by kernel_rfl) (by kernel_rfl) (by kernel_rfl) (fun _ _ _ h => h) (.inl ⟨by first | rfl | simp [Region.wanted, yielded], ?hy202006⟩) (by assumption) ?rest202006
  case hy202006 => (intro W hW; obtain ⟨g1, g2⟩ := hW; have g9 := (g1.block Y HYL.out.1 HYL.out.2).trans HY3.out; have f1 := cell_blk g9 0 _ rfl; have f2 := cell_blk g9 1 _ rfl; have f3 := blk_lt g9; go_simp; try with_reducible rfl)
  simp only [Act.put, List.setIfInBounds_toArray, List.set_cons_zero, List.set_cons_succ]
  refine' wpAnyH_take (i := 6) (oi := { dst := some 60, op := Op.move (Operand.tmp 14), type := 4, pos := "law.go:49", after := #[{ on := 5, ground := Ground.guard }], guard := some (5, true) }) (v := ?v202007) rfl (by kernel_rfl) (by kernel_rfl) (by kernel_rfl) (fun _ _ _ h => h) (.inl ⟨by first | rfl | simp [Region.wanted, yielded], ?hy202007⟩) (by assumption) ?rest202007
  case hy202007 => (intro W hW; obtain ⟨g1, g2⟩ := hW; have g9 := (g1.block Y HYL.out.1 HYL.out.2).trans HY3.out; have f1 := cell_blk g9 0 _ rfl; have f2 := cell_blk g9 1 _ rfl; have f3 := blk_lt g9; go_simp; try with_reducible rfl)
  simp only [Act.put, List.setIfInBounds_toArray, List.set_cons_zero, List.set_cons_succ]
  refine' wpAnyH_take (i := 7) (oi := { dst := some 61, op := Op.move (Operand.tmp 11), type := 4, pos := "law.go:49", after := #[{ on := 5, ground := Ground.guard }], guard := some (5, true) }) (v := ?v202008) rfl (by kernel_rfl) (by kernel_rfl) (by kernel_rfl) (fun _ _ _ h => h) (.inl ⟨by first | rfl | simp [Region.wanted, yielded], ?hy202008⟩) (by assumption) ?rest202008
  case hy202008 => (intro W hW; obtain ⟨g1, g2⟩ := hW; have g9 := (g1.block Y HYL.out.1 HYL.out.2).trans HY3.out; have f1 := cell_blk g9 0 _ rfl; have f2 := cell_blk g9 1 _ rfl; have f3 := blk_lt g9; go_simp; try with_reducible rfl)
  simp only [Act.put, List.setIfInBounds_toArray, List.set_cons_zero, List.set_cons_succ]
  refine' wpAnyH_take (i := 8) (oi := { dst := some 62, op := Op.binOp BinOp.eql 4 (Operand.tmp 60) (Operand.tmp 61) 4, type := 4, pos := "law.go:49", after := #[{ on := 6, ground := Ground.data }, { on := 7, ground := Ground.data }, { on := 5, ground := Ground.guard }], guard := some (5, true) }) (v := ?v202009) rfl (by kernel_rfl) (by kernel_rfl) (by kernel_rfl) (fun _ _ _ h => h) (.inl ⟨by first | rfl | simp [Region.wanted, yielded], ?hy202009⟩) (by assumption) ?rest202009
  case hy202009 => (intro W hW; obtain ⟨g1, g2⟩ := hW; have g9 := (g1.block Y HYL.out.1 HYL.out.2).trans HY3.out; have f1 := cell_blk g9 0 _ rfl; have f2 := cell_blk g9 1 _ rfl; have f3 := blk_lt g9; go_simp; try with_reducible rfl)
  simp only [Act.put, List.setIfInBounds_toArray, List.set_cons_zero, List.set_cons_succ]
  refine' wpAnyH_take (i := 9) (oi := { dst := some 63, op := Op.pick (Operand.tmp 59) (Operand.tmp 62) (Operand.const (Value.bool false)), type := 4, pos := "law.go:49", after := #[{ on := 5, ground := Ground.data }, { on := 8, ground := Ground.data }], guard := none }) (v := ?v202010) rfl (by kernel_rfl) (by kernel_rfl) (by kernel_rfl) (fun _ _ _ h => h) (.inl ⟨by first | rfl | simp [Region.wanted, yielded], ?hy202010⟩) (by assumption) ?rest202010
  case hy202010 => (intro W hW; obtain ⟨g1, g2⟩ := hW; have g9 := (g1.block Y HYL.out.1 HYL.out.2).trans HY3.out; have f1 := cell_blk g9 0 _ rfl; have f2 := cell_blk g9 1 _ rfl; have f3 := blk_lt g9; go_simp; try with_reducible rfl)
  simp only [Act.put, List.setIfInBounds_toArray, List.set_cons_zero, List.set_cons_succ]
  refine' wpAnyH_take (i := 10) (oi := { dst := some 64, op := Op.move (Operand.tmp 63), type := 4, pos := "law.go:49", after := #[{ on := 9, ground := Ground.data }, { on := 5, ground := Ground.chain }], guard := none }) (v := ?v202011) rfl (by kernel_rfl) (by kernel_rfl) (by kernel_rfl) (fun _ _ _ h => h) (.inl ⟨by first | rfl | simp [Region.wanted, yielded], ?hy202011⟩) (by assumption) ?rest202011
  case hy202011 => (intro W hW; obtain ⟨g1, g2⟩ := hW; have g9 := (g1.block Y HYL.out.1 HYL.out.2).trans HY3.out; have f1 := cell_blk g9 0 _ rfl; have f2 := cell_blk g9 1 _ rfl; have f3 := blk_lt g9; go_simp; try with_reducible rfl)
  simp only [Act.put, List.setIfInBounds_toArray, List.set_cons_zero, List.set_cons_succ]
  refine' wpAnyH_take (i := 11) (oi := { dst := some 65, op := Op.move (Operand.tmp 15), type := 31, pos := "law.go:49", after := #[{ on := 10, ground := Ground.guard }], guard := some (10, true) }) (v := ?v202012) rfl (by kernel_rfl) (by kernel_rfl) (by kernel_rfl) (fun _ _ _ h => h) (.inl ⟨by first | rfl | simp [Region.wanted, yielded], ?hy202012⟩) (by assumption) ?rest202012
  case hy202012 => (intro W hW; obtain ⟨g1, g2⟩ := hW; have g9 := (g1.block Y HYL.out.1 HYL.out.2).trans HY3.out; have f1 := cell_blk g9 0 _ rfl; have f2 := cell_blk g9 1 _ rfl; have f3 := blk_lt g9; go_simp; try with_reducible rfl)
  simp only [Act.put, List.setIfInBounds_toArray, List.set_cons_zero, List.set_cons_succ]
  refine' wpAnyH_take (i := 13) (oi := { dst := some 67, op := Op.move (Operand.tmp 12), type := 3, pos := "law.go:49", after := #[{ on := 10, ground := Ground.guard }, { on := 17, ground := Ground.gcOnly Departure.lateStores }], guard := some (10, true) }) (v := ?v202013) rfl (by kernel_rfl) (by kernel_rfl) (by kernel_rfl) (fun _ _ _ h => h) (.inl ⟨by first | rfl | simp [Region.wanted, yielded], ?hy202013⟩) (by assumption) ?rest202013
  case hy202013 => (intro W hW; obtain ⟨g1, g2⟩ := hW; have g9 := (g1.block Y HYL.out.1 HYL.out.2).trans HY3.out; have f1 := cell_blk g9 0 _ rfl; have f2 := cell_blk g9 1 _ rfl; have f3 := blk_lt g9; go_simp; try with_reducible rfl)
  simp only [Act.put, List.setIfInBounds_toArray, List.set_cons_zero, List.set_cons_succ]
  refine wpAnyH_ready (rs := [12]) (by kernel_rfl) (by simp) ?_
  refine AllReadyH.cons (o := { dst := some 66, op := Op.call { callee := Callee.value (Operand.func 13), args := #[Operand.tmp 65], argTypes := #[31] }, type := 3, pos := "law.go:49", after := #[{ on := 11, ground := Ground.data }, { on := 10, ground := Ground.chain }, { on := 10, ground := Ground.guard }], guard := some (10, true) }) rfl (fun KK hK => ?_) (AllReadyH.nil)
  try simp only [List.getElem_toArray, List.getElem_cons_succ, List.getElem_cons_zero]
  go_simp
  refine (HNum.out _ _).mono ?_
  rintro e wnum ⟨rfl, rfl⟩
  refine hK.out _ _ (by assumption) (fun hHeld => ?_)
  clear hK KK
  try simp only [Act.put, List.setIfInBounds_toArray, List.set_cons_zero, List.set_cons_succ]
  refine' wpAnyH_take (i := 14) (oi := { dst := some 68, op := Op.binOp BinOp.eql 3 (Operand.tmp 66) (Operand.tmp 67) 3, type := 4, pos := "law.go:49", after := #[{ on := 12, ground := Ground.data }, { on := 13, ground := Ground.data }, { on := 10, ground := Ground.guard }, { on := 17, ground := Ground.gcOnly Departure.lateStores }], guard := some (10, true) }) (v := ?v202014) rfl (by kernel_rfl) (by kernel_rfl) (by kernel_rfl) (fun _ _ _ h => h) (.inl ⟨by first | rfl | simp [Region.wanted, yielded], ?hy202014⟩) (by assumption) ?rest202014
  case hy202014 => (intro W hW; obtain ⟨g1, g2⟩ := hW; have g9 := (g1.block Y HYL.out.1 HYL.out.2).trans HY3.out; have f1 := cell_blk g9 0 _ rfl; have f2 := cell_blk g9 1 _ rfl; have f3 := blk_lt g9; go_simp; try with_reducible rfl)
  simp only [Act.put, List.setIfInBounds_toArray, List.set_cons_zero, List.set_cons_succ]
  refine' wpAnyH_take (i := 15) (oi := { dst := some 69, op := Op.pick (Operand.tmp 64) (Operand.tmp 68) (Operand.const (Value.bool false)), type := 4, pos := "law.go:49", after := #[{ on := 10, ground := Ground.data }, { on := 14, ground := Ground.data }, { on := 17, ground := Ground.gcOnly Departure.lateStores }], guard := none }) (v := ?v202015) rfl (by kernel_rfl) (by kernel_rfl) (by kernel_rfl) (fun _ _ _ h => h) (.inl ⟨by first | rfl | simp [Region.wanted, yielded], ?hy202015⟩) (by assumption) ?rest202015
  case hy202015 => (intro W hW; obtain ⟨g1, g2⟩ := hW; have g9 := (g1.block Y HYL.out.1 HYL.out.2).trans HY3.out; have f1 := cell_blk g9 0 _ rfl; have f2 := cell_blk g9 1 _ rfl; have f3 := blk_lt g9; go_simp; try with_reducible rfl)
  simp only [Act.put, List.setIfInBounds_toArray, List.set_cons_zero, List.set_cons_succ]
  refine' wpAnyH_take (i := 16) (oi := { dst := some 6, op := Op.assign (Operand.tmp 54), type := 30, pos := "law.go:49", after := #[{ on := 0, ground := Ground.data }, { on := 12, ground := Ground.chain }, { on := 0, ground := Ground.phase }, { on := 1, ground := Ground.textOnly Departure.lateStores }, { on := 2, ground := Ground.textOnly Departure.lateStores }, { on := 3, ground := Ground.textOnly Departure.lateStores }, { on := 4, ground := Ground.textOnly Departure.lateStores }, { on := 5, ground := Ground.textOnly Departure.lateStores }, { on := 6, ground := Ground.textOnly Departure.lateStores }, { on := 7, ground := Ground.textOnly Departure.lateStores }, { on := 8, ground := Ground.textOnly Departure.lateStores }, { on := 9, ground := Ground.textOnly Departure.lateStores }, { on := 10, ground := Ground.textOnly Departure.lateStores }, { on := 11, ground := Ground.textOnly Departure.lateStores }, { on := 12, ground := Ground.textOnly Departure.lateStoresUnsure }, { on := 13, ground := Ground.textOnly Departure.lateStores }, { on := 14, ground := Ground.textOnly Departure.lateStores }, { on := 15, ground := Ground.textOnly Departure.lateStores }], guard := none }) (v := ?v202016) rfl (by kernel_rfl) (by kernel_rfl) (by kernel_rfl) (fun _ _ _ h => h) (.inl ⟨by first | rfl | simp [Region.wanted, yielded], ?hy202016⟩) (by assumption) ?rest202016
  case hy202016 => (intro W hW; obtain ⟨g1, g2⟩ := hW; have g9 := (g1.block Y HYL.out.1 HYL.out.2).trans HY3.out; have f1 := cell_blk g9 0 _ rfl; have f2 := cell_blk g9 1 _ rfl; have f3 := blk_lt g9; go_simp; try with_reducible rfl)
  simp only [Act.put, List.setIfInBounds_toArray, List.set_cons_zero, List.set_cons_succ]
  refine wpAnyH_ready (rs := [17]) (by kernel_rfl) (by simp) ?_
  refine AllReadyH.cons (o := { dst := none, op := Op.store 36 (Operand.tmp 7) (Operand.tmp 55), type := 0, pos := "law.go:49", after := #[{ on := 1, ground := Ground.data }, { on := 16, ground := Ground.chain }, { on := 0, ground := Ground.phase }, { on := 1, ground := Ground.phase }, { on := 2, ground := Ground.textOnly Departure.lateStores }, { on := 3, ground := Ground.textOnly Departure.lateStores }, { on := 4, ground := Ground.textOnly Departure.lateStores }, { on := 5, ground := Ground.textOnly Departure.lateStores }, { on := 6, ground := Ground.textOnly Departure.lateStores }, { on := 7, ground := Ground.textOnly Departure.lateStores }, { on := 8, ground := Ground.textOnly Departure.lateStores }, { on := 9, ground := Ground.textOnly Departure.lateStores }, { on := 10, ground := Ground.textOnly Departure.lateStores }, { on := 11, ground := Ground.textOnly Departure.lateStores }, { on := 12, ground := Ground.textOnly Departure.lateStoresUnsure }, { on := 13, ground := Ground.textOnly Departure.lateStores }, { on := 14, ground := Ground.textOnly Departure.lateStores }, { on := 15, ground := Ground.textOnly Departure.lateStores }, { on := 16, ground := Ground.phase }], guard := none }) rfl (fun KK hK => ?_) (AllReadyH.nil)
  try simp only [List.getElem_toArray, List.getElem_cons_succ, List.getElem_cons_zero]
  obtain ⟨g1, a0, a1, g2⟩ := hHeld
  have e0 := cell_blk g2 0 _ rfl
  have e1 := cell_blk g2 1 _ rfl
  have e2 := blk_lt g2
  have e3 := frozen_blk g2 0
  have e4 := frozen_blk g2 1
  go_simp
  obtain ⟨zz, hzz⟩ : ∃ Q, Q = (wd.setCell ⟨X + 2, 0, none⟩ (.slice bo' m' bc')).setCell ⟨X + 2, 1, none⟩ (.int .i64 most) := ⟨_, rfl⟩
  rw [← hzz]
  have hb7 : zz.heap[X + 2]? = some (.cells #[(.slice bo' m' bc'), .int .i64 most] 36 (0, 0)) := by rw [hzz]; exact setCell_blk (setCell_blk g2 0 _) 1 _
  have hHeldz : (fun W : World => Mod (fun q => q = X + 2) v3 W ∧ (∃ a0 a1, W.heap[X + 2]? = some (.cells #[a0, a1] 36 (0, 0)))) zz := ⟨by rw [hzz]; exact (g1.setCell ⟨X + 2, 0, none⟩ (.inl rfl) _).setCell ⟨X + 2, 1, none⟩ (.inl rfl) _, _, _, hb7⟩
  have HB7 := Lib.hid hb7
  have HMz := Lib.hid hHeldz.1
  clear e0 e1 e2 e3 e4 hzz hb7
  refine hK.out _ _ (by assumption) (fun hHeld => ?_)
  clear hK KK
  try simp only [Act.put, List.setIfInBounds_toArray, List.set_cons_zero, List.set_cons_succ]
  refine' wpAnyH_take (i := 18) (oi := { dst := some 8, op := Op.assign (Operand.tmp 69), type := 4, pos := "law.go:49", after := #[{ on := 15, ground := Ground.data }, { on := 17, ground := Ground.chain }, { on := 0, ground := Ground.phase }, { on := 1, ground := Ground.phase }, { on := 2, ground := Ground.phase }, { on := 3, ground := Ground.phase }, { on := 4, ground := Ground.phase }, { on := 5, ground := Ground.phase }, { on := 6, ground := Ground.phase }, { on := 7, ground := Ground.phase }, { on := 8, ground := Ground.phase }, { on := 9, ground := Ground.phase }, { on := 10, ground := Ground.phase }, { on := 11, ground := Ground.phase }, { on := 12, ground := Ground.phase }, { on := 13, ground := Ground.phase }, { on := 14, ground := Ground.phase }, { on := 15, ground := Ground.phase }, { on := 16, ground := Ground.phase }, { on := 17, ground := Ground.phase }], guard := none }) (v := ?v202017) rfl (by kernel_rfl) (by kernel_rfl) (by kernel_rfl) (fun _ _ _ h => h) (.inl ⟨by first | rfl | simp [Region.wanted, yielded], ?hy202017⟩) (by assumption) ?rest202017
  case hy202017 => (intro W hW; obtain ⟨g1, g2⟩ := hW; have g9 := (g1.block Y HYL.out.1 HYL.out.2).trans HY3.out; have f1 := cell_blk g9 0 _ rfl; have f2 := cell_blk g9 1 _ rfl; have f3 := blk_lt g9; go_simp; try with_reducible rfl)
  simp only [Act.put, List.setIfInBounds_toArray, List.set_cons_zero, List.set_cons_succ]
  refine wpAnyH_done (by kernel_rfl) ?_ _
  clear hHeldz
  go_wp2
  have z0 := cell_blk HB7.out 0 _ rfl
  have z1 := cell_blk HB7.out 1 _ rfl
  refine bodyPost_ret (v := .tuple #[.pointer (some ⟨p, 0, none⟩), .agg #[.slice bo' m' bc', .int .i64 most], .bool true]) (by simp [results, Try.f11, go_sem, z0, z1]) rfl ⟨p, bo', m', bc', rfl, ?_⟩
  exact HFIN.out _ HMz.out
end
end Go.Proofs.Ytnmbhcekcdicnaa
