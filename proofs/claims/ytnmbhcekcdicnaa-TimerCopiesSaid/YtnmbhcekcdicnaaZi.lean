/-
  act: Copy.
-/
import Derived.Test.YtnmbhcekcdicnaaZa
namespace Go.Proofs.Ytnmbhcekcdicnaa
open Go.RowKit
set_option linter.unusedVariables false
set_option linter.unusedSimpArgs false

attribute [local go_sem high] eql26 neq26
section
variable {K : Nat → Prop} {p : Nat} {most : Int} {l : List Rw} {bo : Option Addr} {m bc : Nat} {w : World}
set_option maxHeartbeats 6400000
set_option maxRecDepth 100000
theorem act_copy (h : AS K p most l bo m bc w) (what k i n : Int) (k0 : -9223372036854775808 ≤ k) (k1 : k ≤ 9223372036854775807) (i0 : 0 ≤ i) (i1 : i ≤ 18446744073709551615) (n0 : 0 ≤ n) (n1 : n ≤ 18446744073709551615) (hw : what < 0 ∨ 6 < what) :
    Calls Try.prog 11 #[.pointer (some ⟨p, 0, none⟩), .agg #[.slice bo m bc, .int .i64 most], .agg #[.int .i64 what, .int .i64 k, .int .u64 i, .int .u64 n]] w fun e w' => ∃ p' bo' m' bc', e = .returned (.tuple #[.pointer (some ⟨p', 0, none⟩), .agg #[.slice bo' m' bc', .int .i64 most], .bool true]) ∧ Acted K p' most l bo' m' bc' w w' := by
  have hm := h.m
  obtain ⟨u, hu⟩ : ∃ W, W = ((w.alloc (.cells #[.slice bo m bc, .int .i64 most] 36)).alloc (.cells #[.int .i64 what, .int .i64 k, .int .u64 i, .int .u64 n] 28)).alloc (.cells #[.slice none 0 0, .int .i64 0] 36) := ⟨_, rfl⟩
  obtain ⟨X, hX⟩ : ∃ X, X = w.heap.size := ⟨_, rfl⟩
  obtain ⟨hab, b1, hz⟩ := AB.start w (.slice bo m bc) most what k i n
  rw [← hu, ← hX] at hab
  rw [← hu] at b1 hz
  rw [← hX] at hz
  obtain ⟨K0, hK0⟩ : ∃ K0 : Nat → Prop, K0 = fun q => K q ∧ q < w.heap.size := ⟨_, rfl⟩
  have hts : TS K0 p most l u := by rw [hK0]; exact h.ts.old.below b1
  have hdr : DR (fun q => ¬ K0 q ∧ q < w.heap.size) u bo m bc l := by
    rw [hK0]
    exact (h.dr.keep (Nat.le_refl _) (fun q e hq => ⟨fun g => e g.1, hq⟩) fun _ _ _ => rfl : DR (fun q => ¬ (K q ∧ q < w.heap.size) ∧ q < w.heap.size) w bo m bc l).below b1
  have HKk : Hid (∀ q, K0 q → K q ∧ q < w.heap.size) := Lib.hid (by rw [hK0]; exact fun q e => e)
  have HUU := Lib.hid hu
  have EX := Lib.hid hX
  have HZ := Lib.hid hz
  have HAB := Lib.hid hab
  have B1 := Lib.hid b1
  have HTS := Lib.hid hts
  have HDR := Lib.hid hdr
  have HR := Lib.hid (And.intro (And.intro i0 i1) (And.intro n0 n1))
  have HRk := Lib.hid (And.intro k0 k1)
  obtain ⟨⟨c0, c1⟩, ⟨c2, c3, c4, c5⟩, c6, c7, c8⟩ := hab.cells
  have t0 : ((what : Int) == 0) = false := by simp; omega
  have s0 : decide ((what : Int) = 0) = false := by simp; omega
  have t1 : ((what : Int) == 1) = false := by simp; omega
  have s1 : decide ((what : Int) = 1) = false := by simp; omega
  have t2 : ((what : Int) == 2) = false := by simp; omega
  have s2 : decide ((what : Int) = 2) = false := by simp; omega
  have t3 : ((what : Int) == 3) = false := by simp; omega
  have s3 : decide ((what : Int) = 3) = false := by simp; omega
  have t4 : ((what : Int) == 4) = false := by simp; omega
  have s4 : decide ((what : Int) = 4) = false := by simp; omega
  have t5 : ((what : Int) == 5) = false := by simp; omega
  have s5 : decide ((what : Int) = 5) = false := by simp; omega
  have t6 : ((what : Int) == 6) = false := by simp; omega
  have s6 : decide ((what : Int) = 6) = false := by simp; omega
  clear hw
  clear hu hX hab b1 hz hts hdr hK0 h i0 i1 n0 n1 k0 k1
  go_enter Try.func11, Try.ntmps11
  go_upto_region 1 with fail
  rw [← HUU.out]
  try rw [← EX.out]
  have HTw : Hid (∀ W, Mod (fun q => q = X + 2) u W → TS K0 p most l W) := Lib.hid fun W hW => by
    refine HTS.out.keep (fun _ e => e) fun q e hq => hW.block q hq ?_
    have := (HKk.out q e).2
    have := EX.out
    omega
  have HXL : Hid (X < u.heap.size ∧ X ≠ X + 2) := Lib.hid ⟨c6, by omega⟩
  go_upto_region 18 with fail
  obtain ⟨wd, hwd⟩ : ∃ W, W = (u).drew := ⟨_, rfl⟩
  have HBd : Hid (Below (u).heap.size (u) wd) := Lib.hid (by rw [hwd]; exact Below.drewN' (u) 1)
  have hS0 : (fun W : World => Mod (fun q => q = X + 2) u W ∧ (∃ a0 a1, W.heap[X + 2]? = some (.cells #[a0, a1] 36 (0, 0)))) wd := by rw [hwd]; exact ⟨(Mod.refl _ u).drew, _, _, HAB.out.b7⟩
  refine wp_region_held_drew (S := fun W => Mod (fun q => q = X + 2) u W ∧ (∃ a0 a1, W.heap[X + 2]? = some (.cells #[a0, a1] 36 (0, 0)))) (by kernel_rfl) (by rw [← hwd]; exact hS0) (fun hHeld => ?_)
  rw [← hwd] at hHeld ⊢
  clear hwd hS0
  refine' wpAnyH_take (i := 0) (oi := { dst := some 135, op := Op.move (Operand.tmp 0), type := 30, pos := "law.go:59", after := #[], guard := none }) (v := ?v241001) rfl (by kernel_rfl) (by kernel_rfl) (by kernel_rfl) (fun _ _ _ h => h) (.inl ⟨by first | rfl | simp [Region.wanted, yielded], ?hy241001⟩) (by assumption) ?rest241001
  case hy241001 => (intro W hW; obtain ⟨g1, g2⟩ := hW; have g9 := (g1.block X HXL.out.1 HXL.out.2).trans HAB.out.b4; have f1 := cell_blk g9 0 _ rfl; have f2 := cell_blk g9 1 _ rfl; have f3 := blk_lt g9; go_simp; try with_reducible rfl)
  simp only [Act.put, List.setIfInBounds_toArray, List.set_cons_zero, List.set_cons_succ]
  refine' wpAnyH_take (i := 2) (oi := { dst := some 137, op := Op.load 36 (Operand.tmp 4), type := 36, pos := "law.go:59", after := #[{ on := 3, ground := Ground.gcOnly Departure.lateStores }], guard := none }) (v := ?v241002) rfl (by kernel_rfl) (by kernel_rfl) (by kernel_rfl) (fun _ _ _ h => h) (.inl ⟨by first | rfl | simp [Region.wanted, yielded], ?hy241002⟩) (by assumption) ?rest241002
  case hy241002 => (intro W hW; obtain ⟨g1, g2⟩ := hW; have g9 := (g1.block X HXL.out.1 HXL.out.2).trans HAB.out.b4; have f1 := cell_blk g9 0 _ rfl; have f2 := cell_blk g9 1 _ rfl; have f3 := blk_lt g9; go_simp; try with_reducible rfl)
  simp only [Act.put, List.setIfInBounds_toArray, List.set_cons_zero, List.set_cons_succ]
  refine wpAnyH_ready (rs := [1]) (by kernel_rfl) (by simp) ?_
  refine AllReadyH.cons (o := { dst := some 136, op := Op.call { callee := Callee.value (Operand.func 14), args := #[Operand.tmp 135], argTypes := #[30] }, type := 30, pos := "law.go:59", after := #[{ on := 0, ground := Ground.data }], guard := none }) rfl (fun KK hK => ?_) (AllReadyH.nil)
  try simp only [List.getElem_toArray, List.getElem_cons_succ, List.getElem_cons_zero]
  go_simp
  refine (TS.copy (HTw.out wd hHeld.1)).mono ?_
  rintro e z1 ⟨p', rfl, hts, hbc⟩
  have hHeld1 : (fun W : World => Mod (fun q => q = X + 2) u W ∧ (∃ a0 a1, W.heap[X + 2]? = some (.cells #[a0, a1] 36 (0, 0)))) z1 := ⟨hHeld.1.trans (Mod.of_below hbc _) fun _ _ e => e, by obtain ⟨a0, a1, g2⟩ := hHeld.2; exact ⟨a0, a1, (hbc.block _ (blk_lt g2)).trans g2⟩⟩
  have HTc := Lib.hid hts
  have HBc := Lib.hid (hHeld.1.size)
  have HMc := Lib.hid hHeld1.1
  have H7c := Lib.hid hHeld1.2
  clear hts hbc hHeld
  refine hK.out _ _ (by assumption) (fun hHeld => ?_)
  clear hK KK
  try simp only [Act.put, List.setIfInBounds_toArray, List.set_cons_zero, List.set_cons_succ]
  refine' wpAnyH_take (i := 3) (oi := { dst := some 6, op := Op.assign (Operand.tmp 136), type := 30, pos := "law.go:59", after := #[{ on := 1, ground := Ground.data }, { on := 1, ground := Ground.chain }, { on := 0, ground := Ground.phase }, { on := 1, ground := Ground.phase }, { on := 2, ground := Ground.textOnly Departure.lateStores }], guard := none }) (v := ?v241003) rfl (by kernel_rfl) (by kernel_rfl) (by kernel_rfl) (fun _ _ _ h => h) (.inl ⟨by first | rfl | simp [Region.wanted, yielded], ?hy241003⟩) (by assumption) ?rest241003
  case hy241003 => (intro W hW; obtain ⟨g1, g2⟩ := hW; have g9 := (g1.block X HXL.out.1 HXL.out.2).trans HAB.out.b4; have f1 := cell_blk g9 0 _ rfl; have f2 := cell_blk g9 1 _ rfl; have f3 := blk_lt g9; go_simp; try with_reducible rfl)
  simp only [Act.put, List.setIfInBounds_toArray, List.set_cons_zero, List.set_cons_succ]
  refine wpAnyH_ready (rs := [4]) (by kernel_rfl) (by simp) ?_
  refine AllReadyH.cons (o := { dst := none, op := Op.store 36 (Operand.tmp 7) (Operand.tmp 137), type := 0, pos := "law.go:59", after := #[{ on := 2, ground := Ground.data }, { on := 3, ground := Ground.chain }, { on := 0, ground := Ground.phase }, { on := 1, ground := Ground.phase }, { on := 2, ground := Ground.phase }, { on := 3, ground := Ground.phase }], guard := none }) rfl (fun KK hK => ?_) (AllReadyH.nil)
  try simp only [List.getElem_toArray, List.getElem_cons_succ, List.getElem_cons_zero]
  obtain ⟨g1, a0, a1, g2⟩ := hHeld
  have e0 := cell_blk g2 0 _ rfl
  have e1 := cell_blk g2 1 _ rfl
  have e2 := blk_lt g2
  have e3 := frozen_blk g2 0
  have e4 := frozen_blk g2 1
  go_simp
  obtain ⟨zz, hzz⟩ : ∃ Q, Q = (z1.setCell ⟨X + 2, 0, none⟩ (.slice bo m bc)).setCell ⟨X + 2, 1, none⟩ (.int .i64 most) := ⟨_, rfl⟩
  rw [← hzz]
  have hb7 : zz.heap[X + 2]? = some (.cells #[(.slice bo m bc), .int .i64 most] 36 (0, 0)) := by rw [hzz]; exact setCell_blk (setCell_blk g2 0 _) 1 _
  have hHeldz : (fun W : World => Mod (fun q => q = X + 2) u W ∧ (∃ a0 a1, W.heap[X + 2]? = some (.cells #[a0, a1] 36 (0, 0)))) zz := ⟨by rw [hzz]; exact (g1.setCell ⟨X + 2, 0, none⟩ (.inl rfl) _).setCell ⟨X + 2, 1, none⟩ (.inl rfl) _, _, _, hb7⟩
  have HB7 := Lib.hid hb7
  have HMz := Lib.hid hHeldz.1
  have HZZ : Hid (Mod (fun q => q = X + 2) z1 zz) := Lib.hid (by rw [hzz]; exact ((Mod.refl (fun q => q = X + 2) z1).setCell ⟨X + 2, 0, none⟩ (.inl rfl) _).setCell ⟨X + 2, 1, none⟩ (.inl rfl) _)
  clear e0 e1 e2 e3 e4 hzz hb7
  refine hK.out _ _ (by assumption) (fun hHeld => ?_)
  clear hK KK
  try simp only [Act.put, List.setIfInBounds_toArray, List.set_cons_zero, List.set_cons_succ]
  refine' wpAnyH_take (i := 5) (oi := { dst := some 8, op := Op.assign (Operand.const (Value.bool true)), type := 4, pos := "law.go:59", after := #[{ on := 4, ground := Ground.chain }, { on := 0, ground := Ground.phase }, { on := 1, ground := Ground.phase }, { on := 2, ground := Ground.phase }, { on := 3, ground := Ground.phase }, { on := 4, ground := Ground.phase }], guard := none }) (v := ?v241004) rfl (by kernel_rfl) (by kernel_rfl) (by kernel_rfl) (fun _ _ _ h => h) (.inl ⟨by first | rfl | simp [Region.wanted, yielded], ?hy241004⟩) (by assumption) ?rest241004
  case hy241004 => (intro W hW; obtain ⟨g1, g2⟩ := hW; have g9 := (g1.block X HXL.out.1 HXL.out.2).trans HAB.out.b4; have f1 := cell_blk g9 0 _ rfl; have f2 := cell_blk g9 1 _ rfl; have f3 := blk_lt g9; go_simp; try with_reducible rfl)
  simp only [Act.put, List.setIfInBounds_toArray, List.set_cons_zero, List.set_cons_succ]
  refine wpAnyH_done (by kernel_rfl) ?_ _
  clear hHeldz
  go_wp2
  have z0 := cell_blk HB7.out 0 _ rfl
  have z1x := cell_blk HB7.out 1 _ rfl
  refine bodyPost_ret (v := .tuple #[.pointer (some ⟨p', 0, none⟩), .agg #[.slice bo m bc, .int .i64 most], .bool true]) (by simp [results, Try.f11, go_sem, z0, z1x]) rfl ⟨p', bo, m, bc, rfl, ?_⟩
  have hwX := EX.out
  have hwz := HZ.out
  obtain ⟨a0, a1, g7⟩ := H7c.out
  have hmz : Mod (fun q => q = X + 2) z1 zz := HZZ.out
  refine Acted.fin (K1 := fun q => wd.heap.size ≤ q ∧ q < z1.heap.size) (T := X + 2) (by omega) HTc.out (fun q e => ?_) ?_ ?_ g7 hmz
  · exact .inr ⟨by have := B1.out.size; have := HBc.out; omega, e.2⟩
  · refine HDR.out.keep HMc.out.size (fun q e hq => ⟨fun g => ?_, by omega⟩) (fun q e hq => HMc.out.block q hq (by omega))
    have := HBc.out
    have := B1.out.size
    omega
  · exact (Mod.of_below B1.out K).trans HMc.out fun q hq e => by omega
end
end Go.Proofs.Ytnmbhcekcdicnaa
