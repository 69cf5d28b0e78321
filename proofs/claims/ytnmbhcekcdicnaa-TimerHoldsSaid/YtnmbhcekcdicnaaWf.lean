/-
  TimerHolds, walked.
-/
import Derived.Test.YtnmbhcekcdicnaaWe
namespace Go.Proofs.Ytnmbhcekcdicnaa
open Go.RowKit
set_option linter.unusedVariables false
set_option linter.unusedSimpArgs false

attribute [local go_sem high] neq26
section
set_option maxHeartbeats 6400000
set_option maxRecDepth 100000
theorem holds_out (ao bo co : Option Addr) (na nb nc ca cb cc : Nat) (w : World) (h : 60 < na ∨ 20 < nc) (hna : na ≤ maxLen) (hnc : nc ≤ maxLen) :
    Calls Try.prog 6 #[.slice ao na ca, .slice bo nb cb, .slice co nc cc] w fun e w' => e = .returned (.bool true) ∧ Below w.heap.size w w' := by
  have HWk := Lib.hid works_true
  by_cases h1 : 60 < na
  · have d1 : decide (60 < na) = true := by simpa using h1
    have d2 : decide ((60 : Int) < na) = true := by simp; omega
    clear h h1
    go_enter Try.func6, Try.ntmps6
    go_wp2_with (go_at_call 8; refine (HWk.out _).mono ?_; rintro e w' ⟨rfl, hb⟩; have HB := Lib.hid hb; clear hb)
    go_ret
    exact ⟨rfl, HB.out⟩
  · have h2 : 20 < nc := by omega
    have d1 : decide (60 < na) = false := by simpa using h1
    have d2 : decide ((60 : Int) < na) = false := by simp; omega
    have d3 : decide (20 < nc) = true := by simpa using h2
    have d4 : decide ((20 : Int) < nc) = true := by simp; omega
    clear h h1 h2
    go_enter Try.func6, Try.ntmps6
    go_wp2_with (go_at_call 8; refine (HWk.out _).mono ?_; rintro e w' ⟨rfl, hb⟩; have HB := Lib.hid hb; clear hb)
    go_ret
    exact ⟨rfl, HB.out⟩
/-- What waits, and what went last. -/
structure PopI (z : Nat → Int × Int) (dd : Nat → Int) (M : Nat) (rem : List Rw) (lk li ta : Int) (r : Nat) : Prop where
  len : r = rem.length
  ord : (lk = 0 ∧ li = 0 ∧ ta = 0) ∨ ∀ x ∈ rem, lt ⟨lk, li, ta⟩ x = true
  sub : ∀ x ∈ rem, x ∈ afterL z dd M
theorem holds_in (ao bo co : Option Addr) (na nb nc ca cb cc : Nat) (z : Nat → Int × Int) (dd tt : Nat → Int) (w : World) (h1 : na ≤ 60) (h2 : nb ≤ maxLen) (h3 : nc ≤ 20) (ha : PArg w ao na z) (hb : UArg w bo nb dd) (hc : UArg w co nc tt) :
    Calls Try.prog 6 #[.slice ao na ca, .slice bo nb cb, .slice co nc cc] w fun e w' => e = .returned (.bool true) ∧ Below w.heap.size w w' := by
  have HWk := Lib.hid works_true
  have HNum := Lib.hid num13
  have HA := Lib.hid ha
  have HB := Lib.hid hb
  have HC := Lib.hid hc
  have H2 := Lib.hid h2
  clear ha hb hc h2
  have hd1 : decide (60 < na) = false := by simp; omega
  have hd2 : decide ((60 : Int) < na) = false := by simp; omega
  have hd3 : decide (20 < nc) = false := by simp; omega
  have hd4 : decide ((20 : Int) < nc) = false := by simp; omega
  obtain ⟨M, hM⟩ : ∃ M, M = min na nb := ⟨_, rfl⟩
  have HM := Lib.hid hM
  have hM60 : M ≤ 60 := by omega
  clear hM
  go_enter Try.func6, Try.ntmps6
  go_wp2_with fail
  refine (TB.new w 60 (by omega) (by omega)).mono ?_
  rintro e w1 ⟨p, rfl, hT⟩
  have T1 := Lib.hid hT
  clear hT hd1 hd2 hd3 hd4
  go_wp2_with fail
  go_loopg [9, 10] M (fun gk v9 v10 wr => ∃ j r : Nat, v9 = .int .i64 r ∧ v10 = .int .i64 j ∧ j ≤ M ∧ gk = M - j ∧ r = (afterL z dd j).length ∧ TB w p 60 (afterL z dd j) [] wr)
  case atStart => exact ⟨0, 0, rfl, rfl, by omega, rfl, rfl, T1.out⟩
  case round =>
    obtain ⟨j, r, rfl, rfl, hj, hgk, hr, hT⟩ := hrel
    have HG := Lib.hid hgk
    have HR := Lib.hid hr
    have T := Lib.hid hT
    clear hgk hr hT T1
    have hr60 : r ≤ 60 := by have := HR.out; have := afterL_le z dd j; omega
    by_cases hlt : j < M
    · have hjna : j < na := by have := HM.out; omega
      have hjnb : j < nb := by have := HM.out; omega
      have e1 : decide ((j : Int) < na) = true := by simp; omega
      have e2 : decide ((j : Int) < nb) = true := by simp; omega
      have e3 : decide (j < na) = true := by simp; omega
      have e4 : decide (j < nb) = true := by simp; omega
      go_upto_region 8 with fail
      obtain ⟨ba, oa, rfl, hba, hca⟩ := HA.out (by omega)
      obtain ⟨bb, ob, rfl, hbb, hcb⟩ := HB.out (by omega)
      obtain ⟨xk, hxk⟩ : ∃ x, x = (z j).1 := ⟨_, rfl⟩
      obtain ⟨xi, hxi⟩ : ∃ x, x = (z j).2 := ⟨_, rfl⟩
      obtain ⟨xd, hxd⟩ : ∃ x, x = dd j := ⟨_, rfl⟩
      obtain ⟨y0, y1, y2, y3⟩ := hca j hjna
      obtain ⟨y4, y5, y6⟩ := hcb j hjnb
      rw [← hxk] at y0
      rw [← hxi] at y1 y2 y3
      rw [← hxd] at y4 y5 y6
      have HCP : Hid (∀ W, Below w.heap.size w W → (W.cell? ⟨ba, oa + j * 2, none⟩ = some (.int .i64 xk) ∧ W.cell? ⟨ba, oa + j * 2 + 1, none⟩ = some (.int .u64 xi)) ∧ W.cell? ⟨bb, ob + j, none⟩ = some (.int .u64 xd) ∧ ba < W.heap.size ∧ bb < W.heap.size) := Lib.hid fun W hW => by
        have hz := hW.size
        exact ⟨⟨(hW.cell (p := ⟨ba, oa + j * 2, none⟩) hba).trans y0, (hW.cell (p := ⟨ba, oa + j * 2 + 1, none⟩) hba).trans y1⟩, (hW.cell (p := ⟨bb, ob + j, none⟩) hbb).trans y4, by omega, by omega⟩
      have HXB := Lib.hid (And.intro y2 (And.intro y3 (And.intro y5 y6)))
      obtain ⟨kd, hkd⟩ : ∃ b, b = isKind xk := ⟨_, rfl⟩
      obtain ⟨had, hhad⟩ : ∃ b, b = hadL (afterL z dd j) xk xi := ⟨_, rfl⟩
      obtain ⟨was, hwas⟩ : ∃ b, b = wasL (afterL z dd j) xk xi := ⟨_, rfl⟩
      have HKd := Lib.hid hkd
      have HHad := Lib.hid hhad
      have HWas := Lib.hid hwas
      have HLT : Hid (((afterL z dd j).length : Int) < 60) := Lib.hid (by have := afterL_le z dd j; omega)
      have hnext : afterL z dd (j + 1) = stepL (afterL z dd j) xk xi xd := by rw [hxk, hxi, hxd]; rfl
      have hlen : (afterL z dd (j + 1)).length = r + (if kd = true ∧ had = false then 1 else 0) := by
        rw [hnext, stepL_len T.out.srt, hkd, hhad, HR.out]
      have HNx := Lib.hid hnext
      have HLn := Lib.hid hlen
      clear hca hcb y0 y1 y2 y3 y4 y5 y6 hxk hxi hxd hkd hhad hwas hnext hlen e1 e2 e3 e4
      have e1 : (j : Int) < na := by omega
      have e2 : (j : Int) < nb := by omega
      refine wp_region_held_drew (S := fun W => Below w.heap.size w W) (by kernel_rfl) (T.out.bel.trans ((Below.drewN' wr 1).mono T.out.bel.size)) (fun hHeld => ?_)
      obtain ⟨wd, hwd⟩ : ∃ W, W = wr.drew := ⟨_, rfl⟩
      have HBd : Hid (Below wr.heap.size wr wd) := Lib.hid (by rw [hwd]; exact Below.drewN' wr 1)
      rw [← hwd] at hHeld ⊢
      clear hwd
      refine' wpAnyH_take (i := 0) (oi := { dst := some 51, op := Op.move (Operand.tmp 7), type := 30, pos := "law.go:203", after := #[], guard := none }) (v := ?v901001) rfl (by kernel_rfl) (by kernel_rfl) (by kernel_rfl) (fun _ _ _ h => h) (.inl ⟨by first | rfl | simp [Region.wanted, yielded], ?hy901001⟩) (by assumption) ?rest901001
      case hy901001 => (intro W hW; obtain ⟨⟨f1, f2⟩, f3, f4, f5⟩ := HCP.out _ hW; go_simp; try with_reducible rfl)
      simp only [Act.put, List.setIfInBounds_toArray, List.set_cons_zero, List.set_cons_succ]
      refine' wpAnyH_take (i := 1) (oi := { dst := some 52, op := Op.move (Operand.tmp 0), type := 69, pos := "law.go:203", after := #[], guard := none }) (v := ?v901002) rfl (by kernel_rfl) (by kernel_rfl) (by kernel_rfl) (fun _ _ _ h => h) (.inl ⟨by first | rfl | simp [Region.wanted, yielded], ?hy901002⟩) (by assumption) ?rest901002
      case hy901002 => (intro W hW; obtain ⟨⟨f1, f2⟩, f3, f4, f5⟩ := HCP.out _ hW; go_simp; try with_reducible rfl)
      simp only [Act.put, List.setIfInBounds_toArray, List.set_cons_zero, List.set_cons_succ]
      refine' wpAnyH_take (i := 2) (oi := { dst := some 53, op := Op.move (Operand.tmp 10), type := 3, pos := "law.go:203", after := #[], guard := none }) (v := ?v901003) rfl (by kernel_rfl) (by kernel_rfl) (by kernel_rfl) (fun _ _ _ h => h) (.inl ⟨by first | rfl | simp [Region.wanted, yielded], ?hy901003⟩) (by assumption) ?rest901003
      case hy901003 => (intro W hW; obtain ⟨⟨f1, f2⟩, f3, f4, f5⟩ := HCP.out _ hW; go_simp; try with_reducible rfl)
      simp only [Act.put, List.setIfInBounds_toArray, List.set_cons_zero, List.set_cons_succ]
      refine' wpAnyH_take (i := 3) (oi := { dst := some 54, op := Op.indexAddr 69 (Operand.tmp 52) (Operand.tmp 53), type := 0, pos := "law.go:203", after := #[{ on := 1, ground := Ground.data }, { on := 2, ground := Ground.data }], guard := none }) (v := ?v901004) rfl (by kernel_rfl) (by kernel_rfl) (by kernel_rfl) (fun _ _ _ h => h) (.inl ⟨by first | rfl | simp [Region.wanted, yielded], ?hy901004⟩) (by assumption) ?rest901004
      case hy901004 => (intro W hW; obtain ⟨⟨f1, f2⟩, f3, f4, f5⟩ := HCP.out _ hW; go_simp; try with_reducible rfl)
      simp only [Act.put, List.setIfInBounds_toArray, List.set_cons_zero, List.set_cons_succ]
      refine' wpAnyH_take (i := 4) (oi := { dst := some 55, op := Op.load 26 (Operand.tmp 54), type := 26, pos := "law.go:203", after := #[{ on := 3, ground := Ground.data }], guard := none }) (v := ?v901005) rfl (by kernel_rfl) (by kernel_rfl) (by kernel_rfl) (fun _ _ _ h => h) (.inl ⟨by first | rfl | simp [Region.wanted, yielded], ?hy901005⟩) (by assumption) ?rest901005
      case hy901005 => (intro W hW; obtain ⟨⟨f1, f2⟩, f3, f4, f5⟩ := HCP.out _ hW; go_simp; try with_reducible rfl)
      simp only [Act.put, List.setIfInBounds_toArray, List.set_cons_zero, List.set_cons_succ]
      refine' wpAnyH_take (i := 5) (oi := { dst := some 56, op := Op.move (Operand.tmp 1), type := 70, pos := "law.go:203", after := #[], guard := none }) (v := ?v901006) rfl (by kernel_rfl) (by kernel_rfl) (by kernel_rfl) (fun _ _ _ h => h) (.inl ⟨by first | rfl | simp [Region.wanted, yielded], ?hy901006⟩) (by assumption) ?rest901006
      case hy901006 => (intro W hW; obtain ⟨⟨f1, f2⟩, f3, f4, f5⟩ := HCP.out _ hW; go_simp; try with_reducible rfl)
      simp only [Act.put, List.setIfInBounds_toArray, List.set_cons_zero, List.set_cons_succ]
      refine' wpAnyH_take (i := 6) (oi := { dst := some 57, op := Op.move (Operand.tmp 10), type := 3, pos := "law.go:203", after := #[], guard := none }) (v := ?v901007) rfl (by kernel_rfl) (by kernel_rfl) (by kernel_rfl) (fun _ _ _ h => h) (.inl ⟨by first | rfl | simp [Region.wanted, yielded], ?hy901007⟩) (by assumption) ?rest901007
      case hy901007 => (intro W hW; obtain ⟨⟨f1, f2⟩, f3, f4, f5⟩ := HCP.out _ hW; go_simp; try with_reducible rfl)
      simp only [Act.put, List.setIfInBounds_toArray, List.set_cons_zero, List.set_cons_succ]
      refine' wpAnyH_take (i := 7) (oi := { dst := some 58, op := Op.indexAddr 70 (Operand.tmp 56) (Operand.tmp 57), type := 0, pos := "law.go:203", after := #[{ on := 5, ground := Ground.data }, { on := 6, ground := Ground.data }], guard := none }) (v := ?v901008) rfl (by kernel_rfl) (by kernel_rfl) (by kernel_rfl) (fun _ _ _ h => h) (.inl ⟨by first | rfl | simp [Region.wanted, yielded], ?hy901008⟩) (by assumption) ?rest901008
      case hy901008 => (intro W hW; obtain ⟨⟨f1, f2⟩, f3, f4, f5⟩ := HCP.out _ hW; go_simp; try with_reducible rfl)
      simp only [Act.put, List.setIfInBounds_toArray, List.set_cons_zero, List.set_cons_succ]
      refine' wpAnyH_take (i := 8) (oi := { dst := some 59, op := Op.load 24 (Operand.tmp 58), type := 24, pos := "law.go:203", after := #[{ on := 7, ground := Ground.data }], guard := none }) (v := ?v901009) rfl (by kernel_rfl) (by kernel_rfl) (by kernel_rfl) (fun _ _ _ h => h) (.inl ⟨by first | rfl | simp [Region.wanted, yielded], ?hy901009⟩) (by assumption) ?rest901009
      case hy901009 => (intro W hW; obtain ⟨⟨f1, f2⟩, f3, f4, f5⟩ := HCP.out _ hW; go_simp; try with_reducible rfl)
      simp only [Act.put, List.setIfInBounds_toArray, List.set_cons_zero, List.set_cons_succ]
      refine wpAnyH_ready (rs := [9]) (by kernel_rfl) (by simp) ?_
      refine AllReadyH.cons (o := { dst := some 60, op := Op.call { callee := Callee.value (Operand.func 18), args := #[Operand.tmp 51, Operand.tmp 55, Operand.tmp 59], argTypes := #[30, 26, 24] }, type := 57, pos := "law.go:203", after := #[{ on := 0, ground := Ground.data }, { on := 4, ground := Ground.data }, { on := 8, ground := Ground.data }], guard := none }) rfl (fun K hK => ?_) (AllReadyH.nil)
      try simp only [List.getElem_toArray, List.getElem_cons_succ, List.getElem_cons_zero]
      have T2 := Lib.hid (T.out.below HBd.out)
      go_simp
      refine (T2.out.turn (fun K h => by
        have q := h.set_any xk (i := xi) (d := xd) HXB.out.1 HXB.out.2.1 HXB.out.2.2.1 HXB.out.2.2.2 HLT.out
        rw [← HWas.out, ← HHad.out, ← HKd.out] at q
        unfold tmV at q
        exact q)).mono ?_
      rintro e z0 ⟨rfl, hT⟩
      have HB1 := hT.bel
      have T3 := Lib.hid hT
      clear hT T2 hHeld
      refine hK.out _ _ HB1 (fun hHeld => ?_)
      clear hK K
      try simp only [Act.put, List.setIfInBounds_toArray, List.set_cons_zero, List.set_cons_succ]
      refine' wpAnyH_take (i := 10) (oi := { dst := some 50, op := Op.move (Operand.tmp 60), type := 57, pos := "law.go:203", after := #[{ on := 9, ground := Ground.data }], guard := none }) (v := ?v901010) rfl (by kernel_rfl) (by kernel_rfl) (by kernel_rfl) (fun _ _ _ h => h) (.inl ⟨by first | rfl | simp [Region.wanted, yielded], ?hy901010⟩) (by assumption) ?rest901010
      case hy901010 => (intro W hW; obtain ⟨⟨f1, f2⟩, f3, f4, f5⟩ := HCP.out _ hW; go_simp; try with_reducible rfl)
      simp only [Act.put, List.setIfInBounds_toArray, List.set_cons_zero, List.set_cons_succ]
      refine' wpAnyH_take (i := 11) (oi := { dst := some 61, op := Op.extract (Operand.tmp 50) 0, type := 24, pos := "law.go:203", after := #[{ on := 10, ground := Ground.data }], guard := none }) (v := ?v901011) rfl (by kernel_rfl) (by kernel_rfl) (by kernel_rfl) (fun _ _ _ h => h) (.inl ⟨by first | rfl | simp [Region.wanted, yielded], ?hy901011⟩) (by assumption) ?rest901011
      case hy901011 => (intro W hW; obtain ⟨⟨f1, f2⟩, f3, f4, f5⟩ := HCP.out _ hW; go_simp; try with_reducible rfl)
      simp only [Act.put, List.setIfInBounds_toArray, List.set_cons_zero, List.set_cons_succ]
      refine' wpAnyH_take (i := 12) (oi := { dst := some 62, op := Op.extract (Operand.tmp 50) 1, type := 4, pos := "law.go:203", after := #[{ on := 10, ground := Ground.data }, { on := 14, ground := Ground.gcOnly Departure.lateStores }], guard := none }) (v := ?v901012) rfl (by kernel_rfl) (by kernel_rfl) (by kernel_rfl) (fun _ _ _ h => h) (.inl ⟨by first | rfl | simp [Region.wanted, yielded], ?hy901012⟩) (by assumption) ?rest901012
      case hy901012 => (intro W hW; obtain ⟨⟨f1, f2⟩, f3, f4, f5⟩ := HCP.out _ hW; go_simp; try with_reducible rfl)
      simp only [Act.put, List.setIfInBounds_toArray, List.set_cons_zero, List.set_cons_succ]
      refine' wpAnyH_take (i := 13) (oi := { dst := some 63, op := Op.extract (Operand.tmp 50) 2, type := 31, pos := "law.go:203", after := #[{ on := 10, ground := Ground.data }, { on := 15, ground := Ground.gcOnly Departure.lateStores }], guard := none }) (v := ?v901013) rfl (by kernel_rfl) (by kernel_rfl) (by kernel_rfl) (fun _ _ _ h => h) (.inl ⟨by first | rfl | simp [Region.wanted, yielded], ?hy901013⟩) (by assumption) ?rest901013
      case hy901013 => (intro W hW; obtain ⟨⟨f1, f2⟩, f3, f4, f5⟩ := HCP.out _ hW; go_simp; try with_reducible rfl)
      simp only [Act.put, List.setIfInBounds_toArray, List.set_cons_zero, List.set_cons_succ]
      refine' wpAnyH_take (i := 14) (oi := { dst := some 11, op := Op.assign (Operand.tmp 61), type := 24, pos := "law.go:203", after := #[{ on := 11, ground := Ground.data }, { on := 9, ground := Ground.chain }, { on := 0, ground := Ground.phase }, { on := 1, ground := Ground.phase }, { on := 2, ground := Ground.phase }, { on := 3, ground := Ground.phase }, { on := 4, ground := Ground.phase }, { on := 5, ground := Ground.phase }, { on := 6, ground := Ground.phase }, { on := 7, ground := Ground.phase }, { on := 8, ground := Ground.phase }, { on := 9, ground := Ground.phase }, { on := 10, ground := Ground.phase }, { on := 11, ground := Ground.phase }, { on := 12, ground := Ground.textOnly Departure.lateStores }, { on := 13, ground := Ground.textOnly Departure.lateStores }], guard := none }) (v := ?v901014) rfl (by kernel_rfl) (by kernel_rfl) (by kernel_rfl) (fun _ _ _ h => h) (.inl ⟨by first | rfl | simp [Region.wanted, yielded], ?hy901014⟩) (by assumption) ?rest901014
      case hy901014 => (intro W hW; obtain ⟨⟨f1, f2⟩, f3, f4, f5⟩ := HCP.out _ hW; go_simp; try with_reducible rfl)
      simp only [Act.put, List.setIfInBounds_toArray, List.set_cons_zero, List.set_cons_succ]
      refine' wpAnyH_take (i := 15) (oi := { dst := some 12, op := Op.assign (Operand.tmp 62), type := 4, pos := "law.go:203", after := #[{ on := 12, ground := Ground.data }, { on := 14, ground := Ground.chain }, { on := 0, ground := Ground.phase }, { on := 1, ground := Ground.phase }, { on := 2, ground := Ground.phase }, { on := 3, ground := Ground.phase }, { on := 4, ground := Ground.phase }, { on := 5, ground := Ground.phase }, { on := 6, ground := Ground.phase }, { on := 7, ground := Ground.phase }, { on := 8, ground := Ground.phase }, { on := 9, ground := Ground.phase }, { on := 10, ground := Ground.phase }, { on := 11, ground := Ground.phase }, { on := 12, ground := Ground.phase }, { on := 13, ground := Ground.textOnly Departure.lateStores }, { on := 14, ground := Ground.phase }], guard := none }) (v := ?v901015) rfl (by kernel_rfl) (by kernel_rfl) (by kernel_rfl) (fun _ _ _ h => h) (.inl ⟨by first | rfl | simp [Region.wanted, yielded], ?hy901015⟩) (by assumption) ?rest901015
      case hy901015 => (intro W hW; obtain ⟨⟨f1, f2⟩, f3, f4, f5⟩ := HCP.out _ hW; go_simp; try with_reducible rfl)
      simp only [Act.put, List.setIfInBounds_toArray, List.set_cons_zero, List.set_cons_succ]
      refine' wpAnyH_take (i := 16) (oi := { dst := some 13, op := Op.assign (Operand.tmp 63), type := 31, pos := "law.go:203", after := #[{ on := 13, ground := Ground.data }, { on := 15, ground := Ground.chain }, { on := 0, ground := Ground.phase }, { on := 1, ground := Ground.phase }, { on := 2, ground := Ground.phase }, { on := 3, ground := Ground.phase }, { on := 4, ground := Ground.phase }, { on := 5, ground := Ground.phase }, { on := 6, ground := Ground.phase }, { on := 7, ground := Ground.phase }, { on := 8, ground := Ground.phase }, { on := 9, ground := Ground.phase }, { on := 10, ground := Ground.phase }, { on := 11, ground := Ground.phase }, { on := 12, ground := Ground.phase }, { on := 13, ground := Ground.phase }, { on := 14, ground := Ground.phase }, { on := 15, ground := Ground.phase }], guard := none }) (v := ?v901016) rfl (by kernel_rfl) (by kernel_rfl) (by kernel_rfl) (fun _ _ _ h => h) (.inl ⟨by first | rfl | simp [Region.wanted, yielded], ?hy901016⟩) (by assumption) ?rest901016
      case hy901016 => (intro W hW; obtain ⟨⟨f1, f2⟩, f3, f4, f5⟩ := HCP.out _ hW; go_simp; try with_reducible rfl)
      simp only [Act.put, List.setIfInBounds_toArray, List.set_cons_zero, List.set_cons_succ]
      refine wpAnyH_done (by kernel_rfl) ?_ _
      clear hHeld
      have hw1 : IntKind.i64.wrap ((j : Int) + 1) = (j : Int) + 1 := by rw [IntKind.wrap_i64]; omega
      have hw2 : IntKind.i64.wrap ((r : Int) + 1) = (r : Int) + 1 := by rw [IntKind.wrap_i64]; omega
      have hT4 := T3.out
      rw [← HNx.out] at hT4
      have T4 := Lib.hid hT4
      clear hT4 T3
      cases kd with
      | false =>
        go_wp2_with (go_at_call 13; refine (HNum.out _ _).mono ?_; rintro e w' ⟨rfl, rfl⟩)
        go_roundg (M - (j + 1))
        case measure => have := HG.out; omega
        case rel => exact ⟨j + 1, r, rfl, by go_num, by omega, rfl, by have := HLn.out; simpa using this.symm, T4.out⟩
      | true =>
        cases had with
        | true =>
          go_wp2_with (go_at_call 13; refine (HNum.out _ _).mono ?_; rintro e w' ⟨rfl, rfl⟩)
          go_roundg (M - (j + 1))
          case measure => have := HG.out; omega
          case rel => exact ⟨j + 1, r, rfl, by go_num, by omega, rfl, by have := HLn.out; simpa using this.symm, T4.out⟩
        | false =>
          go_wp2_with (go_at_call 13; refine (HNum.out _ _).mono ?_; rintro e w' ⟨rfl, rfl⟩)
          go_roundg (M - (j + 1))
          case measure => have := HG.out; omega
          case rel => exact ⟨j + 1, r + 1, by go_num, by go_num, by omega, rfl, by have := HLn.out; simpa using this.symm, T4.out⟩
    · have hjM : j = M := by omega
      subst hjM
      go_upto_region 6 with fail
      go_cut [47] (fun s wx => s = .bool false ∧ wx = wr)
      case first =>
        by_cases hab : j < na
        · have hjnb : ¬ j < nb := by have := HM.out; omega
          have e1 : decide ((j : Int) < na) = true := by simp; omega
          have e2 : decide ((j : Int) < nb) = false := by simp; omega
          have e3 : decide (j < na) = true := by simp; omega
          have e4 : decide (j < nb) = false := by simp; omega
          go_wp2
          go_meet
          exact ⟨rfl, rfl⟩
        · have e1 : decide ((j : Int) < na) = false := by simp; omega
          have e3 : decide (j < na) = false := by simp; omega
          go_wp2
          go_meet
          exact ⟨rfl, rfl⟩
      case rest =>
        obtain ⟨rfl, hwc⟩ := hcut
        obtain rfl : wr = wc := hwc.symm
        have hrr : ((r : Int) != (r : Int)) = false := by simp
        have hl : Hid (Calls Try.prog 23 #[.pointer (some ⟨p, 0, none⟩)] wr fun e w' => e = .returned (.int .i64 r) ∧ wr = w') := Lib.hid (by
          obtain ⟨K, h1, _⟩ := T.out.ex
          have := h1.length
          rw [← HR.out] at this
          exact this)
        go_wp2_with (first
          | (go_at_call 13; refine (HNum.out _ _).mono ?_; rintro e w' ⟨rfl, rfl⟩)
          | (go_at_call 23; refine hl.out.mono ?_; rintro e w' ⟨rfl, rfl⟩))
        obtain ⟨w2, hu⟩ : ∃ Y, Y = wr.alloc (.cells #[.int .i64 0, .int .u64 0] 26) := ⟨_, rfl⟩
        obtain ⟨XL, hX⟩ : ∃ Y, Y = wr.heap.size := ⟨_, rfl⟩
        have hT2 := T.out.box 0 0
        rw [← hu, ← hX] at hT2
        rw [← hu, ← hX]
        have T2 := Lib.hid hT2
        have HXL : Hid (w.heap.size ≤ XL) := Lib.hid (by rw [hX]; exact T.out.bel.size)
        clear hu hX hT2 hrr hl hlt hj
        obtain ⟨M, hMj⟩ : ∃ M, M = j := ⟨_, rfl⟩
        rw [← hMj] at HR T2 hM60
        have HMM : Hid (M = min na nb) := Lib.hid (by rw [hMj]; exact HM.out)
        have HPI : Hid (PopI z dd M (afterL z dd M) 0 0 0 r) := Lib.hid ⟨HR.out, .inl ⟨rfl, rfl, rfl⟩, fun x hx => hx⟩
        go_loopg [9, 14, 16, 17] (nc + 1) (fun gk v9 v14 v16 v17 wr2 => ∃ (i r : Nat) (now ta lk li : Int) (rem : List Rw), v9 = .int .i64 r ∧ v14 = .int .u64 now ∧ v16 = .int .u64 ta ∧ v17 = .int .i64 i ∧ i ≤ nc + 1 ∧ gk = nc + 1 - i ∧ (i = nc + 1 → rem = []) ∧ PopI z dd M rem lk li ta r ∧ r ≤ 60 ∧ (0 ≤ now ∧ now ≤ 18446744073709551615) ∧ TB w p 60 rem [(XL, lk, li)] wr2)
        case atStart => exact ⟨0, r, 0, 0, 0, 0, _, rfl, rfl, rfl, rfl, by omega, rfl, fun e => by omega, HPI.out, hr60, by omega, T2.out⟩
        case round =>
          clear HPI T2 HR hr60 T HG HM hMj
          obtain ⟨i, r, now, ta, lk, li, rem, rfl, rfl, rfl, rfl, hi, hgk, hend, hpi, hr60, ⟨hn0, hn1⟩, hT⟩ := hrel
          have HG := Lib.hid hgk
          have HE := Lib.hid hend
          have PI := Lib.hid hpi
          have T := Lib.hid hT
          have HNR := Lib.hid (And.intro hn0 hn1)
          clear hgk hend hpi hT hn0 hn1
          by_cases hlt : i < nc + 1
          · have e1 : decide ((i : Int) ≤ nc) = true := by simp; omega
            go_upto_region 19 with fail
            obtain ⟨now2, hnow2⟩ : ∃ x : Int, x = if i = nc then 18446744073709551615 else max now (tt i) := ⟨_, rfl⟩
            have HN2 := Lib.hid hnow2
            have HN3 : Hid (0 ≤ now2 ∧ now2 ≤ 18446744073709551615 ∧ (i = nc → now2 = 18446744073709551615)) := Lib.hid (by
              have hb := HNR.out
              rw [hnow2]
              by_cases e : i = nc
              · rw [if_pos e]; omega
              · rw [if_neg e]
                obtain ⟨bc, oc, _, _, hcc⟩ := HC.out (by omega)
                obtain ⟨_, q1, q2⟩ := hcc i (by omega)
                omega)
            clear hnow2
            obtain ⟨q, hq⟩ : ∃ q, q = decide (i = nc) := ⟨_, rfl⟩
            have e2 : ((i : Int) == (nc : Int)) = q := by rw [hq]; by_cases e : i = nc <;> simp [e]; omega
            have e3 : decide ((i : Int) = nc) = q := by rw [hq]; by_cases e : i = nc <;> simp [e]; omega
            have HQ := Lib.hid hq
            clear hq
            go_upto_if 91 with fail
            go_cut [14] (fun s wx => s = .int .u64 now2 ∧ wx = wr)
            case first =>
              cases q with
              | true =>
                have hq := of_decide_eq_true HQ.out.symm
                have hm := HN3.out.2.2 hq
                go_wp2
                go_meet
                exact ⟨by rw [hm], rfl⟩
              | false =>
                have hq := of_decide_eq_false HQ.out.symm
                obtain ⟨bc, oc, rfl, hbc, hcc⟩ := HC.out (by omega)
                obtain ⟨x, hx⟩ : ∃ x, x = tt i := ⟨_, rfl⟩
                have hm : now2 = max now x := by rw [hx]; have := HN2.out; rw [if_neg hq] at this; exact this
                have hci := (T.out.bel.cell (p := ⟨bc, oc + i, none⟩) hbc).trans (hcc i (by omega)).1
                rw [← hx] at hci
                have hbw := Nat.lt_of_lt_of_le hbc T.out.bel.size
                have hin : i < nc := by omega
                have hin2 : (i : Int) < nc := by omega
                have HMx := Lib.hid hm
                clear hcc hx hm hq
                rcases (show now < x ∨ x < now ∨ now = x by omega) with g | g | g
                · go_wp2
                  go_meet
                  exact ⟨by rw [HMx.out, Int.max_eq_right (by omega)], rfl⟩
                · go_wp2
                  go_meet
                  exact ⟨by rw [HMx.out, Int.max_eq_left (by omega)], rfl⟩
                · subst g
                  go_wp2
                  go_meet
                  exact ⟨by rw [HMx.out, Int.max_self], rfl⟩
            case rest =>
              obtain ⟨rfl, hwc⟩ := hcut
              obtain rfl : wr = wc := hwc.symm
              clear e2 e3 HQ HNR e1
              go_wp2_with fail
              go_loopg [9, 16, 18] 61 (fun gk v9 v16 v18 wr3 => ∃ (c r : Nat) (ta lk li : Int) (rem : List Rw), v9 = .int .i64 r ∧ v16 = .int .u64 ta ∧ v18 = .int .i64 c ∧ gk = 61 - c ∧ r + c ≤ 60 ∧ PopI z dd M rem lk li ta r ∧ TB w p 60 rem [(XL, lk, li)] wr3)
              case atStart => exact ⟨0, r, ta, lk, li, rem, rfl, rfl, rfl, rfl, by omega, PI.out, T.out⟩
              case round =>
                clear PI T HE
                have HGo := HG
                clear HG
                obtain ⟨c, r, ta, lk, li, rem, rfl, rfl, rfl, hgk, hrc, hpi, hT⟩ := hrel
                have HG := Lib.hid hgk
                have PI := Lib.hid hpi
                have T := Lib.hid hT
                clear hgk hpi hT
                have e1 : decide ((c : Int) ≤ 60) = true := by simp; omega
                by_cases hpop : ∀ x t, rem = x :: t → now2 < x.d
                · have hpc := hpop
                  cases rem with
                  | nil =>
                    go_wp2_with (go_at_call 21; fail)
                    refine (T.out.read (fun K h => h.pop_no now2 hpop)).mono ?_
                    rintro e w3 ⟨rfl, hT⟩
                    have T3 := Lib.hid hT
                    clear hT
                    go_wp2_with (go_at_call 22; fail)
                    obtain ⟨w4, hw4⟩ : ∃ Y, Y = w3.alloc (.cells #[.int .i64 0, .int .u64 0] 26) := ⟨_, rfl⟩
                    rw [← hw4]
                    have T4 := Lib.hid (T3.out.below (W' := w4) (by rw [hw4]; exact (Below.refl _ w3).alloc (Nat.le_refl _) _))
                    refine (T4.out.read (r := .tuple #[.int .u64 0, .bool false]) (fun K h => h.next)).mono ?_
                    rintro e w5 ⟨rfl, hT⟩
                    have T5 := Lib.hid hT
                    have hw1 : IntKind.i64.wrap ((i : Int) + 1) = (i : Int) + 1 := by rw [IntKind.wrap_i64]; omega
                    skip
                    clear hT hw4 T4 T3
                    go_wp2_with fail
                    go_roundg (nc + 1 - (i + 1))
                    case measure => have := HGo.out; omega
                    case rel =>
                      refine ⟨i + 1, r, now2, ta, lk, li, _, rfl, rfl, rfl, by go_num, by omega, rfl, fun e => ?_, PI.out, by omega, ⟨HN3.out.1, HN3.out.2.1⟩, T5.out⟩
                      rfl
                  | cons x t =>
                    obtain ⟨xk, xi, xd⟩ := x
                    have hxd : now2 < xd := hpop _ _ rfl
                    have d1 : decide (xd ≤ now2) = false := by simp; omega
                    have HXD := Lib.hid hxd
                    clear hxd
                    go_wp2_with (go_at_call 21; fail)
                    refine (T.out.read (fun K h => h.pop_no now2 hpop)).mono ?_
                    rintro e w3 ⟨rfl, hT⟩
                    have T3 := Lib.hid hT
                    clear hT
                    go_wp2_with (go_at_call 22; fail)
                    obtain ⟨w4, hw4⟩ : ∃ Y, Y = w3.alloc (.cells #[.int .i64 0, .int .u64 0] 26) := ⟨_, rfl⟩
                    rw [← hw4]
                    have T4 := Lib.hid (T3.out.below (W' := w4) (by rw [hw4]; exact (Below.refl _ w3).alloc (Nat.le_refl _) _))
                    refine (T4.out.read (r := .tuple #[.int .u64 xd, .bool true]) (fun K h => h.next)).mono ?_
                    rintro e w5 ⟨rfl, hT⟩
                    have T5 := Lib.hid hT
                    have hw1 : IntKind.i64.wrap ((i : Int) + 1) = (i : Int) + 1 := by rw [IntKind.wrap_i64]; omega
                    skip
                    clear hT hw4 T4 T3
                    go_wp2_with fail
                    go_roundg (nc + 1 - (i + 1))
                    case measure => have := HGo.out; omega
                    case rel =>
                      refine ⟨i + 1, r, now2, ta, lk, li, _, rfl, rfl, rfl, by go_num, by omega, rfl, fun e => ?_, PI.out, by omega, ⟨HN3.out.1, HN3.out.2.1⟩, T5.out⟩
                      have h9 := HN3.out.2.2 (by omega)
                      have h8 := (T.out.srt.ok _ (List.mem_cons_self ..)).d1
                      have h7 := HXD.out
                      simp only at h8
                      omega
                · obtain ⟨xk, xi, xd, t, hrem, hle⟩ : ∃ xk xi xd t, rem = ⟨xk, xi, xd⟩ :: t ∧ xd ≤ now2 := by
                    cases rem with
                    | nil => exact absurd (fun x t e => by cases e) hpop
                    | cons x t =>
                      obtain ⟨xk, xi, xd⟩ := x
                      refine ⟨xk, xi, xd, t, rfl, ?_⟩
                      rcases Int.lt_or_le now2 xd with g | g
                      · exact absurd (fun x' t' e => by cases e; exact g) hpop
                      · exact g
                  subst hrem
                  clear hpop
                  obtain ⟨hkd, j0, hj0, hzj, hdj, hzn⟩ := afterL_last z dd M ⟨xk, xi, xd⟩ (PI.out.sub _ (List.mem_cons_self ..))
                  simp only at hkd hzj hdj hzn
                  have hjna : j0 < na := by have := HMM.out; omega
                  have hjnb : j0 < nb := by have := HMM.out; omega
                  obtain ⟨r1, hr1⟩ : ∃ r1, r = r1 + 1 := ⟨t.length, PI.out.len⟩
                  have hwr : IntKind.i64.wrap ((r : Int) - 1) = r1 := by rw [IntKind.wrap_i64]; omega
                  have hwn : IntKind.i64.wrap ((na : Int) - 1) = (na : Int) - 1 := by rw [IntKind.wrap_i64]; omega
                  have HR1 := Lib.hid hr1
                  have HJ := Lib.hid (And.intro hzj (And.intro hdj hzn))
                  have HPI2 : Hid (PopI z dd M t xk xi xd r1) := Lib.hid ⟨by have := PI.out.len; simp at this; omega, .inr (List.pairwise_cons.1 T.out.srt.o).1, fun x hx => PI.out.sub x (by simp [hx])⟩
                  have HO : Hid ((lk = 0 ∧ li = 0 ∧ ta = 0) ∨ lt ⟨lk, li, ta⟩ ⟨xk, xi, xd⟩ = true) := Lib.hid (PI.out.ord.imp id fun h => h _ (by simp))
                  have HX0 := Lib.hid (T.out.srt.ok _ (List.mem_cons_self ..))
                  clear hkd hzj hdj hzn hr1
                  go_wp2_with (go_at_call 21; fail)
                  refine (T.out.turn (fun K h => by
                    have q := h.pop_yes now2 hle
                    unfold tmV at q
                    exact q)).mono ?_
                  rintro e w3 ⟨rfl, hT⟩
                  have T3 := Lib.hid hT
                  clear hT T PI
                  go_wp2_with fail
                  obtain ⟨w4, hw4⟩ : ∃ Y, Y = w3.alloc (.cells #[.int .i64 xk, .int .u64 xi] 26) := ⟨_, rfl⟩
                  obtain ⟨X, hX⟩ : ∃ Y, Y = w3.heap.size := ⟨_, rfl⟩
                  have hT4 := T3.out.box xk xi
                  rw [← hw4, ← hX] at hT4
                  rw [← hw4, ← hX]
                  have T4 := Lib.hid hT4
                  have HXX : Hid (X ≠ XL) := Lib.hid (by
                    have := blk_lt (T3.out.at (x := (XL, lk, li)) (by simp))
                    simp only at this
                    omega)
                  clear hw4 hX hT4 T3
                  go_loopg [22] na (fun gk v22 wr4 => ∃ y : Nat, v22 = .int .i64 y ∧ j0 ≤ y ∧ y < na ∧ gk = y + 1 ∧ TB w p 60 t [(X, xk, xi), (XL, lk, li)] wr4)
                  case atStart => exact ⟨na - 1, by
                    have : ((na - 1 : Nat) : Int) = (na : Int) - 1 := by omega
                    rw [this], by omega, by omega, by omega, T4.out⟩
                  case round =>
                    clear T4
                    have HGi := HG
                    clear HG
                    obtain ⟨y, rfl, hy1, hy2, hgk, hT⟩ := hrel
                    have HG := Lib.hid hgk
                    have T := Lib.hid hT
                    clear hgk hT
                    obtain ⟨ba, oa, rfl, hba, hca⟩ := HA.out (by omega)
                    obtain ⟨zk, hzk⟩ : ∃ x, x = (z y).1 := ⟨_, rfl⟩
                    obtain ⟨zi, hzi⟩ : ∃ x, x = (z y).2 := ⟨_, rfl⟩
                    have y0 := (T.out.bel.cell (p := ⟨ba, oa + y * 2, none⟩) hba).trans (hca y hy2).1
                    have y1 := (T.out.bel.cell (p := ⟨ba, oa + y * 2 + 1, none⟩) hba).trans (hca y hy2).2.1
                    rw [← hzk] at y0
                    rw [← hzi] at y1
                    have hbw := Nat.lt_of_lt_of_le hba T.out.bel.size
                    have b0 := T.out.at (x := (X, xk, xi)) (by simp)
                    have c0 := cell_blk b0 0 _ rfl
                    have c1 := cell_blk b0 1 _ rfl
                    have lX := blk_lt b0
                    have HZ : Hid (∀ q, q = decide (y ≠ j0) → y < nb → tmEq zk zi xk xi = !q) := Lib.hid (by
                      intro q hq hn
                      unfold tmEq
                      by_cases e : y = j0
                      · subst e
                        have := HJ.out.1
                        rw [hzk, hzi, this, hq]
                        simp
                      · have hz := HJ.out.2.2 y (by omega) (by have := HMM.out; omega)
                        have : ¬ (zk = xk ∧ zi = xi) := fun h => hz (by rw [← h.1, ← h.2, hzk, hzi])
                        rw [hq]
                        simp [this, e])
                    clear hca hzk hzi b0
                    obtain ⟨q, hq⟩ : ∃ q, q = decide (y ≠ j0) := ⟨_, rfl⟩
                    have HQ := Lib.hid hq
                    have d0 : decide ((0 : Int) ≤ y) = true := by simp
                    clear hq
                    go_upto_region 28 with fail
                    go_cut [129] (fun s wx => s = .bool q ∧ TB w p 60 t [(X, xk, xi), (XL, lk, li)] wx)
                    case first =>
                      by_cases hyb : y < nb
                      · have e1 : decide ((nb : Int) ≤ y) = false := by simp; omega
                        have e2 : tmEq zk zi xk xi = !q := HZ.out q HQ.out hyb
                        have e3 : (y : Int) < na := by omega
                        go_wp2_with fail
                        go_quiet (fail)
                        go_wp2
                        go_meet
                        exact ⟨by first | rfl | (simp [e2]; done) | (simp [e2]; intro h; omega), T.out.below (Below.drewN' _ _)⟩
                      · have e1 : decide ((nb : Int) ≤ y) = true := by simp; omega
                        have e2 : q = true := by rw [HQ.out]; simp; omega
                        go_wp2_with fail
                        go_quiet (fail)
                        go_wp2
                        go_meet
                        exact ⟨by first | rfl | (simp [e2]; done) | (simp [e2]; intro h; omega), T.out.below (Below.drewN' _ _)⟩
                    case rest =>
                      obtain ⟨rfl, hT⟩ := hcut
                      have Tc := Lib.hid hT
                      clear hT T c0 c1 lX y0 y1 hbw
                      cases q with
                      | true =>
                        have hyj : j0 < y := by have := of_decide_eq_true HQ.out.symm; omega
                        have hwy : IntKind.i64.wrap ((y : Int) - 1) = (y : Int) - 1 := by rw [IntKind.wrap_i64]; omega
                        go_wp2_with fail
                        go_roundg y
                        case measure => have := HG.out; omega
                        case rel => exact ⟨y - 1, by
                          have : ((y - 1 : Nat) : Int) = (y : Int) - 1 := by omega
                          rw [this], by omega, by omega, by omega, Tc.out⟩
                      | false =>
                        have hyj : y = j0 := by have := of_decide_eq_false HQ.out.symm; simpa using this
                        subst hyj
                        obtain ⟨bb, ob, rfl, hbb, hcb⟩ := HB.out (by omega)
                        have y4 := (Tc.out.bel.cell (p := ⟨bb, ob + y, none⟩) hbb).trans (hcb y hjnb).1
                        rw [HJ.out.2.1] at y4
                        have hbw := Nat.lt_of_lt_of_le hbb Tc.out.bel.size
                        have b0 := Tc.out.at (x := (X, xk, xi)) (by simp)
                        have c0 := cell_blk b0 0 _ rfl
                        have c1 := cell_blk b0 1 _ rfl
                        have lX := blk_lt b0
                        have b1 := Tc.out.at (x := (XL, lk, li)) (by simp)
                        have c2 := cell_blk b1 0 _ rfl
                        have c3 := cell_blk b1 1 _ rfl
                        have lXL := blk_lt b1
                        have fx0 := frozen_blk b1 0
                        have fx1 := frozen_blk b1 1
                        have g1 : decide ((y : Int) < 0) = false := by simp
                        have g2 : (y : Int) < nb := by omega
                        have g3 : (xd != xd) = false := by simp
                        have g4 : decide (now2 < xd) = false := by simp; omega
                        have g5 : decide (xd < ta) = false := by
                          have h := HO.out
                          have h9 := HX0.out.d0
                          rw [lt_iff] at h
                          simp only at h h9
                          simp
                          omega
                        have hw2 : IntKind.i64.wrap ((c : Int) + 1) = (c : Int) + 1 := by rw [IntKind.wrap_i64]; omega
                        have hcase : (xd ≠ ta) ∨ (xd = ta ∧ lk = 0) ∨ (xd = ta ∧ lk ≠ 0 ∧ lk < xk) ∨ (xd = ta ∧ lk ≠ 0 ∧ xk = lk ∧ li < xi) := by
                          have h := HO.out
                          rw [lt_iff] at h
                          simp only at h
                          omega
                        clear hcb b0 b1 HZ d0
                        have HFin : Hid (∀ W, W = (wc.setCell ⟨XL, 0, none⟩ (.int .i64 xk)).setCell ⟨XL, 1, none⟩ (.int .u64 xi) → TB w p 60 t [(XL, xk, xi)] W) := Lib.hid (fun W hW => by
                          rw [hW]
                          exact ((Tc.out.drop (B' := [(XL, lk, li), (X, xk, xi)]) (by simp)).setbox HXL.out (by simpa using HXX.out) xk xi).drop (by simp))
                        rcases hcase with g | ⟨g, g'⟩ | ⟨g, g', g''⟩ | ⟨g, g', g'', g3'⟩
                        · have q1 : (xd == ta) = false := by simpa using g
                          have q2 : decide (xd = ta) = false := by simpa using g
                          clear g
                          go_wp2_with fail
                          go_roundg (61 - (c + 1))
                          case measure => have := HGi.out; omega
                          case rel => exact ⟨c + 1, r1, xd, xk, xi, t, rfl, rfl, by go_num, rfl, by have := HR1.out; omega, HPI2.out, HFin.out _ rfl⟩
                        · subst g g'
                          have q1 : (xd == xd) = true := by simp
                          have q3 : ((0 : Int) != 0) = false := by simp
                          go_wp2_with fail
                          go_roundg (61 - (c + 1))
                          case measure => have := HGi.out; omega
                          case rel => exact ⟨c + 1, r1, xd, xk, xi, t, rfl, rfl, by go_num, rfl, by have := HR1.out; omega, HPI2.out, HFin.out _ rfl⟩
                        · subst g
                          have q1 : (xd == xd) = true := by simp
                          have q3 : (lk != 0) = true := by simpa using g'
                          have q4 : decide (xk < lk) = false := by simp; omega
                          have q5 : (xk == lk) = false := by simp; omega
                          have q6 : decide (xk = lk) = false := by simp; omega
                          clear g' g''
                          go_wp2_with fail
                          go_roundg (61 - (c + 1))
                          case measure => have := HGi.out; omega
                          case rel => exact ⟨c + 1, r1, xd, xk, xi, t, rfl, rfl, by go_num, rfl, by have := HR1.out; omega, HPI2.out, HFin.out _ rfl⟩
                        · subst g g''
                          have q1 : (xd == xd) = true := by simp
                          have q3 : (xk != 0) = true := by simpa using g'
                          have q4 : decide (xk < xk) = false := by simp
                          have q5 : (xk == xk) = true := by simp
                          have q6 : decide (xi ≤ li) = false := by simp; omega
                          clear g' g3'
                          go_wp2_with fail
                          go_roundg (61 - (c + 1))
                          case measure => have := HGi.out; omega
                          case rel => exact ⟨c + 1, r1, xd, xk, xi, t, rfl, rfl, by go_num, rfl, by have := HR1.out; omega, HPI2.out, HFin.out _ rfl⟩
          · have hin : i = nc + 1 := by omega
            have hrem := HE.out hin
            subst hrem
            have hr0 : r = 0 := PI.out.len
            subst hr0
            have e1 : decide ((i : Int) ≤ nc) = false := by simp; omega
            have hl : Hid (Calls Try.prog 23 #[.pointer (some ⟨p, 0, none⟩)] wr fun e w' => e = .returned (.int .i64 0) ∧ wr = w') := Lib.hid (by
              obtain ⟨K, h1, _⟩ := T.out.ex
              exact h1.length)
            go_wp2_with (first
              | (go_at_call 23; refine hl.out.mono ?_; rintro e w' ⟨rfl, rfl⟩)
              | (go_at_call 8; refine (HWk.out _).mono ?_; rintro e w' ⟨rfl, hb⟩; have HBz := Lib.hid (T.out.bel.trans (hb.mono T.out.bel.size)); clear hb))
            go_ret
            exact ⟨rfl, HBz.out⟩
end
end Go.Proofs.Ytnmbhcekcdicnaa
