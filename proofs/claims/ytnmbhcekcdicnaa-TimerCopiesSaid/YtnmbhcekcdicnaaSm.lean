/-
  Same, of timers and of the document's.
-/
import Derived.Test.YtnmbhcekcdicnaaEq
import Derived.Test.YtnmbhcekcdicnaaYa
import Derived.Deep.RegionHeld3
namespace Go.Proofs.Ytnmbhcekcdicnaa
open Go.RowKit
set_option linter.unusedVariables false
set_option linter.unusedSimpArgs false

set_option maxHeartbeats 3200000 in
set_option maxRecDepth 100000 in
theorem TS.same {K K' : Nat → Prop} {p p' : Nat} {most : Int} {l l' : List Rw} {w : World} (h : TS K p most l w) (h' : TS K' p' most l' w) :
    Calls Try.prog 17 #[.pointer (some ⟨p, 0, none⟩), .pointer (some ⟨p', 0, none⟩)] w fun e w' => e = .returned (.bool (decide (l = l'))) ∧ Below w.heap.size w w' := by
  obtain ⟨R, hR⟩ : ∃ R, R = decide (l = l') := ⟨_, rfl⟩
  rw [← hR]
  obtain ⟨ao, n, c, mb, g⟩ := h.ex
  obtain ⟨ao', n', c', mb', g'⟩ := h'.ex
  have HN := Lib.hid g.isT
  have HN' := Lib.hid g'.isT
  have HCP : Hid (∀ W', Below w.heap.size w W' → (W'.cell? ⟨p, 1, none⟩ = some (.map (some mb)) ∧ W'.cell? ⟨p, 2, none⟩ = some (.int .i64 most) ∧ W'.cell? ⟨p', 1, none⟩ = some (.map (some mb')) ∧ W'.cell? ⟨p', 2, none⟩ = some (.int .i64 most)) ∧ p < W'.heap.size ∧ p' < W'.heap.size) := Lib.hid fun W' hW => by
    have q := (g.below hW).blk
    have q' := (g'.below hW).blk
    exact ⟨⟨cell_blk q 1 _ rfl, cell_blk q 2 _ rfl, cell_blk q' 1 _ rfl, cell_blk q' 2 _ rfl⟩, blk_lt q, blk_lt q'⟩
  have HE : Hid (∀ W', Below w.heap.size w W' → Calls Try.prog 34 #[.map (some mb), .map (some mb')] W' fun e w' => e = .returned (.bool R) ∧ Below W'.heap.size W' w') := Lib.hid fun W' hW => by
    rw [hR]
    exact equal34 (g.below hW).map (g'.below hW).map g.srt g'.srt
  have e1 : (most == most) = true := by simp
  clear h h' g g' hR
  go_enter Try.func17, Try.ntmps17
  go_wp2_with (go_at_call 30; fail)
  refine HN.out.mono ?_
  rintro e w' ⟨rfl, rfl⟩
  go_wp2_with (go_at_call 30; fail)
  refine HN'.out.mono ?_
  rintro e w' ⟨rfl, rfl⟩
  go_upto_region 3 with fail
  obtain ⟨wd, hwd⟩ : ∃ W, W = (w).drew := ⟨_, rfl⟩
  have HBd : Hid (Below (w).heap.size (w) wd) := Lib.hid (by rw [hwd]; exact Below.drewN' (w) 1)
  have hS0 : (fun W : World => Below w.heap.size w W) wd := by rw [hwd]; exact (Below.drewN' w 1)
  refine wp_region_held_drew (S := fun W => Below w.heap.size w W) (by kernel_rfl) (by rw [← hwd]; exact hS0) (fun hHeld => ?_)
  rw [← hwd] at hHeld ⊢
  clear hwd hS0
  refine' wpAnyH_take (i := 0) (oi := { dst := some 17, op := Op.move (Operand.tmp 0), type := 30, pos := "timer.go:170", after := #[], guard := none }) (v := ?v601001) rfl (by kernel_rfl) (by kernel_rfl) (by kernel_rfl) (fun _ _ _ h => h) (.inl ⟨by first | rfl | simp [Region.wanted, yielded], ?hy601001⟩) (by assumption) ?rest601001
  case hy601001 => (intro W hW; obtain ⟨⟨f1, f2, f3, f4⟩, f5, f6⟩ := HCP.out _ hW; go_simp; try with_reducible rfl)
  simp only [Act.put, List.setIfInBounds_toArray, List.set_cons_zero, List.set_cons_succ]
  refine' wpAnyH_take (i := 1) (oi := { dst := some 18, op := Op.nilCheck (Operand.tmp 17), type := 0, pos := "timer.go:170", after := #[{ on := 0, ground := Ground.data }], guard := none }) (v := ?v601002) rfl (by kernel_rfl) (by kernel_rfl) (by kernel_rfl) (fun _ _ _ h => h) (.inl ⟨by first | rfl | simp [Region.wanted, yielded], ?hy601002⟩) (by assumption) ?rest601002
  case hy601002 => (intro W hW; obtain ⟨⟨f1, f2, f3, f4⟩, f5, f6⟩ := HCP.out _ hW; go_simp; try with_reducible rfl)
  simp only [Act.put, List.setIfInBounds_toArray, List.set_cons_zero, List.set_cons_succ]
  refine' wpAnyH_take (i := 2) (oi := { dst := some 19, op := Op.fieldAddr 56 (Operand.tmp 18) 2, type := 0, pos := "timer.go:170", after := #[{ on := 1, ground := Ground.data }], guard := none }) (v := ?v601003) rfl (by kernel_rfl) (by kernel_rfl) (by kernel_rfl) (fun _ _ _ h => h) (.inl ⟨by first | rfl | simp [Region.wanted, yielded], ?hy601003⟩) (by assumption) ?rest601003
  case hy601003 => (intro W hW; obtain ⟨⟨f1, f2, f3, f4⟩, f5, f6⟩ := HCP.out _ hW; go_simp; try with_reducible rfl)
  simp only [Act.put, List.setIfInBounds_toArray, List.set_cons_zero, List.set_cons_succ]
  refine' wpAnyH_take (i := 3) (oi := { dst := some 20, op := Op.load 3 (Operand.tmp 19), type := 3, pos := "timer.go:170", after := #[{ on := 2, ground := Ground.data }], guard := none }) (v := ?v601004) rfl (by kernel_rfl) (by kernel_rfl) (by kernel_rfl) (fun _ _ _ h => h) (.inl ⟨by first | rfl | simp [Region.wanted, yielded], ?hy601004⟩) (by assumption) ?rest601004
  case hy601004 => (intro W hW; obtain ⟨⟨f1, f2, f3, f4⟩, f5, f6⟩ := HCP.out _ hW; go_simp; try with_reducible rfl)
  simp only [Act.put, List.setIfInBounds_toArray, List.set_cons_zero, List.set_cons_succ]
  refine' wpAnyH_take (i := 4) (oi := { dst := some 21, op := Op.move (Operand.tmp 1), type := 30, pos := "timer.go:170", after := #[], guard := none }) (v := ?v601005) rfl (by kernel_rfl) (by kernel_rfl) (by kernel_rfl) (fun _ _ _ h => h) (.inl ⟨by first | rfl | simp [Region.wanted, yielded], ?hy601005⟩) (by assumption) ?rest601005
  case hy601005 => (intro W hW; obtain ⟨⟨f1, f2, f3, f4⟩, f5, f6⟩ := HCP.out _ hW; go_simp; try with_reducible rfl)
  simp only [Act.put, List.setIfInBounds_toArray, List.set_cons_zero, List.set_cons_succ]
  refine' wpAnyH_take (i := 5) (oi := { dst := some 22, op := Op.nilCheck (Operand.tmp 21), type := 0, pos := "timer.go:170", after := #[{ on := 4, ground := Ground.data }], guard := none }) (v := ?v601006) rfl (by kernel_rfl) (by kernel_rfl) (by kernel_rfl) (fun _ _ _ h => h) (.inl ⟨by first | rfl | simp [Region.wanted, yielded], ?hy601006⟩) (by assumption) ?rest601006
  case hy601006 => (intro W hW; obtain ⟨⟨f1, f2, f3, f4⟩, f5, f6⟩ := HCP.out _ hW; go_simp; try with_reducible rfl)
  simp only [Act.put, List.setIfInBounds_toArray, List.set_cons_zero, List.set_cons_succ]
  refine' wpAnyH_take (i := 6) (oi := { dst := some 23, op := Op.fieldAddr 56 (Operand.tmp 22) 2, type := 0, pos := "timer.go:170", after := #[{ on := 5, ground := Ground.data }], guard := none }) (v := ?v601007) rfl (by kernel_rfl) (by kernel_rfl) (by kernel_rfl) (fun _ _ _ h => h) (.inl ⟨by first | rfl | simp [Region.wanted, yielded], ?hy601007⟩) (by assumption) ?rest601007
  case hy601007 => (intro W hW; obtain ⟨⟨f1, f2, f3, f4⟩, f5, f6⟩ := HCP.out _ hW; go_simp; try with_reducible rfl)
  simp only [Act.put, List.setIfInBounds_toArray, List.set_cons_zero, List.set_cons_succ]
  refine' wpAnyH_take (i := 7) (oi := { dst := some 24, op := Op.load 3 (Operand.tmp 23), type := 3, pos := "timer.go:170", after := #[{ on := 6, ground := Ground.data }], guard := none }) (v := ?v601008) rfl (by kernel_rfl) (by kernel_rfl) (by kernel_rfl) (fun _ _ _ h => h) (.inl ⟨by first | rfl | simp [Region.wanted, yielded], ?hy601008⟩) (by assumption) ?rest601008
  case hy601008 => (intro W hW; obtain ⟨⟨f1, f2, f3, f4⟩, f5, f6⟩ := HCP.out _ hW; go_simp; try with_reducible rfl)
  simp only [Act.put, List.setIfInBounds_toArray, List.set_cons_zero, List.set_cons_succ]
  refine' wpAnyH_take (i := 8) (oi := { dst := some 25, op := Op.binOp BinOp.eql 3 (Operand.tmp 20) (Operand.tmp 24) 3, type := 4, pos := "timer.go:170", after := #[{ on := 3, ground := Ground.data }, { on := 7, ground := Ground.data }], guard := none }) (v := ?v601009) rfl (by kernel_rfl) (by kernel_rfl) (by kernel_rfl) (fun _ _ _ h => h) (.inl ⟨by first | rfl | simp [Region.wanted, yielded], ?hy601009⟩) (by assumption) ?rest601009
  case hy601009 => (intro W hW; obtain ⟨⟨f1, f2, f3, f4⟩, f5, f6⟩ := HCP.out _ hW; go_simp; try with_reducible rfl)
  simp only [Act.put, List.setIfInBounds_toArray, List.set_cons_zero, List.set_cons_succ]
  refine' wpAnyH_take (i := 9) (oi := { dst := some 26, op := Op.move (Operand.tmp 25), type := 4, pos := "timer.go:170", after := #[{ on := 8, ground := Ground.data }], guard := none }) (v := ?v601010) rfl (by kernel_rfl) (by kernel_rfl) (by kernel_rfl) (fun _ _ _ h => h) (.inl ⟨by first | rfl | simp [Region.wanted, yielded], ?hy601010⟩) (by assumption) ?rest601010
  case hy601010 => (intro W hW; obtain ⟨⟨f1, f2, f3, f4⟩, f5, f6⟩ := HCP.out _ hW; go_simp; try with_reducible rfl)
  simp only [Act.put, List.setIfInBounds_toArray, List.set_cons_zero, List.set_cons_succ]
  refine' wpAnyH_take (i := 10) (oi := { dst := some 27, op := Op.move (Operand.tmp 0), type := 30, pos := "timer.go:170", after := #[{ on := 9, ground := Ground.guard }], guard := some (9, true) }) (v := ?v601011) rfl (by kernel_rfl) (by kernel_rfl) (by kernel_rfl) (fun _ _ _ h => h) (.inl ⟨by first | rfl | simp [Region.wanted, yielded], ?hy601011⟩) (by assumption) ?rest601011
  case hy601011 => (intro W hW; obtain ⟨⟨f1, f2, f3, f4⟩, f5, f6⟩ := HCP.out _ hW; go_simp; try with_reducible rfl)
  simp only [Act.put, List.setIfInBounds_toArray, List.set_cons_zero, List.set_cons_succ]
  refine' wpAnyH_take (i := 11) (oi := { dst := some 28, op := Op.nilCheck (Operand.tmp 27), type := 0, pos := "timer.go:170", after := #[{ on := 10, ground := Ground.data }, { on := 9, ground := Ground.guard }], guard := some (9, true) }) (v := ?v601012) rfl (by kernel_rfl) (by kernel_rfl) (by kernel_rfl) (fun _ _ _ h => h) (.inl ⟨by first | rfl | simp [Region.wanted, yielded], ?hy601012⟩) (by assumption) ?rest601012
  case hy601012 => (intro W hW; obtain ⟨⟨f1, f2, f3, f4⟩, f5, f6⟩ := HCP.out _ hW; go_simp; try with_reducible rfl)
  simp only [Act.put, List.setIfInBounds_toArray, List.set_cons_zero, List.set_cons_succ]
  refine' wpAnyH_take (i := 12) (oi := { dst := some 29, op := Op.fieldAddr 56 (Operand.tmp 28) 1, type := 0, pos := "timer.go:170", after := #[{ on := 11, ground := Ground.data }, { on := 9, ground := Ground.guard }], guard := some (9, true) }) (v := ?v601013) rfl (by kernel_rfl) (by kernel_rfl) (by kernel_rfl) (fun _ _ _ h => h) (.inl ⟨by first | rfl | simp [Region.wanted, yielded], ?hy601013⟩) (by assumption) ?rest601013
  case hy601013 => (intro W hW; obtain ⟨⟨f1, f2, f3, f4⟩, f5, f6⟩ := HCP.out _ hW; go_simp; try with_reducible rfl)
  simp only [Act.put, List.setIfInBounds_toArray, List.set_cons_zero, List.set_cons_succ]
  refine' wpAnyH_take (i := 13) (oi := { dst := some 30, op := Op.load 54 (Operand.tmp 29), type := 54, pos := "timer.go:170", after := #[{ on := 12, ground := Ground.data }, { on := 9, ground := Ground.guard }], guard := some (9, true) }) (v := ?v601014) rfl (by kernel_rfl) (by kernel_rfl) (by kernel_rfl) (fun _ _ _ h => h) (.inl ⟨by first | rfl | simp [Region.wanted, yielded], ?hy601014⟩) (by assumption) ?rest601014
  case hy601014 => (intro W hW; obtain ⟨⟨f1, f2, f3, f4⟩, f5, f6⟩ := HCP.out _ hW; go_simp; try with_reducible rfl)
  simp only [Act.put, List.setIfInBounds_toArray, List.set_cons_zero, List.set_cons_succ]
  refine' wpAnyH_take (i := 14) (oi := { dst := some 31, op := Op.move (Operand.tmp 1), type := 30, pos := "timer.go:170", after := #[{ on := 9, ground := Ground.guard }], guard := some (9, true) }) (v := ?v601015) rfl (by kernel_rfl) (by kernel_rfl) (by kernel_rfl) (fun _ _ _ h => h) (.inl ⟨by first | rfl | simp [Region.wanted, yielded], ?hy601015⟩) (by assumption) ?rest601015
  case hy601015 => (intro W hW; obtain ⟨⟨f1, f2, f3, f4⟩, f5, f6⟩ := HCP.out _ hW; go_simp; try with_reducible rfl)
  simp only [Act.put, List.setIfInBounds_toArray, List.set_cons_zero, List.set_cons_succ]
  refine' wpAnyH_take (i := 15) (oi := { dst := some 32, op := Op.nilCheck (Operand.tmp 31), type := 0, pos := "timer.go:170", after := #[{ on := 14, ground := Ground.data }, { on := 9, ground := Ground.guard }], guard := some (9, true) }) (v := ?v601016) rfl (by kernel_rfl) (by kernel_rfl) (by kernel_rfl) (fun _ _ _ h => h) (.inl ⟨by first | rfl | simp [Region.wanted, yielded], ?hy601016⟩) (by assumption) ?rest601016
  case hy601016 => (intro W hW; obtain ⟨⟨f1, f2, f3, f4⟩, f5, f6⟩ := HCP.out _ hW; go_simp; try with_reducible rfl)
  simp only [Act.put, List.setIfInBounds_toArray, List.set_cons_zero, List.set_cons_succ]
  refine' wpAnyH_take (i := 16) (oi := { dst := some 33, op := Op.fieldAddr 56 (Operand.tmp 32) 1, type := 0, pos := "timer.go:170", after := #[{ on := 15, ground := Ground.data }, { on := 9, ground := Ground.guard }], guard := some (9, true) }) (v := ?v601017) rfl (by kernel_rfl) (by kernel_rfl) (by kernel_rfl) (fun _ _ _ h => h) (.inl ⟨by first | rfl | simp [Region.wanted, yielded], ?hy601017⟩) (by assumption) ?rest601017
  case hy601017 => (intro W hW; obtain ⟨⟨f1, f2, f3, f4⟩, f5, f6⟩ := HCP.out _ hW; go_simp; try with_reducible rfl)
  simp only [Act.put, List.setIfInBounds_toArray, List.set_cons_zero, List.set_cons_succ]
  refine' wpAnyH_take (i := 17) (oi := { dst := some 34, op := Op.load 54 (Operand.tmp 33), type := 54, pos := "timer.go:170", after := #[{ on := 16, ground := Ground.data }, { on := 9, ground := Ground.guard }], guard := some (9, true) }) (v := ?v601018) rfl (by kernel_rfl) (by kernel_rfl) (by kernel_rfl) (fun _ _ _ h => h) (.inl ⟨by first | rfl | simp [Region.wanted, yielded], ?hy601018⟩) (by assumption) ?rest601018
  case hy601018 => (intro W hW; obtain ⟨⟨f1, f2, f3, f4⟩, f5, f6⟩ := HCP.out _ hW; go_simp; try with_reducible rfl)
  simp only [Act.put, List.setIfInBounds_toArray, List.set_cons_zero, List.set_cons_succ]
  refine wpAnyH_ready (rs := [18]) (by kernel_rfl) (by simp) ?_
  refine AllReadyH.cons (o := { dst := some 35, op := Op.call { callee := Callee.value (Operand.func 34), args := #[Operand.tmp 30, Operand.tmp 34], argTypes := #[54, 54] }, type := 4, pos := "timer.go:170", after := #[{ on := 13, ground := Ground.data }, { on := 17, ground := Ground.data }, { on := 9, ground := Ground.chain }, { on := 9, ground := Ground.guard }], guard := some (9, true) }) rfl (fun KK hK => ?_) (AllReadyH.nil)
  try simp only [List.getElem_toArray, List.getElem_cons_succ, List.getElem_cons_zero]
  go_simp
  refine (HE.out _ hHeld).mono ?_
  rintro e z0 ⟨rfl, hz⟩
  have hHeld1 : (fun W : World => Below w.heap.size w W) z0 := hHeld.trans (hz.mono hHeld.size)
  clear hz hHeld
  refine hK.out _ _ (by assumption) (fun hHeld => ?_)
  clear hK KK
  try simp only [Act.put, List.setIfInBounds_toArray, List.set_cons_zero, List.set_cons_succ]
  refine' wpAnyH_take (i := 19) (oi := { dst := some 36, op := Op.pick (Operand.tmp 26) (Operand.tmp 35) (Operand.const (Value.bool false)), type := 4, pos := "timer.go:170", after := #[{ on := 9, ground := Ground.data }, { on := 18, ground := Ground.data }], guard := none }) (v := ?v601019) rfl (by kernel_rfl) (by kernel_rfl) (by kernel_rfl) (fun _ _ _ h => h) (.inl ⟨by first | rfl | simp [Region.wanted, yielded], ?hy601019⟩) (by assumption) ?rest601019
  case hy601019 => (intro W hW; obtain ⟨⟨f1, f2, f3, f4⟩, f5, f6⟩ := HCP.out _ hW; go_simp; try with_reducible rfl)
  simp only [Act.put, List.setIfInBounds_toArray, List.set_cons_zero, List.set_cons_succ]
  refine' wpAnyH_take (i := 20) (oi := { dst := some 4, op := Op.assign (Operand.tmp 36), type := 4, pos := "timer.go:170", after := #[{ on := 19, ground := Ground.data }, { on := 18, ground := Ground.chain }, { on := 0, ground := Ground.phase }, { on := 1, ground := Ground.phase }, { on := 2, ground := Ground.phase }, { on := 3, ground := Ground.phase }, { on := 4, ground := Ground.phase }, { on := 5, ground := Ground.phase }, { on := 6, ground := Ground.phase }, { on := 7, ground := Ground.phase }, { on := 8, ground := Ground.phase }, { on := 9, ground := Ground.phase }, { on := 10, ground := Ground.phase }, { on := 11, ground := Ground.phase }, { on := 12, ground := Ground.phase }, { on := 13, ground := Ground.phase }, { on := 14, ground := Ground.phase }, { on := 15, ground := Ground.phase }, { on := 16, ground := Ground.phase }, { on := 17, ground := Ground.phase }, { on := 18, ground := Ground.phase }, { on := 19, ground := Ground.phase }], guard := none }) (v := ?v601020) rfl (by kernel_rfl) (by kernel_rfl) (by kernel_rfl) (fun _ _ _ h => h) (.inl ⟨by first | rfl | simp [Region.wanted, yielded], ?hy601020⟩) (by assumption) ?rest601020
  case hy601020 => (intro W hW; obtain ⟨⟨f1, f2, f3, f4⟩, f5, f6⟩ := HCP.out _ hW; go_simp; try with_reducible rfl)
  simp only [Act.put, List.setIfInBounds_toArray, List.set_cons_zero, List.set_cons_succ]
  refine wpAnyH_done (by kernel_rfl) ?_ _
  go_wp2
  go_ret
  exact ⟨rfl, hHeld1⟩
end Go.Proofs.Ytnmbhcekcdicnaa
