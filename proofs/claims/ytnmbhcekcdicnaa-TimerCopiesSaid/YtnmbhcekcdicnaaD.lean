/-
  How two rows stand, walked.
-/
import Derived.Test.YtnmbhcekcdicnaaC
import Derived.Deep.RegionHeld3
namespace Go.Proofs.Ytnmbhcekcdicnaa
open Go.RowKit
set_option linter.unusedVariables false
set_option linter.unusedSimpArgs false
/-- A row as a value. -/
def rwV (r : Rw) : Value := .agg #[.int .i64 r.k, .int .u64 r.i, .int .u64 r.d]
set_option maxHeartbeats 1600000 in
set_option maxRecDepth 100000 in
theorem order38 (a b : Rw) (w : World) : Calls Try.prog 38 #[rwV a, rwV b] w fun e w' => e = .returned (.int .i64 (ordR a b)) ∧ Below w.heap.size w w' := by
  obtain ⟨ak, ai, ad⟩ := a
  obtain ⟨bk, bi, bd⟩ := b
  unfold rwV ordR
  dsimp only
  obtain ⟨cd, hcd⟩ : ∃ c, c = cmpI ad bd := ⟨_, rfl⟩
  obtain ⟨ck, hck⟩ : ∃ c, c = cmpI ak bk := ⟨_, rfl⟩
  obtain ⟨ci, hci⟩ : ∃ c, c = cmpI ai bi := ⟨_, rfl⟩
  have HC44d : Hid (∀ W, Calls Try.prog 44 #[.int .u64 ad, .int .u64 bd] W fun e w' => e = .returned (.int .i64 cd) ∧ W = w') := Lib.hid fun W => by rw [hcd]; exact compare44 _ _ W
  have HC44 : Hid (∀ W, Calls Try.prog 44 #[.int .u64 ai, .int .u64 bi] W fun e w' => e = .returned (.int .i64 ci) ∧ W = w') := Lib.hid fun W => by rw [hci]; exact compare44 _ _ W
  have HC46 : Hid (∀ W, Calls Try.prog 46 #[.int .i64 ak, .int .i64 bk] W fun e w' => e = .returned (.int .i64 ck) ∧ W = w') := Lib.hid fun W => by rw [hck]; exact compare46 _ _ W
  rw [← hcd, ← hck, ← hci]
  obtain ⟨R, hR⟩ : ∃ R, R = if cd ≠ 0 then cd else if ck ≠ 0 then ck else ci := ⟨_, rfl⟩
  rw [← hR]
  obtain ⟨u0, hu0⟩ : ∃ W, W = w.alloc (.cells #[.int .i64 ak, .int .u64 ai, .int .u64 ad] 80) := ⟨_, rfl⟩
  obtain ⟨u1, hu1⟩ : ∃ W, W = u0.alloc (.cells #[.int .i64 bk, .int .u64 bi, .int .u64 bd] 80) := ⟨_, rfl⟩
  obtain ⟨X, hX⟩ : ∃ X, X = w.heap.size := ⟨_, rfl⟩
  have s0 : u0.heap.size = X + 1 := by rw [hu0, hX]; simp
  have v0 : Below w.heap.size w u0 := by rw [hu0]; exact (Below.refl _ w).alloc (Nat.le_refl _) _
  have v1 : Below w.heap.size w u1 := by rw [hu1]; exact v0.alloc v0.size _
  have kk0 : u1.heap[X]? = some (.cells #[.int .i64 ak, .int .u64 ai, .int .u64 ad] 80 (0, 0)) := by rw [hu1]; refine alloc_blk ?_ _; rw [hu0, hX]; exact alloc_blk_new _ _
  have kk1 : u1.heap[X + 1]? = some (.cells #[.int .i64 bk, .int .u64 bi, .int .u64 bd] 80 (0, 0)) := by rw [hu1, ← s0]; exact alloc_blk_new _ _
  have HCP : Hid (∀ W, Below u1.heap.size u1 W → ((W.cell? ⟨X, 0, none⟩ = some (.int .i64 ak) ∧ W.cell? ⟨X, 1, none⟩ = some (.int .u64 ai) ∧ W.cell? ⟨X, 2, none⟩ = some (.int .u64 ad)) ∧ (W.cell? ⟨X + 1, 0, none⟩ = some (.int .i64 bk) ∧ W.cell? ⟨X + 1, 1, none⟩ = some (.int .u64 bi) ∧ W.cell? ⟨X + 1, 2, none⟩ = some (.int .u64 bd))) ∧ X < W.heap.size ∧ X + 1 < W.heap.size) := Lib.hid fun W hW => by
    have q := (hW.block _ (blk_lt kk0)).trans kk0
    have q' := (hW.block _ (blk_lt kk1)).trans kk1
    exact ⟨⟨⟨cell_blk q 0 _ rfl, cell_blk q 1 _ rfl, cell_blk q 2 _ rfl⟩, ⟨cell_blk q' 0 _ rfl, cell_blk q' 1 _ rfl, cell_blk q' 2 _ rfl⟩⟩, blk_lt q, blk_lt q'⟩
  have EX := Lib.hid hX
  have EU0 := Lib.hid hu0
  have EU1 := Lib.hid hu1
  have B1 := Lib.hid v1
  obtain ⟨⟨⟨c0, c1, c2⟩, ⟨e0, e1, e2⟩⟩, lx, ly⟩ := HCP.out u1 (Below.refl _ _)
  clear hX hu0 hu1 s0 v0 v1 kk0 kk1 hcd hck hci
  by_cases hd : cd = 0
  case neg =>
    rw [if_pos hd] at hR
    subst hR
    have d : (R != 0) = true := by simpa using hd
    clear hd
    go_enter Try.func38, Try.ntmps38
    go_wp2_with (go_at_call 44; fail)
    rw [← EU0.out, ← EU1.out]
    try rw [← EX.out]
    refine (HC44d.out _).mono ?_
    rintro e z ⟨rfl, rfl⟩
    go_wp2
    go_ret
    exact ⟨rfl, B1.out⟩
  rw [if_neg (by simpa using hd)] at hR
  subst hd
  have HR := Lib.hid hR
  clear hR
  go_enter Try.func38, Try.ntmps38
  go_wp2_with (go_at_call 44; fail)
  rw [← EU0.out, ← EU1.out]
  try rw [← EX.out]
  refine (HC44d.out _).mono ?_
  rintro e z ⟨rfl, rfl⟩
  go_upto_region 4 with fail
  refine wp_region_held_drew (S := fun W => Below u1.heap.size u1 W) (by kernel_rfl) (Below.drewN' u1 1) (fun hHeld => ?_)
  generalize u1.drew = wd at hHeld ⊢
  refine' wpAnyH_take (i := 0) (oi := { dst := some 14, op := Op.fieldAddr 80 (Operand.tmp 2) 0, type := 0, pos := "timer.go:24", after := #[], guard := none }) (v := ?v301001) rfl (by kernel_rfl) (by kernel_rfl) (by kernel_rfl) (fun _ _ _ h => h) (.inl ⟨by first | rfl | simp [Region.wanted, yielded], ?hy301001⟩) (by assumption) ?rest301001
  case hy301001 => (intro W hW; obtain ⟨⟨⟨f1, f2, f3⟩, ⟨f4, f5, f6⟩⟩, f7, f8⟩ := HCP.out _ hW; go_simp; try with_reducible rfl)
  simp only [Act.put, List.setIfInBounds_toArray, List.set_cons_zero, List.set_cons_succ]
  refine' wpAnyH_take (i := 1) (oi := { dst := some 15, op := Op.fieldAddr 26 (Operand.tmp 14) 0, type := 0, pos := "timer.go:24", after := #[{ on := 0, ground := Ground.data }], guard := none }) (v := ?v301002) rfl (by kernel_rfl) (by kernel_rfl) (by kernel_rfl) (fun _ _ _ h => h) (.inl ⟨by first | rfl | simp [Region.wanted, yielded], ?hy301002⟩) (by assumption) ?rest301002
  case hy301002 => (intro W hW; obtain ⟨⟨⟨f1, f2, f3⟩, ⟨f4, f5, f6⟩⟩, f7, f8⟩ := HCP.out _ hW; go_simp; try with_reducible rfl)
  simp only [Act.put, List.setIfInBounds_toArray, List.set_cons_zero, List.set_cons_succ]
  refine' wpAnyH_take (i := 2) (oi := { dst := some 16, op := Op.load 23 (Operand.tmp 15), type := 23, pos := "timer.go:24", after := #[{ on := 1, ground := Ground.data }], guard := none }) (v := ?v301003) rfl (by kernel_rfl) (by kernel_rfl) (by kernel_rfl) (fun _ _ _ h => h) (.inl ⟨by first | rfl | simp [Region.wanted, yielded], ?hy301003⟩) (by assumption) ?rest301003
  case hy301003 => (intro W hW; obtain ⟨⟨⟨f1, f2, f3⟩, ⟨f4, f5, f6⟩⟩, f7, f8⟩ := HCP.out _ hW; go_simp; try with_reducible rfl)
  simp only [Act.put, List.setIfInBounds_toArray, List.set_cons_zero, List.set_cons_succ]
  refine' wpAnyH_take (i := 3) (oi := { dst := some 17, op := Op.fieldAddr 80 (Operand.tmp 3) 0, type := 0, pos := "timer.go:24", after := #[], guard := none }) (v := ?v301004) rfl (by kernel_rfl) (by kernel_rfl) (by kernel_rfl) (fun _ _ _ h => h) (.inl ⟨by first | rfl | simp [Region.wanted, yielded], ?hy301004⟩) (by assumption) ?rest301004
  case hy301004 => (intro W hW; obtain ⟨⟨⟨f1, f2, f3⟩, ⟨f4, f5, f6⟩⟩, f7, f8⟩ := HCP.out _ hW; go_simp; try with_reducible rfl)
  simp only [Act.put, List.setIfInBounds_toArray, List.set_cons_zero, List.set_cons_succ]
  refine' wpAnyH_take (i := 4) (oi := { dst := some 18, op := Op.fieldAddr 26 (Operand.tmp 17) 0, type := 0, pos := "timer.go:24", after := #[{ on := 3, ground := Ground.data }], guard := none }) (v := ?v301005) rfl (by kernel_rfl) (by kernel_rfl) (by kernel_rfl) (fun _ _ _ h => h) (.inl ⟨by first | rfl | simp [Region.wanted, yielded], ?hy301005⟩) (by assumption) ?rest301005
  case hy301005 => (intro W hW; obtain ⟨⟨⟨f1, f2, f3⟩, ⟨f4, f5, f6⟩⟩, f7, f8⟩ := HCP.out _ hW; go_simp; try with_reducible rfl)
  simp only [Act.put, List.setIfInBounds_toArray, List.set_cons_zero, List.set_cons_succ]
  refine' wpAnyH_take (i := 5) (oi := { dst := some 19, op := Op.load 23 (Operand.tmp 18), type := 23, pos := "timer.go:24", after := #[{ on := 4, ground := Ground.data }], guard := none }) (v := ?v301006) rfl (by kernel_rfl) (by kernel_rfl) (by kernel_rfl) (fun _ _ _ h => h) (.inl ⟨by first | rfl | simp [Region.wanted, yielded], ?hy301006⟩) (by assumption) ?rest301006
  case hy301006 => (intro W hW; obtain ⟨⟨⟨f1, f2, f3⟩, ⟨f4, f5, f6⟩⟩, f7, f8⟩ := HCP.out _ hW; go_simp; try with_reducible rfl)
  simp only [Act.put, List.setIfInBounds_toArray, List.set_cons_zero, List.set_cons_succ]
  refine' wpAnyH_take (i := 7) (oi := { dst := some 21, op := Op.fieldAddr 80 (Operand.tmp 2) 0, type := 0, pos := "timer.go:24", after := #[], guard := none }) (v := ?v301007) rfl (by kernel_rfl) (by kernel_rfl) (by kernel_rfl) (fun _ _ _ h => h) (.inl ⟨by first | rfl | simp [Region.wanted, yielded], ?hy301007⟩) (by assumption) ?rest301007
  case hy301007 => (intro W hW; obtain ⟨⟨⟨f1, f2, f3⟩, ⟨f4, f5, f6⟩⟩, f7, f8⟩ := HCP.out _ hW; go_simp; try with_reducible rfl)
  simp only [Act.put, List.setIfInBounds_toArray, List.set_cons_zero, List.set_cons_succ]
  refine' wpAnyH_take (i := 8) (oi := { dst := some 22, op := Op.fieldAddr 26 (Operand.tmp 21) 1, type := 0, pos := "timer.go:24", after := #[{ on := 7, ground := Ground.data }], guard := none }) (v := ?v301008) rfl (by kernel_rfl) (by kernel_rfl) (by kernel_rfl) (fun _ _ _ h => h) (.inl ⟨by first | rfl | simp [Region.wanted, yielded], ?hy301008⟩) (by assumption) ?rest301008
  case hy301008 => (intro W hW; obtain ⟨⟨⟨f1, f2, f3⟩, ⟨f4, f5, f6⟩⟩, f7, f8⟩ := HCP.out _ hW; go_simp; try with_reducible rfl)
  simp only [Act.put, List.setIfInBounds_toArray, List.set_cons_zero, List.set_cons_succ]
  refine' wpAnyH_take (i := 9) (oi := { dst := some 23, op := Op.load 24 (Operand.tmp 22), type := 24, pos := "timer.go:24", after := #[{ on := 8, ground := Ground.data }], guard := none }) (v := ?v301009) rfl (by kernel_rfl) (by kernel_rfl) (by kernel_rfl) (fun _ _ _ h => h) (.inl ⟨by first | rfl | simp [Region.wanted, yielded], ?hy301009⟩) (by assumption) ?rest301009
  case hy301009 => (intro W hW; obtain ⟨⟨⟨f1, f2, f3⟩, ⟨f4, f5, f6⟩⟩, f7, f8⟩ := HCP.out _ hW; go_simp; try with_reducible rfl)
  simp only [Act.put, List.setIfInBounds_toArray, List.set_cons_zero, List.set_cons_succ]
  refine' wpAnyH_take (i := 10) (oi := { dst := some 24, op := Op.fieldAddr 80 (Operand.tmp 3) 0, type := 0, pos := "timer.go:24", after := #[], guard := none }) (v := ?v301010) rfl (by kernel_rfl) (by kernel_rfl) (by kernel_rfl) (fun _ _ _ h => h) (.inl ⟨by first | rfl | simp [Region.wanted, yielded], ?hy301010⟩) (by assumption) ?rest301010
  case hy301010 => (intro W hW; obtain ⟨⟨⟨f1, f2, f3⟩, ⟨f4, f5, f6⟩⟩, f7, f8⟩ := HCP.out _ hW; go_simp; try with_reducible rfl)
  simp only [Act.put, List.setIfInBounds_toArray, List.set_cons_zero, List.set_cons_succ]
  refine' wpAnyH_take (i := 11) (oi := { dst := some 25, op := Op.fieldAddr 26 (Operand.tmp 24) 1, type := 0, pos := "timer.go:24", after := #[{ on := 10, ground := Ground.data }], guard := none }) (v := ?v301011) rfl (by kernel_rfl) (by kernel_rfl) (by kernel_rfl) (fun _ _ _ h => h) (.inl ⟨by first | rfl | simp [Region.wanted, yielded], ?hy301011⟩) (by assumption) ?rest301011
  case hy301011 => (intro W hW; obtain ⟨⟨⟨f1, f2, f3⟩, ⟨f4, f5, f6⟩⟩, f7, f8⟩ := HCP.out _ hW; go_simp; try with_reducible rfl)
  simp only [Act.put, List.setIfInBounds_toArray, List.set_cons_zero, List.set_cons_succ]
  refine' wpAnyH_take (i := 12) (oi := { dst := some 26, op := Op.load 24 (Operand.tmp 25), type := 24, pos := "timer.go:24", after := #[{ on := 11, ground := Ground.data }], guard := none }) (v := ?v301012) rfl (by kernel_rfl) (by kernel_rfl) (by kernel_rfl) (fun _ _ _ h => h) (.inl ⟨by first | rfl | simp [Region.wanted, yielded], ?hy301012⟩) (by assumption) ?rest301012
  case hy301012 => (intro W hW; obtain ⟨⟨⟨f1, f2, f3⟩, ⟨f4, f5, f6⟩⟩, f7, f8⟩ := HCP.out _ hW; go_simp; try with_reducible rfl)
  simp only [Act.put, List.setIfInBounds_toArray, List.set_cons_zero, List.set_cons_succ]
  refine wpAnyH_ready (rs := [6]) (by kernel_rfl) (by simp) ?_
  refine AllReadyH.cons (o := { dst := some 20, op := Op.call { callee := Callee.value (Operand.func 46), args := #[Operand.tmp 16, Operand.tmp 19], argTypes := #[23, 23] }, type := 3, pos := "timer.go:24", after := #[{ on := 2, ground := Ground.data }, { on := 5, ground := Ground.data }], guard := none }) rfl (fun K hK => ?_) (AllReadyH.nil)
  try simp only [List.getElem_toArray, List.getElem_cons_succ, List.getElem_cons_zero]
  go_simp
  refine (HC46.out _).mono ?_
  rintro e z ⟨rfl, rfl⟩
  refine hK.out _ _ hHeld (fun hHeld => ?_)
  clear hK K
  try simp only [Act.put, List.setIfInBounds_toArray, List.set_cons_zero, List.set_cons_succ]
  refine wpAnyH_ready (rs := [13]) (by kernel_rfl) (by simp) ?_
  refine AllReadyH.cons (o := { dst := some 27, op := Op.call { callee := Callee.value (Operand.func 44), args := #[Operand.tmp 23, Operand.tmp 26], argTypes := #[24, 24] }, type := 3, pos := "timer.go:24", after := #[{ on := 9, ground := Ground.data }, { on := 12, ground := Ground.data }, { on := 6, ground := Ground.chain }], guard := none }) rfl (fun K hK => ?_) (AllReadyH.nil)
  try simp only [List.getElem_toArray, List.getElem_cons_succ, List.getElem_cons_zero]
  go_simp
  refine (HC44.out _).mono ?_
  rintro e z ⟨rfl, rfl⟩
  refine hK.out _ _ hHeld (fun hHeld => ?_)
  clear hK K
  try simp only [Act.put, List.setIfInBounds_toArray, List.set_cons_zero, List.set_cons_succ]
  refine wpAnyH_ready (rs := [14]) (by kernel_rfl) (by simp) ?_
  refine AllReadyH.cons (o := { dst := some 28, op := Op.buildSlice 104 2 #[(0, Operand.tmp 20), (1, Operand.tmp 27)], type := 104, pos := "timer.go:24", after := #[{ on := 6, ground := Ground.data }, { on := 13, ground := Ground.data }], guard := none }) rfl (fun K hK => ?_) (AllReadyH.nil)
  try simp only [List.getElem_toArray, List.getElem_cons_succ, List.getElem_cons_zero]
  go_simp
  have hk0 := cell_blk (alloc_blk_new wd (.cells #[.int .i64 ck, .int .i64 ci] 3)) 0 (.int .i64 ck) rfl
  have hk1 := cell_blk (alloc_blk_new wd (.cells #[.int .i64 ck, .int .i64 ci] 3)) 1 (.int .i64 ci) rfl
  have hkl := blk_lt (alloc_blk_new wd (.cells #[.int .i64 ck, .int .i64 ci] 3))
  have HB3 := hHeld.alloc hHeld.size (.cells #[.int .i64 ck, .int .i64 ci] 3)
  clear hHeld
  refine hK.out _ _ HB3 (fun hHeld => ?_)
  clear hK K
  try simp only [Act.put, List.setIfInBounds_toArray, List.set_cons_zero, List.set_cons_succ]
  refine wpAnyH_ready (rs := [15]) (by kernel_rfl) (by simp) ?_
  refine AllReadyH.cons (o := { dst := some 29, op := Op.call { callee := Callee.value (Operand.func 45), args := #[Operand.tmp 28], argTypes := #[104] }, type := 3, pos := "timer.go:24", after := #[{ on := 14, ground := Ground.data }, { on := 13, ground := Ground.chain }], guard := none }) rfl (fun K hK => ?_) (AllReadyH.nil)
  try simp only [List.getElem_toArray, List.getElem_cons_succ, List.getElem_cons_zero]
  go_simp
  have hor := or45 ck ci wd.heap.size _ hkl hk0 hk1
  rw [← HR.out] at hor
  refine hor.mono ?_
  rintro e z ⟨rfl, rfl⟩
  refine hK.out _ _ hHeld (fun hHeld => ?_)
  clear hK K
  try simp only [Act.put, List.setIfInBounds_toArray, List.set_cons_zero, List.set_cons_succ]
  refine' wpAnyH_take (i := 16) (oi := { dst := some 4, op := Op.assign (Operand.tmp 29), type := 3, pos := "timer.go:24", after := #[{ on := 15, ground := Ground.data }, { on := 15, ground := Ground.chain }, { on := 0, ground := Ground.phase }, { on := 1, ground := Ground.phase }, { on := 2, ground := Ground.phase }, { on := 3, ground := Ground.phase }, { on := 4, ground := Ground.phase }, { on := 5, ground := Ground.phase }, { on := 6, ground := Ground.phase }, { on := 7, ground := Ground.phase }, { on := 8, ground := Ground.phase }, { on := 9, ground := Ground.phase }, { on := 10, ground := Ground.phase }, { on := 11, ground := Ground.phase }, { on := 12, ground := Ground.phase }, { on := 13, ground := Ground.phase }, { on := 14, ground := Ground.phase }, { on := 15, ground := Ground.phase }], guard := none }) (v := ?v301013) rfl (by kernel_rfl) (by kernel_rfl) (by kernel_rfl) (fun _ _ _ h => h) (.inl ⟨by first | rfl | simp [Region.wanted, yielded], ?hy301013⟩) (by assumption) ?rest301013
  case hy301013 => (intro W hW; obtain ⟨⟨⟨f1, f2, f3⟩, ⟨f4, f5, f6⟩⟩, f7, f8⟩ := HCP.out _ hW; go_simp; try with_reducible rfl)
  simp only [Act.put, List.setIfInBounds_toArray, List.set_cons_zero, List.set_cons_succ]
  refine wpAnyH_done (by kernel_rfl) ?_ _
  have HBe := Lib.hid (B1.out.trans (hHeld.mono B1.out.size))
  go_wp2
  go_ret
  exact ⟨rfl, HBe.out⟩
end Go.Proofs.Ytnmbhcekcdicnaa
