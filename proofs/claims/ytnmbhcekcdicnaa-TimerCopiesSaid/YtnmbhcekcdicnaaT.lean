/-
  Stop of one that runs.
-/
import Derived.Test.YtnmbhcekcdicnaaRb
import Derived.Test.YtnmbhcekcdicnaaOrd
namespace Go.Proofs.Ytnmbhcekcdicnaa
open Go.RowKit Go.Maps Go.ChangeMaps
set_option linter.unusedVariables false
set_option linter.unusedSimpArgs false

section
variable {K K' : Nat → Prop} {p n c mb : Nat} {most : Int} {l : List Rw} {ao : Option Addr} {W W' : World}
set_option maxHeartbeats 3200000 in
set_option maxRecDepth 100000 in
theorem TAt.stop_yes (h : TAt K p most l ao n c mb W) {k i d : Int} (hd : dueOf l k i = some d) :
    Calls Try.prog 19 #[.pointer (some ⟨p, 0, none⟩), tmV k i] W fun e w' => e = .returned (.tuple #[.int .u64 d, .bool true]) ∧ Turned K p most (wo l k i) W w' := by
  have ok := h.srt.ok _ (dueOf_some hd)
  obtain ⟨u, hu⟩ : ∃ X, X = W.alloc (.cells #[.int .i64 k, .int .u64 i] 26) := ⟨_, rfl⟩
  obtain ⟨X, hX⟩ : ∃ X, X = W.heap.size := ⟨_, rfl⟩
  have b1 : Below W.heap.size W u := by rw [hu]; exact (Below.refl _ W).alloc (Nat.le_refl _) _
  have kk : u.heap[X]? = some (.cells #[.int .i64 k, .int .u64 i] 26 (0, 0)) := by rw [hu, hX]; exact alloc_blk_new _ _
  have h2 := h.below b1
  have HD0 := h2.due ok.k0 ok.k1 ok.i0 ok.i1
  rw [hd] at HD0
  unfold tmV at HD0 ⊢
  have HD := Lib.hid HD0
  have H2 := Lib.hid h2
  have x0 := cell_blk kk 0 _ rfl
  have x1 := cell_blk kk 1 _ rfl
  have lx := blk_lt kk
  have KK := Lib.hid kk
  have EU := Lib.hid hu
  have EX := Lib.hid hX
  have B1 := Lib.hid b1
  have HDU := Lib.hid hd
  obtain ⟨P, hP⟩ : ∃ P, P = posR l ⟨k, i, d⟩ := ⟨_, rfl⟩
  obtain ⟨w1, w2, w3⟩ := wo_at h.srt hd
  rw [← hP] at w1 w2 w3
  have hnl := h.rows.len
  have hn : n ≤ 8192 := by have := h.le; have := h.m1; omega
  have HPn : P < n := by omega
  have HW3 := Lib.hid w3
  have hfd : foundR l ⟨k, i, d⟩ = true := by unfold foundR; rw [← hP, w2]; simp
  have HCP : Hid (∀ W', Below u.heap.size u W' → (W'.cell? ⟨p, 0, none⟩ = some (.slice ao n c) ∧ W'.cell? ⟨p, 1, none⟩ = some (.map (some mb)) ∧ W'.cell? ⟨p, 2, none⟩ = some (.int .i64 most)) ∧ (W'.cell? ⟨X, 0, none⟩ = some (.int .i64 k) ∧ W'.cell? ⟨X, 1, none⟩ = some (.int .u64 i)) ∧ p < W'.heap.size ∧ X < W'.heap.size) := Lib.hid fun W' hW => by
    have q := (H2.out.below hW).blk
    have q' := (hW.block _ (blk_lt KK.out)).trans KK.out
    exact ⟨⟨cell_blk q 0 _ rfl, cell_blk q 1 _ rfl, cell_blk q 2 _ rfl⟩, ⟨cell_blk q' 0 _ rfl, cell_blk q' 1 _ rfl⟩, blk_lt q, blk_lt q'⟩
  have HSe : Hid (∀ W', Below u.heap.size u W' → Calls Try.prog 37 #[.slice ao n c, .agg #[.int .i64 k, .int .u64 i, .int .u64 d], .func (.func 38) #[] #[]] W' fun e w' => e = .returned (.tuple #[.int .i64 P, .bool true]) ∧ Below W'.heap.size W' w') := Lib.hid fun W' hW => by
    have := search37 ao n c l ⟨k, i, d⟩ W' (H2.out.below hW).rows.ahead H2.out.srt.o (by omega)
    rw [← hP, hfd] at this
    exact this
  have HNL := Lib.hid hnl
  clear h h2 HD0 hu hX b1 kk hd hP w1 w2 w3 hfd ok hnl
  go_enter Try.func19, Try.ntmps19
  go_wp2_with (go_at_call 20; fail)
  rw [← EU.out, ← EX.out]
  refine HD.out.mono ?_
  rintro e v2 ⟨rfl, hb2⟩
  have HB := Lib.hid hb2
  obtain ⟨⟨c0, c1, c2⟩, ⟨d0, d1⟩, lp, lX⟩ := HCP.out _ hb2
  clear hb2 x0 x1 lx
  simp only [Option.getD_some, Option.isSome_some]
  go_upto_region 3 with fail
  refine wp_region_held_drew (S := fun W => Below u.heap.size u W) (by kernel_rfl) (HB.out.trans ((Below.drewN' v2 1).mono HB.out.size)) (fun hHeld => ?_)
  generalize v2.drew = wd at hHeld ⊢
  refine' wpAnyH_take (i := 0) (oi := { dst := some 18, op := Op.move (Operand.tmp 0), type := 30, pos := "timer.go:85", after := #[], guard := none }) (v := ?v501001) rfl (by kernel_rfl) (by kernel_rfl) (by kernel_rfl) (fun _ _ _ h => h) (.inl ⟨by first | rfl | simp [Region.wanted, yielded], ?hy501001⟩) (by assumption) ?rest501001
  case hy501001 => (intro W hW; obtain ⟨⟨f1, f2, f3⟩, ⟨f4, f5⟩, f6, f7⟩ := HCP.out _ hW; go_simp; try with_reducible rfl)
  simp only [Act.put, List.setIfInBounds_toArray, List.set_cons_zero, List.set_cons_succ]
  refine' wpAnyH_take (i := 1) (oi := { dst := some 19, op := Op.nilCheck (Operand.tmp 18), type := 0, pos := "timer.go:85", after := #[{ on := 0, ground := Ground.data }], guard := none }) (v := ?v501002) rfl (by kernel_rfl) (by kernel_rfl) (by kernel_rfl) (fun _ _ _ h => h) (.inl ⟨by first | rfl | simp [Region.wanted, yielded], ?hy501002⟩) (by assumption) ?rest501002
  case hy501002 => (intro W hW; obtain ⟨⟨f1, f2, f3⟩, ⟨f4, f5⟩, f6, f7⟩ := HCP.out _ hW; go_simp; try with_reducible rfl)
  simp only [Act.put, List.setIfInBounds_toArray, List.set_cons_zero, List.set_cons_succ]
  refine' wpAnyH_take (i := 2) (oi := { dst := some 20, op := Op.fieldAddr 56 (Operand.tmp 19) 0, type := 0, pos := "timer.go:85", after := #[{ on := 1, ground := Ground.data }], guard := none }) (v := ?v501003) rfl (by kernel_rfl) (by kernel_rfl) (by kernel_rfl) (fun _ _ _ h => h) (.inl ⟨by first | rfl | simp [Region.wanted, yielded], ?hy501003⟩) (by assumption) ?rest501003
  case hy501003 => (intro W hW; obtain ⟨⟨f1, f2, f3⟩, ⟨f4, f5⟩, f6, f7⟩ := HCP.out _ hW; go_simp; try with_reducible rfl)
  simp only [Act.put, List.setIfInBounds_toArray, List.set_cons_zero, List.set_cons_succ]
  refine' wpAnyH_take (i := 3) (oi := { dst := some 21, op := Op.load 53 (Operand.tmp 20), type := 53, pos := "timer.go:85", after := #[{ on := 2, ground := Ground.data }], guard := none }) (v := ?v501004) rfl (by kernel_rfl) (by kernel_rfl) (by kernel_rfl) (fun _ _ _ h => h) (.inl ⟨by first | rfl | simp [Region.wanted, yielded], ?hy501004⟩) (by assumption) ?rest501004
  case hy501004 => (intro W hW; obtain ⟨⟨f1, f2, f3⟩, ⟨f4, f5⟩, f6, f7⟩ := HCP.out _ hW; go_simp; try with_reducible rfl)
  simp only [Act.put, List.setIfInBounds_toArray, List.set_cons_zero, List.set_cons_succ]
  refine' wpAnyH_take (i := 4) (oi := { dst := some 22, op := Op.load 26 (Operand.tmp 3), type := 26, pos := "timer.go:85", after := #[], guard := none }) (v := ?v501005) rfl (by kernel_rfl) (by kernel_rfl) (by kernel_rfl) (fun _ _ _ h => h) (.inl ⟨by first | rfl | simp [Region.wanted, yielded], ?hy501005⟩) (by assumption) ?rest501005
  case hy501005 => (intro W hW; obtain ⟨⟨f1, f2, f3⟩, ⟨f4, f5⟩, f6, f7⟩ := HCP.out _ hW; go_simp; try with_reducible rfl)
  simp only [Act.put, List.setIfInBounds_toArray, List.set_cons_zero, List.set_cons_succ]
  refine' wpAnyH_take (i := 5) (oi := { dst := some 23, op := Op.move (Operand.tmp 6), type := 24, pos := "timer.go:85", after := #[], guard := none }) (v := ?v501006) rfl (by kernel_rfl) (by kernel_rfl) (by kernel_rfl) (fun _ _ _ h => h) (.inl ⟨by first | rfl | simp [Region.wanted, yielded], ?hy501006⟩) (by assumption) ?rest501006
  case hy501006 => (intro W hW; obtain ⟨⟨f1, f2, f3⟩, ⟨f4, f5⟩, f6, f7⟩ := HCP.out _ hW; go_simp; try with_reducible rfl)
  simp only [Act.put, List.setIfInBounds_toArray, List.set_cons_zero, List.set_cons_succ]
  refine' wpAnyH_take (i := 6) (oi := { dst := some 24, op := Op.build 80 #[(0, Operand.tmp 22), (1, Operand.tmp 23)], type := 80, pos := "timer.go:85", after := #[{ on := 4, ground := Ground.data }, { on := 5, ground := Ground.data }], guard := none }) (v := ?v501007) rfl (by kernel_rfl) (by kernel_rfl) (by kernel_rfl) (fun _ _ _ h => h) (.inl ⟨by first | rfl | simp [Region.wanted, yielded], ?hy501007⟩) (by assumption) ?rest501007
  case hy501007 => (intro W hW; obtain ⟨⟨f1, f2, f3⟩, ⟨f4, f5⟩, f6, f7⟩ := HCP.out _ hW; go_simp; try with_reducible rfl)
  simp only [Act.put, List.setIfInBounds_toArray, List.set_cons_zero, List.set_cons_succ]
  refine wpAnyH_ready (rs := [7]) (by kernel_rfl) (by simp) ?_
  refine AllReadyH.cons (o := { dst := some 25, op := Op.call { callee := Callee.value (Operand.func 37), args := #[Operand.tmp 21, Operand.tmp 24, Operand.func 38], argTypes := #[53, 80, 87] }, type := 85, pos := "timer.go:85", after := #[{ on := 3, ground := Ground.data }, { on := 6, ground := Ground.data }], guard := none }) rfl (fun K hK => ?_) (AllReadyH.nil)
  try simp only [List.getElem_toArray, List.getElem_cons_succ, List.getElem_cons_zero]
  go_simp
  refine (HSe.out _ hHeld).mono ?_
  rintro e z ⟨rfl, hz⟩
  have HB1 := hHeld.trans (hz.mono hHeld.size)
  clear hz hHeld
  refine hK.out _ _ HB1 (fun hHeld => ?_)
  clear hK K
  try simp only [Act.put, List.setIfInBounds_toArray, List.set_cons_zero, List.set_cons_succ]
  refine' wpAnyH_take (i := 8) (oi := { dst := some 17, op := Op.move (Operand.tmp 25), type := 85, pos := "timer.go:85", after := #[{ on := 7, ground := Ground.data }], guard := none }) (v := ?v501008) rfl (by kernel_rfl) (by kernel_rfl) (by kernel_rfl) (fun _ _ _ h => h) (.inl ⟨by first | rfl | simp [Region.wanted, yielded], ?hy501008⟩) (by assumption) ?rest501008
  case hy501008 => (intro W hW; obtain ⟨⟨f1, f2, f3⟩, ⟨f4, f5⟩, f6, f7⟩ := HCP.out _ hW; go_simp; try with_reducible rfl)
  simp only [Act.put, List.setIfInBounds_toArray, List.set_cons_zero, List.set_cons_succ]
  refine' wpAnyH_take (i := 9) (oi := { dst := some 26, op := Op.extract (Operand.tmp 17) 0, type := 3, pos := "timer.go:85", after := #[{ on := 8, ground := Ground.data }], guard := none }) (v := ?v501009) rfl (by kernel_rfl) (by kernel_rfl) (by kernel_rfl) (fun _ _ _ h => h) (.inl ⟨by first | rfl | simp [Region.wanted, yielded], ?hy501009⟩) (by assumption) ?rest501009
  case hy501009 => (intro W hW; obtain ⟨⟨f1, f2, f3⟩, ⟨f4, f5⟩, f6, f7⟩ := HCP.out _ hW; go_simp; try with_reducible rfl)
  simp only [Act.put, List.setIfInBounds_toArray, List.set_cons_zero, List.set_cons_succ]
  refine' wpAnyH_take (i := 10) (oi := { dst := some 27, op := Op.extract (Operand.tmp 17) 1, type := 4, pos := "timer.go:85", after := #[{ on := 8, ground := Ground.data }, { on := 11, ground := Ground.gcOnly Departure.lateStores }], guard := none }) (v := ?v501010) rfl (by kernel_rfl) (by kernel_rfl) (by kernel_rfl) (fun _ _ _ h => h) (.inl ⟨by first | rfl | simp [Region.wanted, yielded], ?hy501010⟩) (by assumption) ?rest501010
  case hy501010 => (intro W hW; obtain ⟨⟨f1, f2, f3⟩, ⟨f4, f5⟩, f6, f7⟩ := HCP.out _ hW; go_simp; try with_reducible rfl)
  simp only [Act.put, List.setIfInBounds_toArray, List.set_cons_zero, List.set_cons_succ]
  refine' wpAnyH_take (i := 11) (oi := { dst := some 8, op := Op.assign (Operand.tmp 26), type := 3, pos := "timer.go:85", after := #[{ on := 9, ground := Ground.data }, { on := 7, ground := Ground.chain }, { on := 0, ground := Ground.phase }, { on := 1, ground := Ground.phase }, { on := 2, ground := Ground.phase }, { on := 3, ground := Ground.phase }, { on := 4, ground := Ground.phase }, { on := 5, ground := Ground.phase }, { on := 6, ground := Ground.phase }, { on := 7, ground := Ground.phase }, { on := 8, ground := Ground.phase }, { on := 9, ground := Ground.phase }, { on := 10, ground := Ground.textOnly Departure.lateStores }], guard := none }) (v := ?v501011) rfl (by kernel_rfl) (by kernel_rfl) (by kernel_rfl) (fun _ _ _ h => h) (.inl ⟨by first | rfl | simp [Region.wanted, yielded], ?hy501011⟩) (by assumption) ?rest501011
  case hy501011 => (intro W hW; obtain ⟨⟨f1, f2, f3⟩, ⟨f4, f5⟩, f6, f7⟩ := HCP.out _ hW; go_simp; try with_reducible rfl)
  simp only [Act.put, List.setIfInBounds_toArray, List.set_cons_zero, List.set_cons_succ]
  refine' wpAnyH_take (i := 12) (oi := { dst := some 9, op := Op.assign (Operand.tmp 27), type := 4, pos := "timer.go:85", after := #[{ on := 10, ground := Ground.data }, { on := 11, ground := Ground.chain }, { on := 0, ground := Ground.phase }, { on := 1, ground := Ground.phase }, { on := 2, ground := Ground.phase }, { on := 3, ground := Ground.phase }, { on := 4, ground := Ground.phase }, { on := 5, ground := Ground.phase }, { on := 6, ground := Ground.phase }, { on := 7, ground := Ground.phase }, { on := 8, ground := Ground.phase }, { on := 9, ground := Ground.phase }, { on := 10, ground := Ground.phase }, { on := 11, ground := Ground.phase }], guard := none }) (v := ?v501012) rfl (by kernel_rfl) (by kernel_rfl) (by kernel_rfl) (fun _ _ _ h => h) (.inl ⟨by first | rfl | simp [Region.wanted, yielded], ?hy501012⟩) (by assumption) ?rest501012
  case hy501012 => (intro W hW; obtain ⟨⟨f1, f2, f3⟩, ⟨f4, f5⟩, f6, f7⟩ := HCP.out _ hW; go_simp; try with_reducible rfl)
  simp only [Act.put, List.setIfInBounds_toArray, List.set_cons_zero, List.set_cons_succ]
  refine wpAnyH_done (by kernel_rfl) ?_ _
  have HBe := Lib.hid hHeld
  clear hHeld c0 c1 c2 d0 d1 lp lX
  obtain ⟨⟨c0, c1, c2⟩, ⟨d0, d1⟩, lp, lX⟩ := HCP.out _ HBe.out
  have HPc : (P : Int) ≤ c := by have := H2.out.rows.cap; omega
  have hPc : P ≤ c := by have := H2.out.rows.cap; omega
  have hPn1 : P + 1 ≤ n := by omega
  have hPi : (P : Int) + 1 ≤ n := by omega
  have hwr : IntKind.i64.wrap ((P : Int) + 1) = (P : Int) + 1 := by rw [IntKind.wrap_i64]; omega
  have hp0 : (0 : Int) ≤ (P : Int) + 1 := by omega
  obtain ⟨b, rfl⟩ : ∃ b, ao = some ⟨b, 0, none⟩ := by
    cases ao with
    | none => have := H2.out.rows.none_ rfl; have := H2.out.rows.cap; omega
    | some a =>
      obtain ⟨b, cur, rfl, _⟩ := H2.out.rows.holds
      exact ⟨b, rfl⟩
  have HAP : Hid (∀ W', Below u.heap.size u W' → ∀ ty, ∃ ao' G w2, (Builtin.append_ #[53, 53] ty #[.slice (some ⟨b, 0, none⟩) P P, .slice (if c = P + 1 then some ⟨b, 0, none⟩ else some ⟨b, (P + 1) * 3, none⟩) (n - (P + 1)) (c - (P + 1))]).run Try.prog W' = .ok (.slice ao' (n - 1) G) w2 ∧ Below W'.heap.size W' w2 ∧ RowsIn (fun q => K q ∨ (W'.heap.size ≤ q ∧ q < w2.heap.size)) w2 ao' (n - 1) G (wo l k i)) := Lib.hid fun W' hW ty => by
    obtain ⟨b', cur, e, q1, q2, q3⟩ := (H2.out.below hW).rows.holds
    cases e
    rw [HW3.out]
    exact app_out q2 q1 q3 H2.out.rows.cap H2.out.rows.big P _ ty HPn hn
  obtain ⟨sa, hsa⟩ : ∃ sa, (if c = P + 1 then some (⟨b, 0, none⟩ : Addr) else some (⟨b, (P + 1) * 3, none⟩ : Addr)) = sa := ⟨_, rfl⟩
  rw [hsa] at HAP
  go_upto_region 4 with fail
  refine wp_region_K 18 (fun W => Below u.heap.size u W) (by kernel_rfl) ?_
  obtain ⟨wd, hwd⟩ : ∃ W, W = (z).drew := ⟨_, rfl⟩
  have HBd : Hid (Below (z).heap.size (z) wd) := Lib.hid (by rw [hwd]; exact Below.drewN' (z) 1)
  have hS0 : (fun W : World => Below u.heap.size u W) wd := by rw [hwd]; exact HBe.out.trans ((Below.drewN' z 1).mono HBe.out.size)
  rw [← hwd]
  obtain ⟨ao', G, w2, hrun, hb2, hrows⟩ := HAP.out wd hS0 53
  clear hwd
  refine' wpAnyK_take (i := 0) (oi := { dst := some 28, op := Op.move (Operand.tmp 0), type := 30, pos := "timer.go:86", after := #[], guard := none }) (v := ?v1001) rfl (by kernel_rfl) (by kernel_rfl) (by kernel_rfl) [] (by kernel_rfl) (by decide) (by kernel_rfl) (by kernel_rfl) (fun _ _ _ h => h) hS0 (.inl ⟨by first | rfl | simp [Region.wanted, yielded], ?hy1001⟩) ?rest1001
  case hy1001 => (intro W hW; obtain ⟨⟨f1, f2, f3⟩, ⟨f4, f5⟩, f6, f7⟩ := HCP.out _ hW; go_simp; try with_reducible rfl)
  simp only [Act.put, List.setIfInBounds_toArray, List.set_cons_zero, List.set_cons_succ]
  refine' wpAnyK_take (i := 1) (oi := { dst := some 29, op := Op.move (Operand.tmp 0), type := 30, pos := "timer.go:86", after := #[], guard := none }) (v := ?v1002) rfl (by kernel_rfl) (by kernel_rfl) (by kernel_rfl) [] (by kernel_rfl) (by decide) (by kernel_rfl) (by kernel_rfl) (fun _ _ _ h => h) hS0 (.inl ⟨by first | rfl | simp [Region.wanted, yielded], ?hy1002⟩) ?rest1002
  case hy1002 => (intro W hW; obtain ⟨⟨f1, f2, f3⟩, ⟨f4, f5⟩, f6, f7⟩ := HCP.out _ hW; go_simp; try with_reducible rfl)
  simp only [Act.put, List.setIfInBounds_toArray, List.set_cons_zero, List.set_cons_succ]
  refine' wpAnyK_take (i := 2) (oi := { dst := some 30, op := Op.nilCheck (Operand.tmp 29), type := 0, pos := "timer.go:86", after := #[{ on := 1, ground := Ground.data }], guard := none }) (v := ?v1003) rfl (by kernel_rfl) (by kernel_rfl) (by kernel_rfl) [] (by kernel_rfl) (by decide) (by kernel_rfl) (by kernel_rfl) (fun _ _ _ h => h) hS0 (.inl ⟨by first | rfl | simp [Region.wanted, yielded], ?hy1003⟩) ?rest1003
  case hy1003 => (intro W hW; obtain ⟨⟨f1, f2, f3⟩, ⟨f4, f5⟩, f6, f7⟩ := HCP.out _ hW; go_simp; try with_reducible rfl)
  simp only [Act.put, List.setIfInBounds_toArray, List.set_cons_zero, List.set_cons_succ]
  refine' wpAnyK_take (i := 3) (oi := { dst := some 31, op := Op.fieldAddr 56 (Operand.tmp 30) 0, type := 0, pos := "timer.go:86", after := #[{ on := 2, ground := Ground.data }], guard := none }) (v := ?v1004) rfl (by kernel_rfl) (by kernel_rfl) (by kernel_rfl) [] (by kernel_rfl) (by decide) (by kernel_rfl) (by kernel_rfl) (fun _ _ _ h => h) hS0 (.inl ⟨by first | rfl | simp [Region.wanted, yielded], ?hy1004⟩) ?rest1004
  case hy1004 => (intro W hW; obtain ⟨⟨f1, f2, f3⟩, ⟨f4, f5⟩, f6, f7⟩ := HCP.out _ hW; go_simp; try with_reducible rfl)
  simp only [Act.put, List.setIfInBounds_toArray, List.set_cons_zero, List.set_cons_succ]
  refine' wpAnyK_take (i := 4) (oi := { dst := some 32, op := Op.load 53 (Operand.tmp 31), type := 53, pos := "timer.go:86", after := #[{ on := 3, ground := Ground.data }], guard := none }) (v := ?v1005) rfl (by kernel_rfl) (by kernel_rfl) (by kernel_rfl) [] (by kernel_rfl) (by decide) (by kernel_rfl) (by kernel_rfl) (fun _ _ _ h => h) hS0 (.inl ⟨by first | rfl | simp [Region.wanted, yielded], ?hy1005⟩) ?rest1005
  case hy1005 => (intro W hW; obtain ⟨⟨f1, f2, f3⟩, ⟨f4, f5⟩, f6, f7⟩ := HCP.out _ hW; go_simp; try with_reducible rfl)
  simp only [Act.put, List.setIfInBounds_toArray, List.set_cons_zero, List.set_cons_succ]
  refine' wpAnyK_take (i := 5) (oi := { dst := some 33, op := Op.move (Operand.tmp 8), type := 3, pos := "timer.go:86", after := #[], guard := none }) (v := ?v1006) rfl (by kernel_rfl) (by kernel_rfl) (by kernel_rfl) [] (by kernel_rfl) (by decide) (by kernel_rfl) (by kernel_rfl) (fun _ _ _ h => h) hS0 (.inl ⟨by first | rfl | simp [Region.wanted, yielded], ?hy1006⟩) ?rest1006
  case hy1006 => (intro W hW; obtain ⟨⟨f1, f2, f3⟩, ⟨f4, f5⟩, f6, f7⟩ := HCP.out _ hW; go_simp; try with_reducible rfl)
  simp only [Act.put, List.setIfInBounds_toArray, List.set_cons_zero, List.set_cons_succ]
  refine' wpAnyK_take (i := 6) (oi := { dst := some 34, op := Op.move (Operand.tmp 8), type := 3, pos := "timer.go:86", after := #[], guard := none }) (v := ?v1007) rfl (by kernel_rfl) (by kernel_rfl) (by kernel_rfl) [] (by kernel_rfl) (by decide) (by kernel_rfl) (by kernel_rfl) (fun _ _ _ h => h) hS0 (.inl ⟨by first | rfl | simp [Region.wanted, yielded], ?hy1007⟩) ?rest1007
  case hy1007 => (intro W hW; obtain ⟨⟨f1, f2, f3⟩, ⟨f4, f5⟩, f6, f7⟩ := HCP.out _ hW; go_simp; try with_reducible rfl)
  simp only [Act.put, List.setIfInBounds_toArray, List.set_cons_zero, List.set_cons_succ]
  refine' wpAnyK_take (i := 7) (oi := { dst := some 35, op := Op.slice 53 (Operand.tmp 32) none (some (Operand.tmp 33)) (some (Operand.tmp 34)), type := 53, pos := "timer.go:86", after := #[{ on := 4, ground := Ground.data }, { on := 5, ground := Ground.data }, { on := 6, ground := Ground.data }], guard := none }) (v := ?v1008) rfl (by kernel_rfl) (by kernel_rfl) (by kernel_rfl) [] (by kernel_rfl) (by decide) (by kernel_rfl) (by kernel_rfl) (fun _ _ _ h => h) hS0 (.inl ⟨by first | rfl | simp [Region.wanted, yielded], ?hy1008⟩) ?rest1008
  case hy1008 => (intro W hW; obtain ⟨⟨f1, f2, f3⟩, ⟨f4, f5⟩, f6, f7⟩ := HCP.out _ hW; go_simp; try with_reducible rfl)
  simp only [Act.put, List.setIfInBounds_toArray, List.set_cons_zero, List.set_cons_succ]
  refine' wpAnyK_take (i := 8) (oi := { dst := some 36, op := Op.move (Operand.tmp 0), type := 30, pos := "timer.go:86", after := #[], guard := none }) (v := ?v1009) rfl (by kernel_rfl) (by kernel_rfl) (by kernel_rfl) [] (by kernel_rfl) (by decide) (by kernel_rfl) (by kernel_rfl) (fun _ _ _ h => h) hS0 (.inl ⟨by first | rfl | simp [Region.wanted, yielded], ?hy1009⟩) ?rest1009
  case hy1009 => (intro W hW; obtain ⟨⟨f1, f2, f3⟩, ⟨f4, f5⟩, f6, f7⟩ := HCP.out _ hW; go_simp; try with_reducible rfl)
  simp only [Act.put, List.setIfInBounds_toArray, List.set_cons_zero, List.set_cons_succ]
  refine' wpAnyK_take (i := 9) (oi := { dst := some 37, op := Op.nilCheck (Operand.tmp 36), type := 0, pos := "timer.go:86", after := #[{ on := 8, ground := Ground.data }], guard := none }) (v := ?v1010) rfl (by kernel_rfl) (by kernel_rfl) (by kernel_rfl) [] (by kernel_rfl) (by decide) (by kernel_rfl) (by kernel_rfl) (fun _ _ _ h => h) hS0 (.inl ⟨by first | rfl | simp [Region.wanted, yielded], ?hy1010⟩) ?rest1010
  case hy1010 => (intro W hW; obtain ⟨⟨f1, f2, f3⟩, ⟨f4, f5⟩, f6, f7⟩ := HCP.out _ hW; go_simp; try with_reducible rfl)
  simp only [Act.put, List.setIfInBounds_toArray, List.set_cons_zero, List.set_cons_succ]
  refine' wpAnyK_take (i := 10) (oi := { dst := some 38, op := Op.fieldAddr 56 (Operand.tmp 37) 0, type := 0, pos := "timer.go:86", after := #[{ on := 9, ground := Ground.data }], guard := none }) (v := ?v1011) rfl (by kernel_rfl) (by kernel_rfl) (by kernel_rfl) [] (by kernel_rfl) (by decide) (by kernel_rfl) (by kernel_rfl) (fun _ _ _ h => h) hS0 (.inl ⟨by first | rfl | simp [Region.wanted, yielded], ?hy1011⟩) ?rest1011
  case hy1011 => (intro W hW; obtain ⟨⟨f1, f2, f3⟩, ⟨f4, f5⟩, f6, f7⟩ := HCP.out _ hW; go_simp; try with_reducible rfl)
  simp only [Act.put, List.setIfInBounds_toArray, List.set_cons_zero, List.set_cons_succ]
  refine' wpAnyK_take (i := 11) (oi := { dst := some 39, op := Op.load 53 (Operand.tmp 38), type := 53, pos := "timer.go:86", after := #[{ on := 10, ground := Ground.data }], guard := none }) (v := ?v1012) rfl (by kernel_rfl) (by kernel_rfl) (by kernel_rfl) [] (by kernel_rfl) (by decide) (by kernel_rfl) (by kernel_rfl) (fun _ _ _ h => h) hS0 (.inl ⟨by first | rfl | simp [Region.wanted, yielded], ?hy1012⟩) ?rest1012
  case hy1012 => (intro W hW; obtain ⟨⟨f1, f2, f3⟩, ⟨f4, f5⟩, f6, f7⟩ := HCP.out _ hW; go_simp; try with_reducible rfl)
  simp only [Act.put, List.setIfInBounds_toArray, List.set_cons_zero, List.set_cons_succ]
  refine' wpAnyK_take (i := 12) (oi := { dst := some 40, op := Op.move (Operand.tmp 8), type := 3, pos := "timer.go:86", after := #[], guard := none }) (v := ?v1013) rfl (by kernel_rfl) (by kernel_rfl) (by kernel_rfl) [] (by kernel_rfl) (by decide) (by kernel_rfl) (by kernel_rfl) (fun _ _ _ h => h) hS0 (.inl ⟨by first | rfl | simp [Region.wanted, yielded], ?hy1013⟩) ?rest1013
  case hy1013 => (intro W hW; obtain ⟨⟨f1, f2, f3⟩, ⟨f4, f5⟩, f6, f7⟩ := HCP.out _ hW; go_simp; try with_reducible rfl)
  simp only [Act.put, List.setIfInBounds_toArray, List.set_cons_zero, List.set_cons_succ]
  refine' wpAnyK_take (i := 13) (oi := { dst := some 41, op := Op.binOp BinOp.add 3 (Operand.tmp 40) (Operand.const (Value.int IntKind.i64 1)) 3, type := 3, pos := "timer.go:86", after := #[{ on := 12, ground := Ground.data }], guard := none }) (v := ?v1014) rfl (by kernel_rfl) (by kernel_rfl) (by kernel_rfl) [] (by kernel_rfl) (by decide) (by kernel_rfl) (by kernel_rfl) (fun _ _ _ h => h) hS0 (.inl ⟨by first | rfl | simp [Region.wanted, yielded], ?hy1014⟩) ?rest1014
  case hy1014 => (intro W hW; obtain ⟨⟨f1, f2, f3⟩, ⟨f4, f5⟩, f6, f7⟩ := HCP.out _ hW; go_simp; try with_reducible rfl)
  simp only [Act.put, List.setIfInBounds_toArray, List.set_cons_zero, List.set_cons_succ]
  refine' wpAnyK_take (i := 14) (oi := { dst := some 42, op := Op.slice 53 (Operand.tmp 39) (some (Operand.tmp 41)) none none, type := 53, pos := "timer.go:86", after := #[{ on := 11, ground := Ground.data }, { on := 13, ground := Ground.data }], guard := none }) (v := ?v1015) rfl (by kernel_rfl) (by kernel_rfl) (by kernel_rfl) [] (by kernel_rfl) (by decide) (by kernel_rfl) (by kernel_rfl) (fun _ _ _ h => h) hS0 (.inl ⟨by first | rfl | simp [Region.wanted, yielded], ?hy1015⟩) ?rest1015
  case hy1015 => (intro W hW; obtain ⟨⟨f1, f2, f3⟩, ⟨f4, f5⟩, f6, f7⟩ := HCP.out _ hW; go_simp; try with_reducible rfl)
  simp only [Act.put, List.setIfInBounds_toArray, List.set_cons_zero, List.set_cons_succ]
  refine wpAnyK_ready (rs := [15]) (by kernel_rfl) (by simp) ?_
  refine AllReadyK.cons (o := { dst := some 43, op := Op.call { callee := Callee.builtin Builtin.append, args := #[Operand.tmp 35, Operand.tmp 42], argTypes := #[53, 53] }, type := 53, pos := "timer.go:86", after := #[{ on := 7, ground := Ground.data }, { on := 14, ground := Ground.data }], guard := none }) rfl (fun KK hK => ?_) (AllReadyK.nil)
  refine step_append_run rfl _ _ 53 53 rfl (.slice (some ⟨b, 0, none⟩) P P) (.slice sa (n - (P + 1)) (c - (P + 1))) (by simp [Act.eval, Act.put]) (by simp [Act.eval, Act.put]) hrun ?_
  have hS1 : (fun W : World => Below u.heap.size u W) w2 := hS0.trans (hb2.mono hS0.size)
  obtain ⟨⟨e0, e1, e2⟩, -, ep, -⟩ := HCP.out _ hS1
  have e3 := frozen_blk (H2.out.below hS1).blk 0
  refine hK.out _ _ (fun _ => hS1) ?_
  clear hK KK
  try simp only [Act.put, List.setIfInBounds_toArray, List.set_cons_zero, List.set_cons_succ]
  refine' wpAnyK_take (i := 16) (oi := { dst := some 44, op := Op.nilCheck (Operand.tmp 28), type := 0, pos := "timer.go:86", after := #[{ on := 0, ground := Ground.data }, { on := 0, ground := Ground.phase }, { on := 1, ground := Ground.phase }, { on := 2, ground := Ground.phase }, { on := 3, ground := Ground.phase }, { on := 4, ground := Ground.phase }, { on := 5, ground := Ground.phase }, { on := 6, ground := Ground.phase }, { on := 7, ground := Ground.phase }, { on := 8, ground := Ground.phase }, { on := 9, ground := Ground.phase }, { on := 10, ground := Ground.phase }, { on := 11, ground := Ground.phase }, { on := 12, ground := Ground.phase }, { on := 13, ground := Ground.phase }, { on := 14, ground := Ground.phase }, { on := 15, ground := Ground.phase }], guard := none }) (v := ?v1016) rfl (by kernel_rfl) (by kernel_rfl) (by kernel_rfl) [17] (by kernel_rfl) (by decide) (by kernel_rfl) (by kernel_rfl) (fun _ _ _ h => h) hS1 (.inl ⟨by first | rfl | simp [Region.wanted, yielded], ?hy1016⟩) ?rest1016
  case hy1016 => (intro W hW; obtain ⟨⟨f1, f2, f3⟩, ⟨f4, f5⟩, f6, f7⟩ := HCP.out _ hW; go_simp; try with_reducible rfl)
  simp only [Act.put, List.setIfInBounds_toArray, List.set_cons_zero, List.set_cons_succ]
  refine' wpAnyK_take (i := 17) (oi := { dst := some 45, op := Op.fieldAddr 56 (Operand.tmp 44) 0, type := 0, pos := "timer.go:86", after := #[{ on := 16, ground := Ground.data }, { on := 0, ground := Ground.phase }, { on := 1, ground := Ground.phase }, { on := 2, ground := Ground.phase }, { on := 3, ground := Ground.phase }, { on := 4, ground := Ground.phase }, { on := 5, ground := Ground.phase }, { on := 6, ground := Ground.phase }, { on := 7, ground := Ground.phase }, { on := 8, ground := Ground.phase }, { on := 9, ground := Ground.phase }, { on := 10, ground := Ground.phase }, { on := 11, ground := Ground.phase }, { on := 12, ground := Ground.phase }, { on := 13, ground := Ground.phase }, { on := 14, ground := Ground.phase }, { on := 15, ground := Ground.phase }], guard := none }) (v := ?v1017) rfl (by kernel_rfl) (by kernel_rfl) (by kernel_rfl) [] (by kernel_rfl) (by decide) (by kernel_rfl) (by kernel_rfl) (fun _ _ _ h => h) hS1 (.inl ⟨by first | rfl | simp [Region.wanted, yielded], ?hy1017⟩) ?rest1017
  case hy1017 => (intro W hW; obtain ⟨⟨f1, f2, f3⟩, ⟨f4, f5⟩, f6, f7⟩ := HCP.out _ hW; go_simp; try with_reducible rfl)
  simp only [Act.put, List.setIfInBounds_toArray, List.set_cons_zero, List.set_cons_succ]
  refine wpAnyK_ready (rs := [18]) (by kernel_rfl) (by simp) ?_
  refine AllReadyK.cons (o := { dst := none, op := Op.store 53 (Operand.tmp 45) (Operand.tmp 43), type := 0, pos := "timer.go:86", after := #[{ on := 17, ground := Ground.data }, { on := 15, ground := Ground.data }, { on := 15, ground := Ground.chain }, { on := 0, ground := Ground.phase }, { on := 1, ground := Ground.phase }, { on := 2, ground := Ground.phase }, { on := 3, ground := Ground.phase }, { on := 4, ground := Ground.phase }, { on := 5, ground := Ground.phase }, { on := 6, ground := Ground.phase }, { on := 7, ground := Ground.phase }, { on := 8, ground := Ground.phase }, { on := 9, ground := Ground.phase }, { on := 10, ground := Ground.phase }, { on := 11, ground := Ground.phase }, { on := 12, ground := Ground.phase }, { on := 13, ground := Ground.phase }, { on := 14, ground := Ground.phase }, { on := 15, ground := Ground.phase }], guard := none }) rfl (fun KK hK => ?_) (AllReadyK.nil)
  try simp only [List.getElem_toArray, List.getElem_cons_succ, List.getElem_cons_zero]
  go_simp
  refine hK.out _ _ (fun h => absurd (show true = false from h) (by decide)) ?_
  clear hK KK
  try simp only [Act.put, List.setIfInBounds_toArray, List.set_cons_zero, List.set_cons_succ]
  refine wpAnyK_done (by kernel_rfl) ?_ _
  obtain ⟨w3, hw3⟩ : ∃ X, X = w2.setCell ⟨p, 0, none⟩ (.slice ao' (n - 1) G) := ⟨_, rfl⟩
  rw [← hw3]
  have HU2 := Lib.hid hS1
  have HR2 := Lib.hid hrows
  have HB2 := Lib.hid hb2
  have HS0 := Lib.hid hS0
  have HW := Lib.hid hw3
  clear hrun hrows hw3 hb2 hS1 hS0 e0 e1 e2 ep e3
  have H3 : Hid (w3.heap[p]? = some (.cells #[.slice ao' (n - 1) G, .map (some mb), .int .i64 most] 56 (0, 0)) ∧ MapAt w3 mb l ∧ w3.heap[X]? = some (.cells #[.int .i64 k, .int .u64 i] 26 (0, 0)) ∧ RowsIn (fun q => K q ∨ (W.heap.size ≤ q ∧ q < w2.heap.size)) w3 ao' (n - 1) G (wo l k i) ∧ Mod K W w3) := Lib.hid (by
    have q2 := H2.out.below HU2.out
    have hXp : X ≠ p := by
      intro e
      have g1 := H2.out.blk
      rw [← e, KK.out] at g1
      cases g1
    refine ⟨?_, ?_, ?_, ?_, ?_⟩
    · rw [HW.out, setCell_blk q2.blk]
      rfl
    · refine q2.map.of_block ?_
      rw [HW.out]
      refine setCell_blk_ne ?_ _
      intro e
      have g1 := q2.blk
      obtain ⟨es, clock, g2, _⟩ := q2.map.ex
      rw [← (show mb = p from e), g2] at g1
      cases g1
    · rw [HW.out]
      exact (setCell_blk_ne hXp _).trans ((HU2.out.block _ (blk_lt KK.out)).trans KK.out)
    · refine HR2.out.other (fun q hq => ?_) (fun q cur hq => ?_)
      · rcases hq with h | h
        · exact .inl h
        · refine .inr ⟨?_, h.2⟩
          have := HS0.out.size
          have := B1.out.size
          omega
      · rw [HW.out]
        refine setCell_blk_ne ?_ _
        intro e
        have g1 := q2.blk
        rw [← (show q = p from e), hq] at g1
        cases g1
    · rw [HW.out]
      exact (Mod.of_below (B1.out.trans (HU2.out.mono B1.out.size)) K).setCell _ (.inl H2.out.kp) _)
  have HCQ : Hid (∀ W', Below w3.heap.size w3 W' → (W'.cell? ⟨p, 0, none⟩ = some (.slice ao' (n - 1) G) ∧ W'.cell? ⟨p, 1, none⟩ = some (.map (some mb)) ∧ W'.cell? ⟨p, 2, none⟩ = some (.int .i64 most)) ∧ (W'.cell? ⟨X, 0, none⟩ = some (.int .i64 k) ∧ W'.cell? ⟨X, 1, none⟩ = some (.int .u64 i)) ∧ p < W'.heap.size ∧ X < W'.heap.size) := Lib.hid fun W' hW => by
    have q := (hW.block _ (blk_lt H3.out.1)).trans H3.out.1
    have q' := (hW.block _ (blk_lt H3.out.2.2.1)).trans H3.out.2.2.1
    exact ⟨⟨cell_blk q 0 _ rfl, cell_blk q 1 _ rfl, cell_blk q 2 _ rfl⟩, ⟨cell_blk q' 0 _ rfl, cell_blk q' 1 _ rfl⟩, blk_lt q, blk_lt q'⟩
  go_upto_region 5 with fail
  refine wp_region_K 5 (fun W => Below w3.heap.size w3 W) (by kernel_rfl) ?_
  obtain ⟨wd, hwd⟩ : ∃ W, W = (w3).drew := ⟨_, rfl⟩
  have HBd : Hid (Below (w3).heap.size (w3) wd) := Lib.hid (by rw [hwd]; exact Below.drewN' (w3) 1)
  have hS0 : (fun W : World => Below w3.heap.size w3 W) wd := by rw [hwd]; exact (Below.drewN' w3 1)
  rw [← hwd]
  obtain ⟨o, hrun, hmp⟩ := (H3.out.2.1.of_block (hS0.block mb H3.out.2.1.lt)).del H2.out.srt HDU.out 54
  clear hwd
  refine' wpAnyK_take (i := 0) (oi := { dst := some 46, op := Op.move (Operand.tmp 0), type := 30, pos := "timer.go:87", after := #[], guard := none }) (v := ?v2001) rfl (by kernel_rfl) (by kernel_rfl) (by kernel_rfl) [3, 2, 1] (by kernel_rfl) (by decide) (by kernel_rfl) (by kernel_rfl) (fun _ _ _ h => h) hS0 (.inl ⟨by first | rfl | simp [Region.wanted, yielded], ?hy2001⟩) ?rest2001
  case hy2001 => (intro W hW; obtain ⟨⟨f1, f2, f3⟩, ⟨f4, f5⟩, f6, f7⟩ := HCQ.out _ hW; go_simp; try with_reducible rfl)
  simp only [Act.put, List.setIfInBounds_toArray, List.set_cons_zero, List.set_cons_succ]
  refine' wpAnyK_take (i := 1) (oi := { dst := some 47, op := Op.nilCheck (Operand.tmp 46), type := 0, pos := "timer.go:87", after := #[{ on := 0, ground := Ground.data }], guard := none }) (v := ?v2002) rfl (by kernel_rfl) (by kernel_rfl) (by kernel_rfl) [3, 2] (by kernel_rfl) (by decide) (by kernel_rfl) (by kernel_rfl) (fun _ _ _ h => h) hS0 (.inl ⟨by first | rfl | simp [Region.wanted, yielded], ?hy2002⟩) ?rest2002
  case hy2002 => (intro W hW; obtain ⟨⟨f1, f2, f3⟩, ⟨f4, f5⟩, f6, f7⟩ := HCQ.out _ hW; go_simp; try with_reducible rfl)
  simp only [Act.put, List.setIfInBounds_toArray, List.set_cons_zero, List.set_cons_succ]
  refine' wpAnyK_take (i := 2) (oi := { dst := some 48, op := Op.fieldAddr 56 (Operand.tmp 47) 1, type := 0, pos := "timer.go:87", after := #[{ on := 1, ground := Ground.data }], guard := none }) (v := ?v2003) rfl (by kernel_rfl) (by kernel_rfl) (by kernel_rfl) [3] (by kernel_rfl) (by decide) (by kernel_rfl) (by kernel_rfl) (fun _ _ _ h => h) hS0 (.inl ⟨by first | rfl | simp [Region.wanted, yielded], ?hy2003⟩) ?rest2003
  case hy2003 => (intro W hW; obtain ⟨⟨f1, f2, f3⟩, ⟨f4, f5⟩, f6, f7⟩ := HCQ.out _ hW; go_simp; try with_reducible rfl)
  simp only [Act.put, List.setIfInBounds_toArray, List.set_cons_zero, List.set_cons_succ]
  refine' wpAnyK_take (i := 3) (oi := { dst := some 49, op := Op.load 54 (Operand.tmp 48), type := 54, pos := "timer.go:87", after := #[{ on := 2, ground := Ground.data }], guard := none }) (v := ?v2004) rfl (by kernel_rfl) (by kernel_rfl) (by kernel_rfl) [] (by kernel_rfl) (by decide) (by kernel_rfl) (by kernel_rfl) (fun _ _ _ h => h) hS0 (.inl ⟨by first | rfl | simp [Region.wanted, yielded], ?hy2004⟩) ?rest2004
  case hy2004 => (intro W hW; obtain ⟨⟨f1, f2, f3⟩, ⟨f4, f5⟩, f6, f7⟩ := HCQ.out _ hW; go_simp; try with_reducible rfl)
  simp only [Act.put, List.setIfInBounds_toArray, List.set_cons_zero, List.set_cons_succ]
  refine' wpAnyK_take (i := 4) (oi := { dst := some 50, op := Op.load 26 (Operand.tmp 3), type := 26, pos := "timer.go:87", after := #[], guard := none }) (v := ?v2005) rfl (by kernel_rfl) (by kernel_rfl) (by kernel_rfl) [] (by kernel_rfl) (by decide) (by kernel_rfl) (by kernel_rfl) (fun _ _ _ h => h) hS0 (.inl ⟨by first | rfl | simp [Region.wanted, yielded], ?hy2005⟩) ?rest2005
  case hy2005 => (intro W hW; obtain ⟨⟨f1, f2, f3⟩, ⟨f4, f5⟩, f6, f7⟩ := HCQ.out _ hW; go_simp; try with_reducible rfl)
  simp only [Act.put, List.setIfInBounds_toArray, List.set_cons_zero, List.set_cons_succ]
  refine wpAnyK_ready (rs := [5]) (by kernel_rfl) (by simp) ?_
  refine AllReadyK.cons (o := { dst := none, op := Op.call { callee := Callee.builtin Builtin.delete, args := #[Operand.tmp 49, Operand.tmp 50], argTypes := #[54, 26] }, type := 0, pos := "timer.go:87", after := #[{ on := 3, ground := Ground.data }, { on := 4, ground := Ground.data }], guard := none }) rfl (fun KK hK => ?_) (AllReadyK.nil)
  refine step_delete_run rfl _ _ 54 26 rfl (.map (some mb)) (.agg #[.int .i64 k, .int .u64 i]) (by simp [Act.eval, Act.put]) (by simp [Act.eval, Act.put]) hrun ?_
  refine hK.out _ _ (fun h => absurd (show true = false from h) (by decide)) ?_
  clear hK KK
  try simp only [Act.put, List.setIfInBounds_toArray, List.set_cons_zero, List.set_cons_succ]
  refine wpAnyK_done (by kernel_rfl) ?_ _
  have HWe : Hid (Below w3.heap.size w3 wd) := Lib.hid hS0
  have HMP := Lib.hid hmp
  clear hS0 hrun hmp
  go_wp2
  refine bodyPost_ret (v := .tuple #[.int .u64 d, .bool true]) (by simp [results, Try.f19, go_sem]) rfl ⟨rfl, ⟨⟨ao', n - 1, G, mb, ⟨?_, HMP.out, ?_, .inl H2.out.kp, .inl H2.out.km, H2.out.srt.wo k i, H2.out.m0, H2.out.m1, ?_⟩⟩, ?_⟩⟩
  · have hne : p ≠ mb := by
      intro e
      have g1 := H3.out.1
      obtain ⟨es, clock, g2, _⟩ := H3.out.2.1.ex
      rw [e, g2] at g1
      cases g1
    exact (setBlock_ne hne).trans ((HWe.out.block _ (blk_lt H3.out.1)).trans H3.out.1)
  · have hsz : wd.heap.size = (setBlock wd mb o).heap.size := by unfold setBlock; simp
    have z1 := HWe.out.size
    have z2 : w2.heap.size ≤ w3.heap.size := by rw [HW.out]; simp [World.setCell]
    refine H3.out.2.2.2.1.other (fun q hq => ?_) (fun q cur hq => ?_)
    · rcases hq with h | h
      · exact .inl h
      · exact .inr ⟨h.1, by omega⟩
    · have hne : q ≠ mb := by
        intro e
        obtain ⟨es, clock, g2, _⟩ := H3.out.2.1.ex
        rw [e, g2] at hq
        cases hq
      exact (setBlock_ne hne).trans (HWe.out.block _ (blk_lt hq))
  · have := H2.out.le
    omega
  · exact (H3.out.2.2.2.2.trans (Mod.of_below HWe.out K) (fun _ _ h => h)).setBlock _ _ (.inl H2.out.km)
end
end Go.Proofs.Ytnmbhcekcdicnaa
