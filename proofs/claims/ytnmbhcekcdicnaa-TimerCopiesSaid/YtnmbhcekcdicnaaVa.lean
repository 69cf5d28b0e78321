/-
  put of one row.
-/
import Derived.Test.YtnmbhcekcdicnaaV
import Derived.Test.YtnmbhcekcdicnaaOrd
namespace Go.Proofs.Ytnmbhcekcdicnaa
open Go.RowKit Go.Maps Go.ChangeMaps
set_option linter.unusedVariables false
set_option linter.unusedSimpArgs false

section
variable {K K' : Nat → Prop} {p n c mb : Nat} {most : Int} {l : List Rw} {ao : Option Addr} {W W' : World}
set_option maxHeartbeats 3200000 in
set_option maxRecDepth 100000 in
theorem TAt.put (h : TAt K p most l ao n c mb W) (hn : (n : Int) < most) (r : Rw) (hr : r.Ok) (hnew : ∀ x ∈ l, x.is r.k r.i = false) (vb : Nat) (hv : W.heap[vb]? = some (.cells #[.int .i64 r.k, .int .u64 r.i, .int .u64 r.d] 80 (0, 0))) :
    Calls Try.prog 36 #[.pointer (some ⟨p, 0, none⟩), .slice (some ⟨vb, 0, none⟩) 1 1] W fun e w' => e = .returned (.tuple #[]) ∧ Turned K p most (ins l r) W w' := by
  obtain ⟨k, i, d⟩ := r
  simp only at hv hnew
  have HW := Lib.hid h
  have HR := Lib.hid hr
  have HNW := Lib.hid hnew
  have HV := Lib.hid hv
  have HN := Lib.hid hn
  have v0 := cell_blk hv 0 _ rfl
  have v1 := cell_blk hv 1 _ rfl
  have v2 := cell_blk hv 2 _ rfl
  have lv := blk_lt hv
  clear h hr hnew hv hn
  go_enter Try.func36, Try.ntmps36
  go_wp2_with fail
  go_loopg [10] 1 (fun gk v10 wr => (gk = 1 ∧ v10 = .int .i64 0 ∧ wr = W) ∨ (gk = 0 ∧ v10 = .int .i64 1 ∧ Turned K p most (ins l ⟨k, i, d⟩) W wr))
  case atStart => exact .inl ⟨rfl, rfl, rfl⟩
  case round =>
    rcases hrel with ⟨rfl, rfl, rfl⟩ | ⟨rfl, rfl, hT⟩
    · go_upto_region 3 with fail
      obtain ⟨u, hu⟩ : ∃ X, X = wr.alloc (.cells #[.int .i64 k, .int .u64 i, .int .u64 d] 80) := ⟨_, rfl⟩
      obtain ⟨X, hX⟩ : ∃ X, X = wr.heap.size := ⟨_, rfl⟩
      rw [← hu, ← hX]
      have b1 : Below wr.heap.size wr u := by rw [hu]; exact (Below.refl _ wr).alloc (Nat.le_refl _) _
      have kk : u.heap[X]? = some (.cells #[.int .i64 k, .int .u64 i, .int .u64 d] 80 (0, 0)) := by rw [hu, hX]; exact alloc_blk_new _ _
      have KX := Lib.hid kk
      have EX := Lib.hid hX
      have B1 := Lib.hid b1
      have H2 := Lib.hid (HW.out.below b1)
      clear kk hX b1 hu v0 v1 v2 lv
      obtain ⟨P, hP⟩ : ∃ P, P = posR l ⟨k, i, d⟩ := ⟨_, rfl⟩
      have HIN : Hid (ins l ⟨k, i, d⟩ = l.take P ++ ⟨k, i, d⟩ :: l.drop P) := Lib.hid (by
        rw [hP]
        exact ins_at HW.out.srt.o _ (fun x hx e => by
          have := HNW.out x hx
          rw [e] at this
          simp [Rw.is] at this))
      have hPn : P ≤ n := by rw [hP, HW.out.rows.len]; exact posR_le _ _
      have hn : n < 8192 := by have := HN.out; have := HW.out.m1; omega
      have HPn := Lib.hid hPn
      have Hn := Lib.hid hn
      obtain ⟨F, hF⟩ : ∃ F, F = foundR l ⟨k, i, d⟩ := ⟨_, rfl⟩
      have HSe : Hid (∀ W', Below u.heap.size u W' → Calls Try.prog 37 #[.slice ao n c, .agg #[.int .i64 k, .int .u64 i, .int .u64 d], .func (.func 38) #[] #[]] W' fun e w' => e = .returned (.tuple #[.int .i64 P, .bool F]) ∧ Below W'.heap.size W' w') := Lib.hid fun W' hW => by
        have := search37 ao n c l ⟨k, i, d⟩ W' (H2.out.below hW).rows.ahead H2.out.srt.o (by omega)
        rw [← hP, ← hF] at this
        exact this
      have HCP : Hid (∀ W', Below u.heap.size u W' → (W'.cell? ⟨p, 0, none⟩ = some (.slice ao n c) ∧ W'.cell? ⟨p, 1, none⟩ = some (.map (some mb)) ∧ W'.cell? ⟨p, 2, none⟩ = some (.int .i64 most)) ∧ (W'.cell? ⟨X, 0, none⟩ = some (.int .i64 k) ∧ W'.cell? ⟨X, 1, none⟩ = some (.int .u64 i) ∧ W'.cell? ⟨X, 2, none⟩ = some (.int .u64 d)) ∧ p < W'.heap.size ∧ X < W'.heap.size) := Lib.hid fun W' hW => by
        have q := (H2.out.below hW).blk
        have q' := (hW.block _ (blk_lt KX.out)).trans KX.out
        exact ⟨⟨cell_blk q 0 _ rfl, cell_blk q 1 _ rfl, cell_blk q 2 _ rfl⟩, ⟨cell_blk q' 0 _ rfl, cell_blk q' 1 _ rfl, cell_blk q' 2 _ rfl⟩, blk_lt q, blk_lt q'⟩
      clear hP hF hPn hn
      refine wp_region_held_drew (S := fun W => Below u.heap.size u W) (by kernel_rfl) (Below.drewN' u 1) (fun hHeld => ?_)
      generalize u.drew = wd at hHeld ⊢
      refine' wpAnyH_take (i := 0) (oi := { dst := some 15, op := Op.move (Operand.tmp 0), type := 30, pos := "timer.go:57", after := #[], guard := none }) (v := ?v701001) rfl (by kernel_rfl) (by kernel_rfl) (by kernel_rfl) (fun _ _ _ h => h) (.inl ⟨by first | rfl | simp [Region.wanted, yielded], ?hy701001⟩) (by assumption) ?rest701001
      case hy701001 => (intro W hW; obtain ⟨⟨f1, f2, f3⟩, ⟨f4, f5, f6⟩, f7, f8⟩ := HCP.out _ hW; go_simp; try with_reducible rfl)
      simp only [Act.put, List.setIfInBounds_toArray, List.set_cons_zero, List.set_cons_succ]
      refine' wpAnyH_take (i := 1) (oi := { dst := some 16, op := Op.nilCheck (Operand.tmp 15), type := 0, pos := "timer.go:57", after := #[{ on := 0, ground := Ground.data }], guard := none }) (v := ?v701002) rfl (by kernel_rfl) (by kernel_rfl) (by kernel_rfl) (fun _ _ _ h => h) (.inl ⟨by first | rfl | simp [Region.wanted, yielded], ?hy701002⟩) (by assumption) ?rest701002
      case hy701002 => (intro W hW; obtain ⟨⟨f1, f2, f3⟩, ⟨f4, f5, f6⟩, f7, f8⟩ := HCP.out _ hW; go_simp; try with_reducible rfl)
      simp only [Act.put, List.setIfInBounds_toArray, List.set_cons_zero, List.set_cons_succ]
      refine' wpAnyH_take (i := 2) (oi := { dst := some 17, op := Op.fieldAddr 56 (Operand.tmp 16) 0, type := 0, pos := "timer.go:57", after := #[{ on := 1, ground := Ground.data }], guard := none }) (v := ?v701003) rfl (by kernel_rfl) (by kernel_rfl) (by kernel_rfl) (fun _ _ _ h => h) (.inl ⟨by first | rfl | simp [Region.wanted, yielded], ?hy701003⟩) (by assumption) ?rest701003
      case hy701003 => (intro W hW; obtain ⟨⟨f1, f2, f3⟩, ⟨f4, f5, f6⟩, f7, f8⟩ := HCP.out _ hW; go_simp; try with_reducible rfl)
      simp only [Act.put, List.setIfInBounds_toArray, List.set_cons_zero, List.set_cons_succ]
      refine' wpAnyH_take (i := 3) (oi := { dst := some 18, op := Op.load 53 (Operand.tmp 17), type := 53, pos := "timer.go:57", after := #[{ on := 2, ground := Ground.data }], guard := none }) (v := ?v701004) rfl (by kernel_rfl) (by kernel_rfl) (by kernel_rfl) (fun _ _ _ h => h) (.inl ⟨by first | rfl | simp [Region.wanted, yielded], ?hy701004⟩) (by assumption) ?rest701004
      case hy701004 => (intro W hW; obtain ⟨⟨f1, f2, f3⟩, ⟨f4, f5, f6⟩, f7, f8⟩ := HCP.out _ hW; go_simp; try with_reducible rfl)
      simp only [Act.put, List.setIfInBounds_toArray, List.set_cons_zero, List.set_cons_succ]
      refine' wpAnyH_take (i := 4) (oi := { dst := some 19, op := Op.load 80 (Operand.tmp 5), type := 80, pos := "timer.go:57", after := #[], guard := none }) (v := ?v701005) rfl (by kernel_rfl) (by kernel_rfl) (by kernel_rfl) (fun _ _ _ h => h) (.inl ⟨by first | rfl | simp [Region.wanted, yielded], ?hy701005⟩) (by assumption) ?rest701005
      case hy701005 => (intro W hW; obtain ⟨⟨f1, f2, f3⟩, ⟨f4, f5, f6⟩, f7, f8⟩ := HCP.out _ hW; go_simp; try with_reducible rfl)
      simp only [Act.put, List.setIfInBounds_toArray, List.set_cons_zero, List.set_cons_succ]
      refine wpAnyH_ready (rs := [5]) (by kernel_rfl) (by simp) ?_
      refine AllReadyH.cons (o := { dst := some 20, op := Op.call { callee := Callee.value (Operand.func 37), args := #[Operand.tmp 18, Operand.tmp 19, Operand.func 38], argTypes := #[53, 80, 87] }, type := 85, pos := "timer.go:57", after := #[{ on := 3, ground := Ground.data }, { on := 4, ground := Ground.data }], guard := none }) rfl (fun K hK => ?_) (AllReadyH.nil)
      try simp only [List.getElem_toArray, List.getElem_cons_succ, List.getElem_cons_zero]
      go_simp
      refine (HSe.out _ hHeld).mono ?_
      rintro e z ⟨rfl, hz⟩
      have HB1 := hHeld.trans (hz.mono hHeld.size)
      clear hz hHeld
      refine hK.out _ _ HB1 (fun hHeld => ?_)
      clear hK K
      try simp only [Act.put, List.setIfInBounds_toArray, List.set_cons_zero, List.set_cons_succ]
      refine' wpAnyH_take (i := 6) (oi := { dst := some 14, op := Op.move (Operand.tmp 20), type := 85, pos := "timer.go:57", after := #[{ on := 5, ground := Ground.data }], guard := none }) (v := ?v701006) rfl (by kernel_rfl) (by kernel_rfl) (by kernel_rfl) (fun _ _ _ h => h) (.inl ⟨by first | rfl | simp [Region.wanted, yielded], ?hy701006⟩) (by assumption) ?rest701006
      case hy701006 => (intro W hW; obtain ⟨⟨f1, f2, f3⟩, ⟨f4, f5, f6⟩, f7, f8⟩ := HCP.out _ hW; go_simp; try with_reducible rfl)
      simp only [Act.put, List.setIfInBounds_toArray, List.set_cons_zero, List.set_cons_succ]
      refine' wpAnyH_take (i := 7) (oi := { dst := some 21, op := Op.extract (Operand.tmp 14) 0, type := 3, pos := "timer.go:57", after := #[{ on := 6, ground := Ground.data }], guard := none }) (v := ?v701007) rfl (by kernel_rfl) (by kernel_rfl) (by kernel_rfl) (fun _ _ _ h => h) (.inl ⟨by first | rfl | simp [Region.wanted, yielded], ?hy701007⟩) (by assumption) ?rest701007
      case hy701007 => (intro W hW; obtain ⟨⟨f1, f2, f3⟩, ⟨f4, f5, f6⟩, f7, f8⟩ := HCP.out _ hW; go_simp; try with_reducible rfl)
      simp only [Act.put, List.setIfInBounds_toArray, List.set_cons_zero, List.set_cons_succ]
      refine' wpAnyH_take (i := 8) (oi := { dst := some 22, op := Op.extract (Operand.tmp 14) 1, type := 4, pos := "timer.go:57", after := #[{ on := 6, ground := Ground.data }, { on := 9, ground := Ground.gcOnly Departure.lateStores }], guard := none }) (v := ?v701008) rfl (by kernel_rfl) (by kernel_rfl) (by kernel_rfl) (fun _ _ _ h => h) (.inl ⟨by first | rfl | simp [Region.wanted, yielded], ?hy701008⟩) (by assumption) ?rest701008
      case hy701008 => (intro W hW; obtain ⟨⟨f1, f2, f3⟩, ⟨f4, f5, f6⟩, f7, f8⟩ := HCP.out _ hW; go_simp; try with_reducible rfl)
      simp only [Act.put, List.setIfInBounds_toArray, List.set_cons_zero, List.set_cons_succ]
      refine' wpAnyH_take (i := 9) (oi := { dst := some 6, op := Op.assign (Operand.tmp 21), type := 3, pos := "timer.go:57", after := #[{ on := 7, ground := Ground.data }, { on := 5, ground := Ground.chain }, { on := 0, ground := Ground.phase }, { on := 1, ground := Ground.phase }, { on := 2, ground := Ground.phase }, { on := 3, ground := Ground.phase }, { on := 4, ground := Ground.phase }, { on := 5, ground := Ground.phase }, { on := 6, ground := Ground.phase }, { on := 7, ground := Ground.phase }, { on := 8, ground := Ground.textOnly Departure.lateStores }], guard := none }) (v := ?v701009) rfl (by kernel_rfl) (by kernel_rfl) (by kernel_rfl) (fun _ _ _ h => h) (.inl ⟨by first | rfl | simp [Region.wanted, yielded], ?hy701009⟩) (by assumption) ?rest701009
      case hy701009 => (intro W hW; obtain ⟨⟨f1, f2, f3⟩, ⟨f4, f5, f6⟩, f7, f8⟩ := HCP.out _ hW; go_simp; try with_reducible rfl)
      simp only [Act.put, List.setIfInBounds_toArray, List.set_cons_zero, List.set_cons_succ]
      refine' wpAnyH_take (i := 10) (oi := { dst := some 7, op := Op.assign (Operand.tmp 22), type := 4, pos := "timer.go:57", after := #[{ on := 8, ground := Ground.data }, { on := 9, ground := Ground.chain }, { on := 0, ground := Ground.phase }, { on := 1, ground := Ground.phase }, { on := 2, ground := Ground.phase }, { on := 3, ground := Ground.phase }, { on := 4, ground := Ground.phase }, { on := 5, ground := Ground.phase }, { on := 6, ground := Ground.phase }, { on := 7, ground := Ground.phase }, { on := 8, ground := Ground.phase }, { on := 9, ground := Ground.phase }], guard := none }) (v := ?v701010) rfl (by kernel_rfl) (by kernel_rfl) (by kernel_rfl) (fun _ _ _ h => h) (.inl ⟨by first | rfl | simp [Region.wanted, yielded], ?hy701010⟩) (by assumption) ?rest701010
      case hy701010 => (intro W hW; obtain ⟨⟨f1, f2, f3⟩, ⟨f4, f5, f6⟩, f7, f8⟩ := HCP.out _ hW; go_simp; try with_reducible rfl)
      simp only [Act.put, List.setIfInBounds_toArray, List.set_cons_zero, List.set_cons_succ]
      refine wpAnyH_done (by kernel_rfl) ?_ _
      have HBe := Lib.hid hHeld
      clear hHeld
      go_upto_region 4 with fail
      refine wp_region_K 11 (fun W => W.heap[p]? = some (.cells #[.slice ao n c, .map (some mb), .int .i64 most] 56 (0, 0)) ∧ W.heap[X]? = some (.cells #[.int .i64 k, .int .u64 i, .int .u64 d] 80 (0, 0))) (by kernel_rfl) ?_
      obtain ⟨wd, hwd⟩ : ∃ W, W = (z).drew := ⟨_, rfl⟩
      have HBd : Hid (Below (z).heap.size (z) wd) := Lib.hid (by rw [hwd]; exact Below.drewN' (z) 1)
      have hS0 : (fun W : World => W.heap[p]? = some (.cells #[.slice ao n c, .map (some mb), .int .i64 most] 56 (0, 0)) ∧ W.heap[X]? = some (.cells #[.int .i64 k, .int .u64 i, .int .u64 d] 80 (0, 0))) wd := by rw [hwd]; exact ⟨(H2.out.below (HBe.out.trans ((Below.drewN' z 1).mono HBe.out.size))).blk, ((HBe.out.trans ((Below.drewN' z 1).mono HBe.out.size)).block _ (blk_lt KX.out)).trans KX.out⟩
      rw [← hwd]
      have HBd : Hid (Below u.heap.size u wd) := Lib.hid (by rw [hwd]; exact HBe.out.trans ((Below.drewN' z 1).mono HBe.out.size))
      clear hwd
      refine' wpAnyK_take (i := 0) (oi := { dst := some 23, op := Op.move (Operand.tmp 0), type := 30, pos := "timer.go:58", after := #[], guard := none }) (v := ?v21001) rfl (by kernel_rfl) (by kernel_rfl) (by kernel_rfl) [] (by kernel_rfl) (by decide) (by kernel_rfl) (by kernel_rfl) (fun _ _ _ h => h) hS0 (.inl ⟨by first | rfl | simp [Region.wanted, yielded], ?hy21001⟩) ?rest21001
      case hy21001 => (intro W hW; have g1 := hW.1; have g2 := hW.2; have f1 := cell_blk g1 0 _ rfl; have f2 := cell_blk g1 1 _ rfl; have f3 := cell_blk g1 2 _ rfl; have f4 := cell_blk g2 0 _ rfl; have f5 := cell_blk g2 1 _ rfl; have f6 := cell_blk g2 2 _ rfl; have f7 := blk_lt g1; have f8 := blk_lt g2; go_simp; try with_reducible rfl)
      simp only [Act.put, List.setIfInBounds_toArray, List.set_cons_zero, List.set_cons_succ]
      refine' wpAnyK_take (i := 1) (oi := { dst := some 24, op := Op.move (Operand.tmp 0), type := 30, pos := "timer.go:58", after := #[], guard := none }) (v := ?v21002) rfl (by kernel_rfl) (by kernel_rfl) (by kernel_rfl) [] (by kernel_rfl) (by decide) (by kernel_rfl) (by kernel_rfl) (fun _ _ _ h => h) hS0 (.inl ⟨by first | rfl | simp [Region.wanted, yielded], ?hy21002⟩) ?rest21002
      case hy21002 => (intro W hW; have g1 := hW.1; have g2 := hW.2; have f1 := cell_blk g1 0 _ rfl; have f2 := cell_blk g1 1 _ rfl; have f3 := cell_blk g1 2 _ rfl; have f4 := cell_blk g2 0 _ rfl; have f5 := cell_blk g2 1 _ rfl; have f6 := cell_blk g2 2 _ rfl; have f7 := blk_lt g1; have f8 := blk_lt g2; go_simp; try with_reducible rfl)
      simp only [Act.put, List.setIfInBounds_toArray, List.set_cons_zero, List.set_cons_succ]
      refine' wpAnyK_take (i := 2) (oi := { dst := some 25, op := Op.nilCheck (Operand.tmp 24), type := 0, pos := "timer.go:58", after := #[{ on := 1, ground := Ground.data }], guard := none }) (v := ?v21003) rfl (by kernel_rfl) (by kernel_rfl) (by kernel_rfl) [] (by kernel_rfl) (by decide) (by kernel_rfl) (by kernel_rfl) (fun _ _ _ h => h) hS0 (.inl ⟨by first | rfl | simp [Region.wanted, yielded], ?hy21003⟩) ?rest21003
      case hy21003 => (intro W hW; have g1 := hW.1; have g2 := hW.2; have f1 := cell_blk g1 0 _ rfl; have f2 := cell_blk g1 1 _ rfl; have f3 := cell_blk g1 2 _ rfl; have f4 := cell_blk g2 0 _ rfl; have f5 := cell_blk g2 1 _ rfl; have f6 := cell_blk g2 2 _ rfl; have f7 := blk_lt g1; have f8 := blk_lt g2; go_simp; try with_reducible rfl)
      simp only [Act.put, List.setIfInBounds_toArray, List.set_cons_zero, List.set_cons_succ]
      refine' wpAnyK_take (i := 3) (oi := { dst := some 26, op := Op.fieldAddr 56 (Operand.tmp 25) 0, type := 0, pos := "timer.go:58", after := #[{ on := 2, ground := Ground.data }], guard := none }) (v := ?v21004) rfl (by kernel_rfl) (by kernel_rfl) (by kernel_rfl) [] (by kernel_rfl) (by decide) (by kernel_rfl) (by kernel_rfl) (fun _ _ _ h => h) hS0 (.inl ⟨by first | rfl | simp [Region.wanted, yielded], ?hy21004⟩) ?rest21004
      case hy21004 => (intro W hW; have g1 := hW.1; have g2 := hW.2; have f1 := cell_blk g1 0 _ rfl; have f2 := cell_blk g1 1 _ rfl; have f3 := cell_blk g1 2 _ rfl; have f4 := cell_blk g2 0 _ rfl; have f5 := cell_blk g2 1 _ rfl; have f6 := cell_blk g2 2 _ rfl; have f7 := blk_lt g1; have f8 := blk_lt g2; go_simp; try with_reducible rfl)
      simp only [Act.put, List.setIfInBounds_toArray, List.set_cons_zero, List.set_cons_succ]
      refine' wpAnyK_take (i := 4) (oi := { dst := some 27, op := Op.load 53 (Operand.tmp 26), type := 53, pos := "timer.go:58", after := #[{ on := 3, ground := Ground.data }], guard := none }) (v := ?v21005) rfl (by kernel_rfl) (by kernel_rfl) (by kernel_rfl) [] (by kernel_rfl) (by decide) (by kernel_rfl) (by kernel_rfl) (fun _ _ _ h => h) hS0 (.inl ⟨by first | rfl | simp [Region.wanted, yielded], ?hy21005⟩) ?rest21005
      case hy21005 => (intro W hW; have g1 := hW.1; have g2 := hW.2; have f1 := cell_blk g1 0 _ rfl; have f2 := cell_blk g1 1 _ rfl; have f3 := cell_blk g1 2 _ rfl; have f4 := cell_blk g2 0 _ rfl; have f5 := cell_blk g2 1 _ rfl; have f6 := cell_blk g2 2 _ rfl; have f7 := blk_lt g1; have f8 := blk_lt g2; go_simp; try with_reducible rfl)
      simp only [Act.put, List.setIfInBounds_toArray, List.set_cons_zero, List.set_cons_succ]
      refine' wpAnyK_take (i := 5) (oi := { dst := some 28, op := Op.move (Operand.tmp 6), type := 3, pos := "timer.go:58", after := #[], guard := none }) (v := ?v21006) rfl (by kernel_rfl) (by kernel_rfl) (by kernel_rfl) [] (by kernel_rfl) (by decide) (by kernel_rfl) (by kernel_rfl) (fun _ _ _ h => h) hS0 (.inl ⟨by first | rfl | simp [Region.wanted, yielded], ?hy21006⟩) ?rest21006
      case hy21006 => (intro W hW; have g1 := hW.1; have g2 := hW.2; have f1 := cell_blk g1 0 _ rfl; have f2 := cell_blk g1 1 _ rfl; have f3 := cell_blk g1 2 _ rfl; have f4 := cell_blk g2 0 _ rfl; have f5 := cell_blk g2 1 _ rfl; have f6 := cell_blk g2 2 _ rfl; have f7 := blk_lt g1; have f8 := blk_lt g2; go_simp; try with_reducible rfl)
      simp only [Act.put, List.setIfInBounds_toArray, List.set_cons_zero, List.set_cons_succ]
      refine' wpAnyK_take (i := 6) (oi := { dst := some 29, op := Op.load 80 (Operand.tmp 5), type := 80, pos := "timer.go:58", after := #[], guard := none }) (v := ?v21007) rfl (by kernel_rfl) (by kernel_rfl) (by kernel_rfl) [] (by kernel_rfl) (by decide) (by kernel_rfl) (by kernel_rfl) (fun _ _ _ h => h) hS0 (.inl ⟨by first | rfl | simp [Region.wanted, yielded], ?hy21007⟩) ?rest21007
      case hy21007 => (intro W hW; have g1 := hW.1; have g2 := hW.2; have f1 := cell_blk g1 0 _ rfl; have f2 := cell_blk g1 1 _ rfl; have f3 := cell_blk g1 2 _ rfl; have f4 := cell_blk g2 0 _ rfl; have f5 := cell_blk g2 1 _ rfl; have f6 := cell_blk g2 2 _ rfl; have f7 := blk_lt g1; have f8 := blk_lt g2; go_simp; try with_reducible rfl)
      simp only [Act.put, List.setIfInBounds_toArray, List.set_cons_zero, List.set_cons_succ]
      refine wpAnyK_ready (rs := [7]) (by kernel_rfl) (by simp) ?_
      refine AllReadyK.cons (o := { dst := some 30, op := Op.buildSlice 53 1 #[(0, Operand.tmp 29)], type := 53, pos := "timer.go:58", after := #[{ on := 6, ground := Ground.data }], guard := none }) rfl (fun KK hK => ?_) (AllReadyK.nil)
      try simp only [List.getElem_toArray, List.getElem_cons_succ, List.getElem_cons_zero]
      go_simp
      obtain ⟨w4, hw4⟩ : ∃ Y, Y = wd.alloc (.cells #[.int .i64 k, .int .u64 i, .int .u64 d] 80) := ⟨_, rfl⟩
      obtain ⟨V, hV⟩ : ∃ V, V = wd.heap.size := ⟨_, rfl⟩
      rw [← hw4, ← hV]
      have hB4 : Below u.heap.size u w4 := by rw [hw4]; exact HBd.out.alloc HBd.out.size _
      have hV4 : w4.heap[V]? = some (.cells #[.int .i64 k, .int .u64 i, .int .u64 d] 80 (0, 0)) := by rw [hw4, hV]; exact alloc_blk_new _ _
      have hVn : u.heap.size ≤ V := by rw [hV]; exact HBd.out.size
      have hS1 : (fun W : World => W.heap[p]? = some (.cells #[.slice ao n c, .map (some mb), .int .i64 most] 56 (0, 0)) ∧ W.heap[X]? = some (.cells #[.int .i64 k, .int .u64 i, .int .u64 d] 80 (0, 0))) w4 := ⟨(H2.out.below hB4).blk, (hB4.block _ (blk_lt KX.out)).trans KX.out⟩
      have HB4 := Lib.hid hB4
      have HV4 := Lib.hid hV4
      have HVN := Lib.hid hVn
      clear hw4 hV hB4 hV4 hVn hS0
      refine hK.out _ _ (fun _ => hS1) ?_
      clear hK KK
      try simp only [Act.put, List.setIfInBounds_toArray, List.set_cons_zero, List.set_cons_succ]
      refine wpAnyK_ready (rs := [8]) (by kernel_rfl) (by simp) ?_
      refine AllReadyK.cons (o := { dst := some 31, op := Op.call { callee := Callee.value (Operand.func 43), args := #[Operand.tmp 27, Operand.tmp 28, Operand.tmp 30], argTypes := #[53, 3, 53] }, type := 53, pos := "timer.go:58", after := #[{ on := 4, ground := Ground.data }, { on := 5, ground := Ground.data }, { on := 7, ground := Ground.data }], guard := none }) rfl (fun KK hK => ?_) (AllReadyK.nil)
      try simp only [List.getElem_toArray, List.getElem_cons_succ, List.getElem_cons_zero]
      obtain ⟨v, w9, hcall, hins⟩ := insert43 (H2.out.below HB4.out).rows Hn.out P HPn.out ⟨k, i, d⟩ V HV4.out (fun a e => by
        obtain ⟨b, cur, rfl, hb⟩ := H2.out.rows.some_ a e
        have := blk_lt hb.2.1
        have := HVN.out
        simp only
        omega)
      obtain ⟨⟨ao9, c9, rfl, hrows⟩, hmod⟩ := hins
      obtain ⟨n9, hn9⟩ : ∃ x, x = (l.take P ++ (⟨k, i, d⟩ : Rw) :: l.drop P).length := ⟨_, rfl⟩
      rw [← hn9] at hrows hcall
      rw [← HIN.out] at hrows hn9
      go_simp
      refine hcall.mono ?_
      rintro e z ⟨rfl, rfl⟩
      clear hcall
      have hpa : ∀ (q : Nat) A t, w4.heap[q]? = some (.cells A t (0, 0)) → t ≠ 80 ∨ q = X → z.heap[q]? = some (.cells A t (0, 0)) := fun q A t hq hd => by
        refine (hmod.block q (blk_lt hq) (fun ea => ?_)).trans hq
        obtain ⟨b, cur, e1, _, e2, _⟩ := HW.out.rows.some_ _ ea
        cases e1
        rcases hd with hd | hd
        · have hz := (HB4.out.block q (Nat.lt_of_lt_of_le (blk_lt e2) B1.out.size)).trans ((B1.out.block q (blk_lt e2)).trans e2)
          rw [hq] at hz
          cases hz
          exact hd rfl
        · have := blk_lt e2
          have := EX.out
          omega
      have hS2 : (fun W : World => W.heap[p]? = some (.cells #[.slice ao n c, .map (some mb), .int .i64 most] 56 (0, 0)) ∧ W.heap[X]? = some (.cells #[.int .i64 k, .int .u64 i, .int .u64 d] 80 (0, 0))) z := ⟨hpa _ _ _ hS1.1 (.inl (by decide)), hpa _ _ _ hS1.2 (.inr rfl)⟩
      have e0 := cell_blk hS2.1 0 _ rfl
      have e1 := frozen_blk hS2.1 0
      have e2 := blk_lt hS2.1
      clear hpa
      have HR9 := Lib.hid hrows
      have HM9 := Lib.hid hmod
      have HN9 := Lib.hid hn9
      clear hrows hmod hn9
      refine hK.out _ _ (fun _ => hS2) ?_
      clear hK KK
      try simp only [Act.put, List.setIfInBounds_toArray, List.set_cons_zero, List.set_cons_succ]
      refine' wpAnyK_take (i := 9) (oi := { dst := some 32, op := Op.nilCheck (Operand.tmp 23), type := 0, pos := "timer.go:58", after := #[{ on := 0, ground := Ground.data }, { on := 0, ground := Ground.phase }, { on := 1, ground := Ground.phase }, { on := 2, ground := Ground.phase }, { on := 3, ground := Ground.phase }, { on := 4, ground := Ground.phase }, { on := 5, ground := Ground.phase }, { on := 6, ground := Ground.phase }, { on := 7, ground := Ground.phase }, { on := 8, ground := Ground.phase }], guard := none }) (v := ?v21008) rfl (by kernel_rfl) (by kernel_rfl) (by kernel_rfl) [10] (by kernel_rfl) (by decide) (by kernel_rfl) (by kernel_rfl) (fun _ _ _ h => h) hS2 (.inl ⟨by first | rfl | simp [Region.wanted, yielded], ?hy21008⟩) ?rest21008
      case hy21008 => (intro W hW; have g1 := hW.1; have g2 := hW.2; have f1 := cell_blk g1 0 _ rfl; have f2 := cell_blk g1 1 _ rfl; have f3 := cell_blk g1 2 _ rfl; have f4 := cell_blk g2 0 _ rfl; have f5 := cell_blk g2 1 _ rfl; have f6 := cell_blk g2 2 _ rfl; have f7 := blk_lt g1; have f8 := blk_lt g2; go_simp; try with_reducible rfl)
      simp only [Act.put, List.setIfInBounds_toArray, List.set_cons_zero, List.set_cons_succ]
      refine' wpAnyK_take (i := 10) (oi := { dst := some 33, op := Op.fieldAddr 56 (Operand.tmp 32) 0, type := 0, pos := "timer.go:58", after := #[{ on := 9, ground := Ground.data }, { on := 0, ground := Ground.phase }, { on := 1, ground := Ground.phase }, { on := 2, ground := Ground.phase }, { on := 3, ground := Ground.phase }, { on := 4, ground := Ground.phase }, { on := 5, ground := Ground.phase }, { on := 6, ground := Ground.phase }, { on := 7, ground := Ground.phase }, { on := 8, ground := Ground.phase }], guard := none }) (v := ?v21009) rfl (by kernel_rfl) (by kernel_rfl) (by kernel_rfl) [] (by kernel_rfl) (by decide) (by kernel_rfl) (by kernel_rfl) (fun _ _ _ h => h) hS2 (.inl ⟨by first | rfl | simp [Region.wanted, yielded], ?hy21009⟩) ?rest21009
      case hy21009 => (intro W hW; have g1 := hW.1; have g2 := hW.2; have f1 := cell_blk g1 0 _ rfl; have f2 := cell_blk g1 1 _ rfl; have f3 := cell_blk g1 2 _ rfl; have f4 := cell_blk g2 0 _ rfl; have f5 := cell_blk g2 1 _ rfl; have f6 := cell_blk g2 2 _ rfl; have f7 := blk_lt g1; have f8 := blk_lt g2; go_simp; try with_reducible rfl)
      simp only [Act.put, List.setIfInBounds_toArray, List.set_cons_zero, List.set_cons_succ]
      refine wpAnyK_ready (rs := [11]) (by kernel_rfl) (by simp) ?_
      refine AllReadyK.cons (o := { dst := none, op := Op.store 53 (Operand.tmp 33) (Operand.tmp 31), type := 0, pos := "timer.go:58", after := #[{ on := 10, ground := Ground.data }, { on := 8, ground := Ground.data }, { on := 8, ground := Ground.chain }, { on := 0, ground := Ground.phase }, { on := 1, ground := Ground.phase }, { on := 2, ground := Ground.phase }, { on := 3, ground := Ground.phase }, { on := 4, ground := Ground.phase }, { on := 5, ground := Ground.phase }, { on := 6, ground := Ground.phase }, { on := 7, ground := Ground.phase }, { on := 8, ground := Ground.phase }], guard := none }) rfl (fun KK hK => ?_) (AllReadyK.nil)
      try simp only [List.getElem_toArray, List.getElem_cons_succ, List.getElem_cons_zero]
      go_simp
      refine hK.out _ _ (fun h => absurd (show true = false from h) (by decide)) ?_
      clear hK KK
      try simp only [Act.put, List.setIfInBounds_toArray, List.set_cons_zero, List.set_cons_succ]
      refine wpAnyK_done (by kernel_rfl) ?_ _
      obtain ⟨w5, hw5⟩ : ∃ Y, Y = z.setCell ⟨p, 0, none⟩ (.slice ao9 n9 c9) := ⟨_, rfl⟩
      rw [← hw5]
      have H5 : Hid (w5.heap[p]? = some (.cells #[.slice ao9 n9 c9, .map (some mb), .int .i64 most] 56 (0, 0)) ∧ w5.heap[X]? = some (.cells #[.int .i64 k, .int .u64 i, .int .u64 d] 80 (0, 0)) ∧ MapAt w5 mb l ∧ RowsIn (fun q => K q ∨ (wr.heap.size ≤ q ∧ q < w5.heap.size)) w5 ao9 n9 c9 (ins l ⟨k, i, d⟩) ∧ Mod K wr w5) := Lib.hid (by
        have hXp : X ≠ p := by
          intro e
          have g1 := hS2.1
          rw [← e, hS2.2] at g1
          cases g1
        have hz5 : z.heap.size = w5.heap.size := by rw [hw5]; simp [World.setCell]
        have z1 := HB4.out.size
        have z2 := B1.out.size
        refine ⟨?_, ?_, ?_, ?_, ?_⟩
        · rw [hw5, setCell_blk hS2.1]
          rfl
        · rw [hw5]
          exact (setCell_blk_ne hXp _).trans hS2.2
        · obtain ⟨es, clock, g2, _⟩ := HW.out.map.ex
          have hmp : mb ≠ p := by
            intro e
            have g1 := HW.out.blk
            rw [← e, g2] at g1
            cases g1
          refine HW.out.map.of_block ?_
          rw [hw5]
          refine (setCell_blk_ne hmp _).trans ((HM9.out.block mb (by have := HW.out.map.lt; omega) (fun ea => ?_)).trans ((HB4.out.block mb (by have := HW.out.map.lt; omega)).trans (B1.out.block mb HW.out.map.lt)))
          obtain ⟨b, cur, e1, _, e2, _⟩ := HW.out.rows.some_ _ ea
          cases e1
          rw [g2] at e2
          cases e2
        · refine HR9.out.other (fun q hq => ?_) (fun q cur hq => ?_)
          · rcases hq with h | h
            · exact .inl h
            · exact .inr ⟨by omega, by omega⟩
          · rw [hw5]
            refine setCell_blk_ne ?_ _
            intro e
            have g1 := hS2.1
            rw [← (show q = p from e), hq] at g1
            cases g1
        · rw [hw5]
          refine Mod.setCell ?_ _ (.inl HW.out.kp) _
          refine (Mod.of_below (B1.out.trans (HB4.out.mono B1.out.size)) K).trans HM9.out (fun q hq ea => ?_)
          obtain ⟨b, cur, e1, e3, _⟩ := HW.out.rows.some_ _ ea
          cases e1
          exact e3)
      have HCQ : Hid (∀ W', Below w5.heap.size w5 W' → (W'.cell? ⟨p, 0, none⟩ = some (.slice ao9 n9 c9) ∧ W'.cell? ⟨p, 1, none⟩ = some (.map (some mb)) ∧ W'.cell? ⟨p, 2, none⟩ = some (.int .i64 most)) ∧ (W'.cell? ⟨X, 0, none⟩ = some (.int .i64 k) ∧ W'.cell? ⟨X, 1, none⟩ = some (.int .u64 i) ∧ W'.cell? ⟨X, 2, none⟩ = some (.int .u64 d)) ∧ p < W'.heap.size ∧ X < W'.heap.size) := Lib.hid fun W' hW => by
        have q := (hW.block _ (blk_lt H5.out.1)).trans H5.out.1
        have q' := (hW.block _ (blk_lt H5.out.2.1)).trans H5.out.2.1
        exact ⟨⟨cell_blk q 0 _ rfl, cell_blk q 1 _ rfl, cell_blk q 2 _ rfl⟩, ⟨cell_blk q' 0 _ rfl, cell_blk q' 1 _ rfl, cell_blk q' 2 _ rfl⟩, blk_lt q, blk_lt q'⟩
      clear hw5 e0 e1 e2 hS2 hS1
      go_upto_region 5 with fail
      refine wp_region_K 8 (fun W => Below w5.heap.size w5 W) (by kernel_rfl) ?_
      obtain ⟨wd, hwd⟩ : ∃ W, W = (w5).drew := ⟨_, rfl⟩
      have HBd : Hid (Below (w5).heap.size (w5) wd) := Lib.hid (by rw [hwd]; exact Below.drewN' (w5) 1)
      have hS0 : (fun W : World => Below w5.heap.size w5 W) wd := by rw [hwd]; exact (Below.drewN' w5 1)
      rw [← hwd]
      obtain ⟨o, hrun, hmp⟩ := (H5.out.2.2.1.of_block (hS0.block mb H5.out.2.2.1.lt)).put HW.out.srt ⟨k, i, d⟩ HR.out HNW.out
      unfold tmV at hrun
      clear hwd
      refine' wpAnyK_take (i := 0) (oi := { dst := some 34, op := Op.move (Operand.tmp 0), type := 30, pos := "timer.go:59", after := #[], guard := none }) (v := ?v22001) rfl (by kernel_rfl) (by kernel_rfl) (by kernel_rfl) [] (by kernel_rfl) (by decide) (by kernel_rfl) (by kernel_rfl) (fun _ _ _ h => h) hS0 (.inl ⟨by first | rfl | simp [Region.wanted, yielded], ?hy22001⟩) ?rest22001
      case hy22001 => (intro W hW; obtain ⟨⟨f1, f2, f3⟩, ⟨f4, f5, f6⟩, f7, f8⟩ := HCQ.out _ hW; go_simp; try with_reducible rfl)
      simp only [Act.put, List.setIfInBounds_toArray, List.set_cons_zero, List.set_cons_succ]
      refine' wpAnyK_take (i := 1) (oi := { dst := some 35, op := Op.nilCheck (Operand.tmp 34), type := 0, pos := "timer.go:59", after := #[{ on := 0, ground := Ground.data }], guard := none }) (v := ?v22002) rfl (by kernel_rfl) (by kernel_rfl) (by kernel_rfl) [] (by kernel_rfl) (by decide) (by kernel_rfl) (by kernel_rfl) (fun _ _ _ h => h) hS0 (.inl ⟨by first | rfl | simp [Region.wanted, yielded], ?hy22002⟩) ?rest22002
      case hy22002 => (intro W hW; obtain ⟨⟨f1, f2, f3⟩, ⟨f4, f5, f6⟩, f7, f8⟩ := HCQ.out _ hW; go_simp; try with_reducible rfl)
      simp only [Act.put, List.setIfInBounds_toArray, List.set_cons_zero, List.set_cons_succ]
      refine' wpAnyK_take (i := 2) (oi := { dst := some 36, op := Op.fieldAddr 56 (Operand.tmp 35) 1, type := 0, pos := "timer.go:59", after := #[{ on := 1, ground := Ground.data }], guard := none }) (v := ?v22003) rfl (by kernel_rfl) (by kernel_rfl) (by kernel_rfl) [] (by kernel_rfl) (by decide) (by kernel_rfl) (by kernel_rfl) (fun _ _ _ h => h) hS0 (.inl ⟨by first | rfl | simp [Region.wanted, yielded], ?hy22003⟩) ?rest22003
      case hy22003 => (intro W hW; obtain ⟨⟨f1, f2, f3⟩, ⟨f4, f5, f6⟩, f7, f8⟩ := HCQ.out _ hW; go_simp; try with_reducible rfl)
      simp only [Act.put, List.setIfInBounds_toArray, List.set_cons_zero, List.set_cons_succ]
      refine' wpAnyK_take (i := 3) (oi := { dst := some 37, op := Op.load 54 (Operand.tmp 36), type := 54, pos := "timer.go:59", after := #[{ on := 2, ground := Ground.data }], guard := none }) (v := ?v22004) rfl (by kernel_rfl) (by kernel_rfl) (by kernel_rfl) [] (by kernel_rfl) (by decide) (by kernel_rfl) (by kernel_rfl) (fun _ _ _ h => h) hS0 (.inl ⟨by first | rfl | simp [Region.wanted, yielded], ?hy22004⟩) ?rest22004
      case hy22004 => (intro W hW; obtain ⟨⟨f1, f2, f3⟩, ⟨f4, f5, f6⟩, f7, f8⟩ := HCQ.out _ hW; go_simp; try with_reducible rfl)
      simp only [Act.put, List.setIfInBounds_toArray, List.set_cons_zero, List.set_cons_succ]
      refine' wpAnyK_take (i := 4) (oi := { dst := some 38, op := Op.fieldAddr 80 (Operand.tmp 5) 0, type := 0, pos := "timer.go:59", after := #[], guard := none }) (v := ?v22005) rfl (by kernel_rfl) (by kernel_rfl) (by kernel_rfl) [] (by kernel_rfl) (by decide) (by kernel_rfl) (by kernel_rfl) (fun _ _ _ h => h) hS0 (.inl ⟨by first | rfl | simp [Region.wanted, yielded], ?hy22005⟩) ?rest22005
      case hy22005 => (intro W hW; obtain ⟨⟨f1, f2, f3⟩, ⟨f4, f5, f6⟩, f7, f8⟩ := HCQ.out _ hW; go_simp; try with_reducible rfl)
      simp only [Act.put, List.setIfInBounds_toArray, List.set_cons_zero, List.set_cons_succ]
      refine' wpAnyK_take (i := 5) (oi := { dst := some 39, op := Op.load 26 (Operand.tmp 38), type := 26, pos := "timer.go:59", after := #[{ on := 4, ground := Ground.data }], guard := none }) (v := ?v22006) rfl (by kernel_rfl) (by kernel_rfl) (by kernel_rfl) [] (by kernel_rfl) (by decide) (by kernel_rfl) (by kernel_rfl) (fun _ _ _ h => h) hS0 (.inl ⟨by first | rfl | simp [Region.wanted, yielded], ?hy22006⟩) ?rest22006
      case hy22006 => (intro W hW; obtain ⟨⟨f1, f2, f3⟩, ⟨f4, f5, f6⟩, f7, f8⟩ := HCQ.out _ hW; go_simp; try with_reducible rfl)
      simp only [Act.put, List.setIfInBounds_toArray, List.set_cons_zero, List.set_cons_succ]
      refine' wpAnyK_take (i := 6) (oi := { dst := some 40, op := Op.fieldAddr 80 (Operand.tmp 5) 1, type := 0, pos := "timer.go:59", after := #[], guard := none }) (v := ?v22007) rfl (by kernel_rfl) (by kernel_rfl) (by kernel_rfl) [] (by kernel_rfl) (by decide) (by kernel_rfl) (by kernel_rfl) (fun _ _ _ h => h) hS0 (.inl ⟨by first | rfl | simp [Region.wanted, yielded], ?hy22007⟩) ?rest22007
      case hy22007 => (intro W hW; obtain ⟨⟨f1, f2, f3⟩, ⟨f4, f5, f6⟩, f7, f8⟩ := HCQ.out _ hW; go_simp; try with_reducible rfl)
      simp only [Act.put, List.setIfInBounds_toArray, List.set_cons_zero, List.set_cons_succ]
      refine' wpAnyK_take (i := 7) (oi := { dst := some 41, op := Op.load 24 (Operand.tmp 40), type := 24, pos := "timer.go:59", after := #[{ on := 6, ground := Ground.data }], guard := none }) (v := ?v22008) rfl (by kernel_rfl) (by kernel_rfl) (by kernel_rfl) [] (by kernel_rfl) (by decide) (by kernel_rfl) (by kernel_rfl) (fun _ _ _ h => h) hS0 (.inl ⟨by first | rfl | simp [Region.wanted, yielded], ?hy22008⟩) ?rest22008
      case hy22008 => (intro W hW; obtain ⟨⟨f1, f2, f3⟩, ⟨f4, f5, f6⟩, f7, f8⟩ := HCQ.out _ hW; go_simp; try with_reducible rfl)
      simp only [Act.put, List.setIfInBounds_toArray, List.set_cons_zero, List.set_cons_succ]
      refine wpAnyK_ready (rs := [8]) (by kernel_rfl) (by simp) ?_
      refine AllReadyK.cons (o := { dst := none, op := Op.mapUpdate 54 (Operand.tmp 37) (Operand.tmp 39) (Operand.tmp 41), type := 0, pos := "timer.go:59", after := #[{ on := 3, ground := Ground.data }, { on := 5, ground := Ground.data }, { on := 7, ground := Ground.data }, { on := 0, ground := Ground.phase }, { on := 1, ground := Ground.phase }, { on := 2, ground := Ground.phase }, { on := 3, ground := Ground.phase }, { on := 4, ground := Ground.phase }, { on := 5, ground := Ground.phase }, { on := 6, ground := Ground.phase }, { on := 7, ground := Ground.phase }], guard := none }) rfl (fun KK hK => ?_) (AllReadyK.nil)
      refine step_mapUpdate_run rfl 54 _ _ _ rfl (.map (some mb)) (.agg #[.int .i64 k, .int .u64 i]) (.int .u64 d) (by simp [Act.eval, Act.put]) (by simp [Act.eval, Act.put]) (by simp [Act.eval, Act.put]) hrun (fun zz => ?_)
      refine hK.out _ _ (fun h => absurd (show true = false from h) (by decide)) ?_
      clear hK KK
      try simp only [Act.put, List.setIfInBounds_toArray, List.set_cons_zero, List.set_cons_succ]
      refine wpAnyK_done (by kernel_rfl) ?_ _
      have HWe : Hid (Below w5.heap.size w5 wd) := Lib.hid hS0
      have HMP := Lib.hid hmp
      clear hS0 hrun hmp
      go_wp2_with fail
      go_roundg 0
      case measure => omega
      case rel =>
        refine .inr ⟨rfl, rfl, ⟨⟨ao9, n9, c9, mb, ⟨?_, HMP.out, ?_, .inl HW.out.kp, .inl HW.out.km, HW.out.srt.ins _ HR.out HNW.out, HW.out.m0, HW.out.m1, ?_⟩⟩, ?_⟩⟩
        · have hne : p ≠ mb := by
            intro e
            have g1 := H5.out.1
            obtain ⟨es, clock, g2, _⟩ := H5.out.2.2.1.ex
            rw [e, g2] at g1
            cases g1
          exact (setBlock_ne hne).trans ((HWe.out.block _ (blk_lt H5.out.1)).trans H5.out.1)
        · have hsz : wd.heap.size = (setBlock wd mb o).heap.size := by unfold setBlock; simp
          have z1 := HWe.out.size
          refine H5.out.2.2.2.1.other (fun q hq => ?_) (fun q cur hq => ?_)
          · rcases hq with h | h
            · exact .inl h
            · exact .inr ⟨h.1, by omega⟩
          · have hne : q ≠ mb := by
              intro e
              obtain ⟨es, clock, g2, _⟩ := H5.out.2.2.1.ex
              rw [e, g2] at hq
              cases hq
            exact (setBlock_ne hne).trans (HWe.out.block _ (blk_lt hq))
        · have := HN.out
          have h9 := HN9.out
          rw [ins_length] at h9
          have := HW.out.rows.len
          omega
        · exact (H5.out.2.2.2.2.trans (Mod.of_below HWe.out K) (fun _ _ h => h)).setBlock _ _ (.inl HW.out.km)
    · have HT := Lib.hid hT
      clear hT v0 v1 v2 lv
      go_wp2
      go_end0
      exact ⟨rfl, HT.out⟩
end
end Go.Proofs.Ytnmbhcekcdicnaa
