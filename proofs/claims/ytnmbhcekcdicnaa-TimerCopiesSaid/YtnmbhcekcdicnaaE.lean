/-
  Rows in memory; where one stands among them (slices.BinarySearchFunc).
-/
import Derived.Test.YtnmbhcekcdicnaaD
import Derived.BigQuiet
namespace Go.Proofs.Ytnmbhcekcdicnaa
open Go.RowKit
set_option linter.unusedVariables false
set_option linter.unusedSimpArgs false

def z0 : Rw := ⟨0, 0, 0⟩
/-- The j-th row. -/
def rAt (l : List Rw) (j : Nat) : Rw := l.getD j z0
theorem rAt_some {l : List Rw} {j : Nat} (h : j < l.length) : l[j]? = some (rAt l j) := by
  unfold rAt
  rw [List.getD_eq_getElem?_getD, List.getElem?_eq_getElem h]
  rfl
/-- Rows that lie ahead of n₀. -/
def RAhead (n₀ : Nat) (w : World) (ao : Option Addr) (n : Nat) (l : List Rw) : Prop :=
  l.length = n ∧ (0 < n → ∃ b off, ao = some ⟨b, off, none⟩ ∧ b < n₀ ∧ ∀ j, j < n → w.cell? ⟨b, off + j * 3, none⟩ = some (.int .i64 (rAt l j).k) ∧ w.cell? ⟨b, off + j * 3 + 1, none⟩ = some (.int .u64 (rAt l j).i) ∧ w.cell? ⟨b, off + j * 3 + 2, none⟩ = some (.int .u64 (rAt l j).d))
theorem RAhead.below {n₀ : Nat} {w w' : World} {ao : Option Addr} {n : Nat} {l : List Rw} (h : RAhead n₀ w ao n l) (hb : Below n₀ w w') : RAhead n₀ w' ao n l :=
  ⟨h.1, fun hp => by
    obtain ⟨b, off, e, hl, hc⟩ := h.2 hp
    exact ⟨b, off, e, hl, fun j hj => ⟨(hb.cell (p := ⟨b, off + j * 3, none⟩) hl).trans (hc j hj).1, (hb.cell (p := ⟨b, off + j * 3 + 1, none⟩) hl).trans (hc j hj).2.1, (hb.cell (p := ⟨b, off + j * 3 + 2, none⟩) hl).trans (hc j hj).2.2⟩⟩⟩
/-- Does it stand there? -/
def foundR (l : List Rw) (r : Rw) : Bool := decide (l[posR l r]? = some r)

set_option maxHeartbeats 3200000 in
set_option maxRecDepth 100000 in
theorem search37 (ao : Option Addr) (n c : Nat) (l : List Rw) (r : Rw) (w : World) (h : RAhead w.heap.size w ao n l) (hs : l.Pairwise fun a b => lt a b = true) (hn : n ≤ 100000) :
    Calls Try.prog 37 #[.slice ao n c, rwV r, .func (.func 38) #[] #[]] w fun e w' => e = .returned (.tuple #[.int .i64 (posR l r), .bool (foundR l r)]) ∧ Below w.heap.size w w' := by
  have HOrd := Lib.hid order38
  obtain ⟨P, hP⟩ : ∃ P, P = posR l r := ⟨_, rfl⟩
  obtain ⟨F, hF⟩ : ∃ F, F = foundR l r := ⟨_, rfl⟩
  rw [← hP, ← hF]
  have hPn : P ≤ n := by rw [hP, ← h.1]; exact posR_le l r
  have HLt : Hid (∀ j, j < n → (lt (rAt l j) r = true ↔ j < P)) := Lib.hid fun j hj => by
    rw [hP]; exact posR_lt hs r j _ (rAt_some (by rw [h.1]; exact hj))
  have HF : Hid (P < n → (F = true ↔ rAt l P = r)) := Lib.hid fun hp => by
    rw [hF]; unfold foundR; rw [← hP, rAt_some (by rw [h.1]; exact hp), decide_eq_true_iff]; simp
  have HF2 : Hid (P = n → F = false) := Lib.hid fun hp => by
    rw [hF]; unfold foundR; rw [← hP, hp, ← h.1]; simp
  have HR := Lib.hid h
  obtain ⟨rk, hrk⟩ : ∃ x, x = r.k := ⟨_, rfl⟩
  obtain ⟨ri, hri⟩ : ∃ x, x = r.i := ⟨_, rfl⟩
  obtain ⟨rd, hrd⟩ : ∃ x, x = r.d := ⟨_, rfl⟩
  have eR : rwV r = .agg #[.int .i64 rk, .int .u64 ri, .int .u64 rd] := by rw [hrk, hri, hrd]; rfl
  have HE := Lib.hid eR
  have HRr : Hid (r = ⟨rk, ri, rd⟩) := Lib.hid (by rw [hrk, hri, hrd])
  rw [eR]
  obtain ⟨u, hu⟩ : ∃ W, W = w.alloc (.cells #[.int .i64 rk, .int .u64 ri, .int .u64 rd] 80) := ⟨_, rfl⟩
  obtain ⟨X, hX⟩ : ∃ X, X = w.heap.size := ⟨_, rfl⟩
  have v1 : Below w.heap.size w u := by rw [hu]; exact (Below.refl _ w).alloc (Nat.le_refl _) _
  have kk : u.heap[X]? = some (.cells #[.int .i64 rk, .int .u64 ri, .int .u64 rd] 80 (0, 0)) := by rw [hu, hX]; exact alloc_blk_new _ _
  have EU := Lib.hid hu
  have EX := Lib.hid hX
  have B1 := Lib.hid v1
  have KK := Lib.hid kk
  clear hP hF hs h hrk hri hrd eR hu hX v1 kk
  go_enter Try.func37, Try.ntmps37
  go_upto_region 2 with fail
  rw [← EU.out]
  try rw [← EX.out]
  go_wp2_with fail
  go_loopg [9, 10] n (fun gk v9 v10 wr => ∃ i j : Nat, v9 = .int .i64 i ∧ v10 = .int .i64 j ∧ i ≤ P ∧ P ≤ j ∧ j ≤ n ∧ gk = j - i ∧ Below u.heap.size u wr)
  case atStart => exact ⟨0, n, rfl, rfl, by omega, hPn, by omega, rfl, Below.refl _ _⟩
  case round =>
    obtain ⟨i, j, rfl, rfl, hi, hj, hjn, hgk, hb⟩ := hrel
    have HG := Lib.hid hgk
    have HB := Lib.hid hb
    clear hgk hb
    by_cases hlt : i < j
    · have d1 : decide ((i : Int) < j) = true := by simpa using hlt
      go_upto_region 5 with fail
      obtain ⟨m, hm⟩ : ∃ m : Nat, (m : Int) = ((i : Int) + j) / 2 := ⟨(i + j) / 2, by omega⟩
      rw [← hm]
      have hmi : i ≤ m := by omega
      have hmj : m < j := by omega
      clear hm
      obtain ⟨b, off, rfl, hbl, hcz⟩ := HR.out.2 (by omega)
      obtain ⟨y0, y1, y2⟩ := hcz m (by omega)
      obtain ⟨xk, hxk⟩ : ∃ x, x = (rAt l m).k := ⟨_, rfl⟩
      obtain ⟨xi, hxi⟩ : ∃ x, x = (rAt l m).i := ⟨_, rfl⟩
      obtain ⟨xd, hxd⟩ : ∃ x, x = (rAt l m).d := ⟨_, rfl⟩
      have eX : rwV (rAt l m) = .agg #[.int .i64 xk, .int .u64 xi, .int .u64 xd] := by rw [hxk, hxi, hxd]; rfl
      rw [← hxk] at y0
      rw [← hxi] at y1
      rw [← hxd] at y2
      obtain ⟨o, ho⟩ : ∃ o, o = ordR (rAt l m) r := ⟨_, rfl⟩
      have HO : Hid (∀ W, Calls Try.prog 38 #[.agg #[.int .i64 xk, .int .u64 xi, .int .u64 xd], .agg #[.int .i64 rk, .int .u64 ri, .int .u64 rd]] W fun e w' => e = .returned (.int .i64 o) ∧ Below W.heap.size W w') := Lib.hid fun W => by
        rw [← eX, ← HE.out, ho]; exact HOrd.out _ _ W
      have HCP : Hid (∀ W, Below u.heap.size u W → (W.cell? ⟨b, off + m * 3, none⟩ = some (.int .i64 xk) ∧ W.cell? ⟨b, off + m * 3 + 1, none⟩ = some (.int .u64 xi) ∧ W.cell? ⟨b, off + m * 3 + 2, none⟩ = some (.int .u64 xd)) ∧ (W.cell? ⟨X, 0, none⟩ = some (.int .i64 rk) ∧ W.cell? ⟨X, 1, none⟩ = some (.int .u64 ri) ∧ W.cell? ⟨X, 2, none⟩ = some (.int .u64 rd)) ∧ b < W.heap.size ∧ X < W.heap.size) := Lib.hid fun W hW => by
        have hw := B1.out.trans (hW.mono B1.out.size)
        have q := (hW.block _ (blk_lt KK.out)).trans KK.out
        have hz := hw.size
        exact ⟨⟨(hw.cell (p := ⟨b, off + m * 3, none⟩) hbl).trans y0, (hw.cell (p := ⟨b, off + m * 3 + 1, none⟩) hbl).trans y1, (hw.cell (p := ⟨b, off + m * 3 + 2, none⟩) hbl).trans y2⟩, ⟨cell_blk q 0 _ rfl, cell_blk q 1 _ rfl, cell_blk q 2 _ rfl⟩, by omega, blk_lt q⟩
      have HOL : Hid (o < 0 ↔ m < P) := Lib.hid (by rw [← HLt.out m (by omega), ho]; unfold lt; rw [decide_eq_true_iff])
      clear hcz y0 y1 y2 hxk hxi hxd eX ho
      have hmn : (m : Int) < n := by omega
      by_cases hmP : m < P
      · have d2 : decide (o < 0) = true := by rw [decide_eq_true_iff]; exact HOL.out.2 hmP
        refine wp_region_held_drew (S := fun W => Below u.heap.size u W) (by kernel_rfl) (HB.out.trans ((Below.drewN' wr 1).mono HB.out.size)) (fun hHeld => ?_)
        generalize wr.drew = wd at hHeld ⊢
        refine' wpAnyH_take (i := 0) (oi := { dst := some 24, op := Op.move (Operand.tmp 2), type := 87, pos := "sort.go:160", after := #[], guard := none }) (v := ?v401001) rfl (by kernel_rfl) (by kernel_rfl) (by kernel_rfl) (fun _ _ _ h => h) (.inl ⟨by first | rfl | simp [Region.wanted, yielded], ?hy401001⟩) (by assumption) ?rest401001
        case hy401001 => (intro W hW; obtain ⟨⟨f1, f2, f3⟩, ⟨f4, f5, f6⟩, f7, f8⟩ := HCP.out _ hW; go_simp; try with_reducible rfl)
        simp only [Act.put, List.setIfInBounds_toArray, List.set_cons_zero, List.set_cons_succ]
        refine' wpAnyH_take (i := 1) (oi := { dst := some 25, op := Op.move (Operand.tmp 0), type := 53, pos := "sort.go:160", after := #[], guard := none }) (v := ?v401002) rfl (by kernel_rfl) (by kernel_rfl) (by kernel_rfl) (fun _ _ _ h => h) (.inl ⟨by first | rfl | simp [Region.wanted, yielded], ?hy401002⟩) (by assumption) ?rest401002
        case hy401002 => (intro W hW; obtain ⟨⟨f1, f2, f3⟩, ⟨f4, f5, f6⟩, f7, f8⟩ := HCP.out _ hW; go_simp; try with_reducible rfl)
        simp only [Act.put, List.setIfInBounds_toArray, List.set_cons_zero, List.set_cons_succ]
        refine' wpAnyH_take (i := 2) (oi := { dst := some 26, op := Op.move (Operand.tmp 11), type := 3, pos := "sort.go:160", after := #[], guard := none }) (v := ?v401003) rfl (by kernel_rfl) (by kernel_rfl) (by kernel_rfl) (fun _ _ _ h => h) (.inl ⟨by first | rfl | simp [Region.wanted, yielded], ?hy401003⟩) (by assumption) ?rest401003
        case hy401003 => (intro W hW; obtain ⟨⟨f1, f2, f3⟩, ⟨f4, f5, f6⟩, f7, f8⟩ := HCP.out _ hW; go_simp; try with_reducible rfl)
        simp only [Act.put, List.setIfInBounds_toArray, List.set_cons_zero, List.set_cons_succ]
        refine' wpAnyH_take (i := 3) (oi := { dst := some 27, op := Op.indexAddr 53 (Operand.tmp 25) (Operand.tmp 26), type := 0, pos := "sort.go:160", after := #[{ on := 1, ground := Ground.data }, { on := 2, ground := Ground.data }], guard := none }) (v := ?v401004) rfl (by kernel_rfl) (by kernel_rfl) (by kernel_rfl) (fun _ _ _ h => h) (.inl ⟨by first | rfl | simp [Region.wanted, yielded], ?hy401004⟩) (by assumption) ?rest401004
        case hy401004 => (intro W hW; obtain ⟨⟨f1, f2, f3⟩, ⟨f4, f5, f6⟩, f7, f8⟩ := HCP.out _ hW; go_simp; try with_reducible rfl)
        simp only [Act.put, List.setIfInBounds_toArray, List.set_cons_zero, List.set_cons_succ]
        refine' wpAnyH_take (i := 4) (oi := { dst := some 28, op := Op.load 80 (Operand.tmp 27), type := 80, pos := "sort.go:160", after := #[{ on := 3, ground := Ground.data }], guard := none }) (v := ?v401005) rfl (by kernel_rfl) (by kernel_rfl) (by kernel_rfl) (fun _ _ _ h => h) (.inl ⟨by first | rfl | simp [Region.wanted, yielded], ?hy401005⟩) (by assumption) ?rest401005
        case hy401005 => (intro W hW; obtain ⟨⟨f1, f2, f3⟩, ⟨f4, f5, f6⟩, f7, f8⟩ := HCP.out _ hW; go_simp; try with_reducible rfl)
        simp only [Act.put, List.setIfInBounds_toArray, List.set_cons_zero, List.set_cons_succ]
        refine' wpAnyH_take (i := 5) (oi := { dst := some 29, op := Op.load 80 (Operand.tmp 4), type := 80, pos := "sort.go:160", after := #[], guard := none }) (v := ?v401006) rfl (by kernel_rfl) (by kernel_rfl) (by kernel_rfl) (fun _ _ _ h => h) (.inl ⟨by first | rfl | simp [Region.wanted, yielded], ?hy401006⟩) (by assumption) ?rest401006
        case hy401006 => (intro W hW; obtain ⟨⟨f1, f2, f3⟩, ⟨f4, f5, f6⟩, f7, f8⟩ := HCP.out _ hW; go_simp; try with_reducible rfl)
        simp only [Act.put, List.setIfInBounds_toArray, List.set_cons_zero, List.set_cons_succ]
        refine wpAnyH_ready (rs := [6]) (by kernel_rfl) (by simp) ?_
        refine AllReadyH.cons (o := { dst := some 30, op := Op.call { callee := Callee.value (Operand.tmp 24), args := #[Operand.tmp 28, Operand.tmp 29], argTypes := #[80, 80] }, type := 3, pos := "sort.go:160", after := #[{ on := 0, ground := Ground.data }, { on := 4, ground := Ground.data }, { on := 5, ground := Ground.data }], guard := none }) rfl (fun K hK => ?_) (AllReadyH.nil)
        try simp only [List.getElem_toArray, List.getElem_cons_succ, List.getElem_cons_zero]
        go_simp
        refine (HO.out _).mono ?_
        rintro e z ⟨rfl, hz⟩
        have HB1 := hHeld.trans (hz.mono hHeld.size)
        clear hz hHeld
        refine hK.out _ _ HB1 (fun hHeld => ?_)
        clear hK K
        try simp only [Act.put, List.setIfInBounds_toArray, List.set_cons_zero, List.set_cons_succ]
        refine' wpAnyH_take (i := 7) (oi := { dst := some 31, op := Op.binOp BinOp.lss 3 (Operand.tmp 30) (Operand.const (Value.int IntKind.i64 0)) 3, type := 4, pos := "sort.go:160", after := #[{ on := 6, ground := Ground.data }], guard := none }) (v := ?v401007) rfl (by kernel_rfl) (by kernel_rfl) (by kernel_rfl) (fun _ _ _ h => h) (.inl ⟨by first | rfl | simp [Region.wanted, yielded], ?hy401007⟩) (by assumption) ?rest401007
        case hy401007 => (intro W hW; obtain ⟨⟨f1, f2, f3⟩, ⟨f4, f5, f6⟩, f7, f8⟩ := HCP.out _ hW; go_simp; try with_reducible rfl)
        simp only [Act.put, List.setIfInBounds_toArray, List.set_cons_zero, List.set_cons_succ]
        refine wpAnyH_done (by kernel_rfl) ?_ _
        have HBe := Lib.hid hHeld
        clear hHeld
        go_wp2_with fail
        go_roundg (j - (m + 1))
        case measure => have := HG.out; omega
        case rel => exact ⟨m + 1, j, by go_num, rfl, by omega, hj, hjn, rfl, HBe.out⟩
      · have d2 : decide (o < 0) = false := by rw [decide_eq_false_iff_not]; exact fun h => hmP (HOL.out.1 h)
        refine wp_region_held_drew (S := fun W => Below u.heap.size u W) (by kernel_rfl) (HB.out.trans ((Below.drewN' wr 1).mono HB.out.size)) (fun hHeld => ?_)
        generalize wr.drew = wd at hHeld ⊢
        refine' wpAnyH_take (i := 0) (oi := { dst := some 24, op := Op.move (Operand.tmp 2), type := 87, pos := "sort.go:160", after := #[], guard := none }) (v := ?v402001) rfl (by kernel_rfl) (by kernel_rfl) (by kernel_rfl) (fun _ _ _ h => h) (.inl ⟨by first | rfl | simp [Region.wanted, yielded], ?hy402001⟩) (by assumption) ?rest402001
        case hy402001 => (intro W hW; obtain ⟨⟨f1, f2, f3⟩, ⟨f4, f5, f6⟩, f7, f8⟩ := HCP.out _ hW; go_simp; try with_reducible rfl)
        simp only [Act.put, List.setIfInBounds_toArray, List.set_cons_zero, List.set_cons_succ]
        refine' wpAnyH_take (i := 1) (oi := { dst := some 25, op := Op.move (Operand.tmp 0), type := 53, pos := "sort.go:160", after := #[], guard := none }) (v := ?v402002) rfl (by kernel_rfl) (by kernel_rfl) (by kernel_rfl) (fun _ _ _ h => h) (.inl ⟨by first | rfl | simp [Region.wanted, yielded], ?hy402002⟩) (by assumption) ?rest402002
        case hy402002 => (intro W hW; obtain ⟨⟨f1, f2, f3⟩, ⟨f4, f5, f6⟩, f7, f8⟩ := HCP.out _ hW; go_simp; try with_reducible rfl)
        simp only [Act.put, List.setIfInBounds_toArray, List.set_cons_zero, List.set_cons_succ]
        refine' wpAnyH_take (i := 2) (oi := { dst := some 26, op := Op.move (Operand.tmp 11), type := 3, pos := "sort.go:160", after := #[], guard := none }) (v := ?v402003) rfl (by kernel_rfl) (by kernel_rfl) (by kernel_rfl) (fun _ _ _ h => h) (.inl ⟨by first | rfl | simp [Region.wanted, yielded], ?hy402003⟩) (by assumption) ?rest402003
        case hy402003 => (intro W hW; obtain ⟨⟨f1, f2, f3⟩, ⟨f4, f5, f6⟩, f7, f8⟩ := HCP.out _ hW; go_simp; try with_reducible rfl)
        simp only [Act.put, List.setIfInBounds_toArray, List.set_cons_zero, List.set_cons_succ]
        refine' wpAnyH_take (i := 3) (oi := { dst := some 27, op := Op.indexAddr 53 (Operand.tmp 25) (Operand.tmp 26), type := 0, pos := "sort.go:160", after := #[{ on := 1, ground := Ground.data }, { on := 2, ground := Ground.data }], guard := none }) (v := ?v402004) rfl (by kernel_rfl) (by kernel_rfl) (by kernel_rfl) (fun _ _ _ h => h) (.inl ⟨by first | rfl | simp [Region.wanted, yielded], ?hy402004⟩) (by assumption) ?rest402004
        case hy402004 => (intro W hW; obtain ⟨⟨f1, f2, f3⟩, ⟨f4, f5, f6⟩, f7, f8⟩ := HCP.out _ hW; go_simp; try with_reducible rfl)
        simp only [Act.put, List.setIfInBounds_toArray, List.set_cons_zero, List.set_cons_succ]
        refine' wpAnyH_take (i := 4) (oi := { dst := some 28, op := Op.load 80 (Operand.tmp 27), type := 80, pos := "sort.go:160", after := #[{ on := 3, ground := Ground.data }], guard := none }) (v := ?v402005) rfl (by kernel_rfl) (by kernel_rfl) (by kernel_rfl) (fun _ _ _ h => h) (.inl ⟨by first | rfl | simp [Region.wanted, yielded], ?hy402005⟩) (by assumption) ?rest402005
        case hy402005 => (intro W hW; obtain ⟨⟨f1, f2, f3⟩, ⟨f4, f5, f6⟩, f7, f8⟩ := HCP.out _ hW; go_simp; try with_reducible rfl)
        simp only [Act.put, List.setIfInBounds_toArray, List.set_cons_zero, List.set_cons_succ]
        refine' wpAnyH_take (i := 5) (oi := { dst := some 29, op := Op.load 80 (Operand.tmp 4), type := 80, pos := "sort.go:160", after := #[], guard := none }) (v := ?v402006) rfl (by kernel_rfl) (by kernel_rfl) (by kernel_rfl) (fun _ _ _ h => h) (.inl ⟨by first | rfl | simp [Region.wanted, yielded], ?hy402006⟩) (by assumption) ?rest402006
        case hy402006 => (intro W hW; obtain ⟨⟨f1, f2, f3⟩, ⟨f4, f5, f6⟩, f7, f8⟩ := HCP.out _ hW; go_simp; try with_reducible rfl)
        simp only [Act.put, List.setIfInBounds_toArray, List.set_cons_zero, List.set_cons_succ]
        refine wpAnyH_ready (rs := [6]) (by kernel_rfl) (by simp) ?_
        refine AllReadyH.cons (o := { dst := some 30, op := Op.call { callee := Callee.value (Operand.tmp 24), args := #[Operand.tmp 28, Operand.tmp 29], argTypes := #[80, 80] }, type := 3, pos := "sort.go:160", after := #[{ on := 0, ground := Ground.data }, { on := 4, ground := Ground.data }, { on := 5, ground := Ground.data }], guard := none }) rfl (fun K hK => ?_) (AllReadyH.nil)
        try simp only [List.getElem_toArray, List.getElem_cons_succ, List.getElem_cons_zero]
        go_simp
        refine (HO.out _).mono ?_
        rintro e z ⟨rfl, hz⟩
        have HB1 := hHeld.trans (hz.mono hHeld.size)
        clear hz hHeld
        refine hK.out _ _ HB1 (fun hHeld => ?_)
        clear hK K
        try simp only [Act.put, List.setIfInBounds_toArray, List.set_cons_zero, List.set_cons_succ]
        refine' wpAnyH_take (i := 7) (oi := { dst := some 31, op := Op.binOp BinOp.lss 3 (Operand.tmp 30) (Operand.const (Value.int IntKind.i64 0)) 3, type := 4, pos := "sort.go:160", after := #[{ on := 6, ground := Ground.data }], guard := none }) (v := ?v402007) rfl (by kernel_rfl) (by kernel_rfl) (by kernel_rfl) (fun _ _ _ h => h) (.inl ⟨by first | rfl | simp [Region.wanted, yielded], ?hy402007⟩) (by assumption) ?rest402007
        case hy402007 => (intro W hW; obtain ⟨⟨f1, f2, f3⟩, ⟨f4, f5, f6⟩, f7, f8⟩ := HCP.out _ hW; go_simp; try with_reducible rfl)
        simp only [Act.put, List.setIfInBounds_toArray, List.set_cons_zero, List.set_cons_succ]
        refine wpAnyH_done (by kernel_rfl) ?_ _
        have HBe := Lib.hid hHeld
        clear hHeld
        go_wp2_with fail
        go_roundg (m - i)
        case measure => have := HG.out; omega
        case rel => exact ⟨i, m, rfl, rfl, hi, by omega, by omega, rfl, HBe.out⟩
    · obtain rfl : i = j := by omega
      obtain rfl : i = P := by omega
      have d1 : decide ((i : Int) < i) = false := by simp
      obtain ⟨wq, hwq⟩ : ∃ W, W = wr := ⟨_, rfl⟩
      subst hwq
      go_upto_region 8 with fail
      by_cases hin : i < n
      · have d2 : decide ((i : Int) < n) = true := by simpa using hin
        obtain ⟨b, off, rfl, hbl, hcz⟩ := HR.out.2 (by omega)
        obtain ⟨y0, y1, y2⟩ := hcz i hin
        obtain ⟨xk, hxk⟩ : ∃ x, x = (rAt l i).k := ⟨_, rfl⟩
        obtain ⟨xi, hxi⟩ : ∃ x, x = (rAt l i).i := ⟨_, rfl⟩
        obtain ⟨xd, hxd⟩ : ∃ x, x = (rAt l i).d := ⟨_, rfl⟩
        have eX : rwV (rAt l i) = .agg #[.int .i64 xk, .int .u64 xi, .int .u64 xd] := by rw [hxk, hxi, hxd]; rfl
        rw [← hxk] at y0
        rw [← hxi] at y1
        rw [← hxd] at y2
        obtain ⟨o, ho⟩ : ∃ o, o = ordR (rAt l i) r := ⟨_, rfl⟩
        have HO : Hid (∀ W, Calls Try.prog 38 #[.agg #[.int .i64 xk, .int .u64 xi, .int .u64 xd], .agg #[.int .i64 rk, .int .u64 ri, .int .u64 rd]] W fun e w' => e = .returned (.int .i64 o) ∧ Below W.heap.size W w') := Lib.hid fun W => by
          rw [← eX, ← HE.out, ho]; exact HOrd.out _ _ W
        have HCP : Hid (∀ W, Below u.heap.size u W → (W.cell? ⟨b, off + i * 3, none⟩ = some (.int .i64 xk) ∧ W.cell? ⟨b, off + i * 3 + 1, none⟩ = some (.int .u64 xi) ∧ W.cell? ⟨b, off + i * 3 + 2, none⟩ = some (.int .u64 xd)) ∧ (W.cell? ⟨X, 0, none⟩ = some (.int .i64 rk) ∧ W.cell? ⟨X, 1, none⟩ = some (.int .u64 ri) ∧ W.cell? ⟨X, 2, none⟩ = some (.int .u64 rd)) ∧ b < W.heap.size ∧ X < W.heap.size) := Lib.hid fun W hW => by
          have hw := B1.out.trans (hW.mono B1.out.size)
          have q := (hW.block _ (blk_lt KK.out)).trans KK.out
          have hz := hw.size
          exact ⟨⟨(hw.cell (p := ⟨b, off + i * 3, none⟩) hbl).trans y0, (hw.cell (p := ⟨b, off + i * 3 + 1, none⟩) hbl).trans y1, (hw.cell (p := ⟨b, off + i * 3 + 2, none⟩) hbl).trans y2⟩, ⟨cell_blk q 0 _ rfl, cell_blk q 1 _ rfl, cell_blk q 2 _ rfl⟩, by omega, blk_lt q⟩
        have HOF : Hid ((o == 0) = F) := Lib.hid (by
          rw [Bool.eq_iff_iff, HF.out hin, beq_iff_eq, ho, ordR_zero])
        have d3 : (o == 0) = F := HOF.out
        clear hcz y0 y1 y2 hxk hxi hxd eX ho
        have hmn : (i : Int) < n := by omega
        refine wp_region_held_drew (S := fun W => Below u.heap.size u W) (by kernel_rfl) (HB.out.trans ((Below.drewN' wq 1).mono HB.out.size)) (fun hHeld => ?_)
        generalize wq.drew = wd at hHeld ⊢
        refine' wpAnyH_take (i := 0) (oi := { dst := some 35, op := Op.move (Operand.tmp 9), type := 3, pos := "sort.go:167", after := #[], guard := none }) (v := ?v403001) rfl (by kernel_rfl) (by kernel_rfl) (by kernel_rfl) (fun _ _ _ h => h) (.inl ⟨by first | rfl | simp [Region.wanted, yielded], ?hy403001⟩) (by assumption) ?rest403001
        case hy403001 => (intro W hW; obtain ⟨⟨f1, f2, f3⟩, ⟨f4, f5, f6⟩, f7, f8⟩ := HCP.out _ hW; go_simp; try with_reducible rfl)
        simp only [Act.put, List.setIfInBounds_toArray, List.set_cons_zero, List.set_cons_succ]
        refine' wpAnyH_take (i := 1) (oi := { dst := some 36, op := Op.move (Operand.tmp 9), type := 3, pos := "sort.go:167", after := #[], guard := none }) (v := ?v403002) rfl (by kernel_rfl) (by kernel_rfl) (by kernel_rfl) (fun _ _ _ h => h) (.inl ⟨by first | rfl | simp [Region.wanted, yielded], ?hy403002⟩) (by assumption) ?rest403002
        case hy403002 => (intro W hW; obtain ⟨⟨f1, f2, f3⟩, ⟨f4, f5, f6⟩, f7, f8⟩ := HCP.out _ hW; go_simp; try with_reducible rfl)
        simp only [Act.put, List.setIfInBounds_toArray, List.set_cons_zero, List.set_cons_succ]
        refine' wpAnyH_take (i := 2) (oi := { dst := some 37, op := Op.move (Operand.tmp 8), type := 3, pos := "sort.go:167", after := #[], guard := none }) (v := ?v403003) rfl (by kernel_rfl) (by kernel_rfl) (by kernel_rfl) (fun _ _ _ h => h) (.inl ⟨by first | rfl | simp [Region.wanted, yielded], ?hy403003⟩) (by assumption) ?rest403003
        case hy403003 => (intro W hW; obtain ⟨⟨f1, f2, f3⟩, ⟨f4, f5, f6⟩, f7, f8⟩ := HCP.out _ hW; go_simp; try with_reducible rfl)
        simp only [Act.put, List.setIfInBounds_toArray, List.set_cons_zero, List.set_cons_succ]
        refine' wpAnyH_take (i := 3) (oi := { dst := some 38, op := Op.binOp BinOp.lss 3 (Operand.tmp 36) (Operand.tmp 37) 3, type := 4, pos := "sort.go:167", after := #[{ on := 1, ground := Ground.data }, { on := 2, ground := Ground.data }], guard := none }) (v := ?v403004) rfl (by kernel_rfl) (by kernel_rfl) (by kernel_rfl) (fun _ _ _ h => h) (.inl ⟨by first | rfl | simp [Region.wanted, yielded], ?hy403004⟩) (by assumption) ?rest403004
        case hy403004 => (intro W hW; obtain ⟨⟨f1, f2, f3⟩, ⟨f4, f5, f6⟩, f7, f8⟩ := HCP.out _ hW; go_simp; try with_reducible rfl)
        simp only [Act.put, List.setIfInBounds_toArray, List.set_cons_zero, List.set_cons_succ]
        refine' wpAnyH_take (i := 4) (oi := { dst := some 39, op := Op.move (Operand.tmp 38), type := 4, pos := "sort.go:167", after := #[{ on := 3, ground := Ground.data }], guard := none }) (v := ?v403005) rfl (by kernel_rfl) (by kernel_rfl) (by kernel_rfl) (fun _ _ _ h => h) (.inl ⟨by first | rfl | simp [Region.wanted, yielded], ?hy403005⟩) (by assumption) ?rest403005
        case hy403005 => (intro W hW; obtain ⟨⟨f1, f2, f3⟩, ⟨f4, f5, f6⟩, f7, f8⟩ := HCP.out _ hW; go_simp; try with_reducible rfl)
        simp only [Act.put, List.setIfInBounds_toArray, List.set_cons_zero, List.set_cons_succ]
        refine' wpAnyH_take (i := 5) (oi := { dst := some 40, op := Op.move (Operand.tmp 2), type := 87, pos := "sort.go:167", after := #[{ on := 4, ground := Ground.guard }], guard := some (4, true) }) (v := ?v403006) rfl (by kernel_rfl) (by kernel_rfl) (by kernel_rfl) (fun _ _ _ h => h) (.inl ⟨by first | rfl | simp [Region.wanted, yielded], ?hy403006⟩) (by assumption) ?rest403006
        case hy403006 => (intro W hW; obtain ⟨⟨f1, f2, f3⟩, ⟨f4, f5, f6⟩, f7, f8⟩ := HCP.out _ hW; go_simp; try with_reducible rfl)
        simp only [Act.put, List.setIfInBounds_toArray, List.set_cons_zero, List.set_cons_succ]
        refine' wpAnyH_take (i := 6) (oi := { dst := some 41, op := Op.move (Operand.tmp 0), type := 53, pos := "sort.go:167", after := #[{ on := 4, ground := Ground.guard }], guard := some (4, true) }) (v := ?v403007) rfl (by kernel_rfl) (by kernel_rfl) (by kernel_rfl) (fun _ _ _ h => h) (.inl ⟨by first | rfl | simp [Region.wanted, yielded], ?hy403007⟩) (by assumption) ?rest403007
        case hy403007 => (intro W hW; obtain ⟨⟨f1, f2, f3⟩, ⟨f4, f5, f6⟩, f7, f8⟩ := HCP.out _ hW; go_simp; try with_reducible rfl)
        simp only [Act.put, List.setIfInBounds_toArray, List.set_cons_zero, List.set_cons_succ]
        refine' wpAnyH_take (i := 7) (oi := { dst := some 42, op := Op.move (Operand.tmp 9), type := 3, pos := "sort.go:167", after := #[{ on := 4, ground := Ground.guard }], guard := some (4, true) }) (v := ?v403008) rfl (by kernel_rfl) (by kernel_rfl) (by kernel_rfl) (fun _ _ _ h => h) (.inl ⟨by first | rfl | simp [Region.wanted, yielded], ?hy403008⟩) (by assumption) ?rest403008
        case hy403008 => (intro W hW; obtain ⟨⟨f1, f2, f3⟩, ⟨f4, f5, f6⟩, f7, f8⟩ := HCP.out _ hW; go_simp; try with_reducible rfl)
        simp only [Act.put, List.setIfInBounds_toArray, List.set_cons_zero, List.set_cons_succ]
        refine' wpAnyH_take (i := 8) (oi := { dst := some 43, op := Op.indexAddr 53 (Operand.tmp 41) (Operand.tmp 42), type := 0, pos := "sort.go:167", after := #[{ on := 6, ground := Ground.data }, { on := 7, ground := Ground.data }, { on := 4, ground := Ground.guard }], guard := some (4, true) }) (v := ?v403009) rfl (by kernel_rfl) (by kernel_rfl) (by kernel_rfl) (fun _ _ _ h => h) (.inl ⟨by first | rfl | simp [Region.wanted, yielded], ?hy403009⟩) (by assumption) ?rest403009
        case hy403009 => (intro W hW; obtain ⟨⟨f1, f2, f3⟩, ⟨f4, f5, f6⟩, f7, f8⟩ := HCP.out _ hW; go_simp; try with_reducible rfl)
        simp only [Act.put, List.setIfInBounds_toArray, List.set_cons_zero, List.set_cons_succ]
        refine' wpAnyH_take (i := 9) (oi := { dst := some 44, op := Op.load 80 (Operand.tmp 43), type := 80, pos := "sort.go:167", after := #[{ on := 8, ground := Ground.data }, { on := 4, ground := Ground.guard }], guard := some (4, true) }) (v := ?v403010) rfl (by kernel_rfl) (by kernel_rfl) (by kernel_rfl) (fun _ _ _ h => h) (.inl ⟨by first | rfl | simp [Region.wanted, yielded], ?hy403010⟩) (by assumption) ?rest403010
        case hy403010 => (intro W hW; obtain ⟨⟨f1, f2, f3⟩, ⟨f4, f5, f6⟩, f7, f8⟩ := HCP.out _ hW; go_simp; try with_reducible rfl)
        simp only [Act.put, List.setIfInBounds_toArray, List.set_cons_zero, List.set_cons_succ]
        refine' wpAnyH_take (i := 10) (oi := { dst := some 45, op := Op.load 80 (Operand.tmp 4), type := 80, pos := "sort.go:167", after := #[{ on := 4, ground := Ground.guard }], guard := some (4, true) }) (v := ?v403011) rfl (by kernel_rfl) (by kernel_rfl) (by kernel_rfl) (fun _ _ _ h => h) (.inl ⟨by first | rfl | simp [Region.wanted, yielded], ?hy403011⟩) (by assumption) ?rest403011
        case hy403011 => (intro W hW; obtain ⟨⟨f1, f2, f3⟩, ⟨f4, f5, f6⟩, f7, f8⟩ := HCP.out _ hW; go_simp; try with_reducible rfl)
        simp only [Act.put, List.setIfInBounds_toArray, List.set_cons_zero, List.set_cons_succ]
        refine wpAnyH_ready (rs := [11]) (by kernel_rfl) (by simp) ?_
        refine AllReadyH.cons (o := { dst := some 46, op := Op.call { callee := Callee.value (Operand.tmp 40), args := #[Operand.tmp 44, Operand.tmp 45], argTypes := #[80, 80] }, type := 3, pos := "sort.go:167", after := #[{ on := 5, ground := Ground.data }, { on := 9, ground := Ground.data }, { on := 10, ground := Ground.data }, { on := 4, ground := Ground.chain }, { on := 4, ground := Ground.guard }], guard := some (4, true) }) rfl (fun K hK => ?_) (AllReadyH.nil)
        try simp only [List.getElem_toArray, List.getElem_cons_succ, List.getElem_cons_zero]
        go_simp
        refine (HO.out _).mono ?_
        rintro e z ⟨rfl, hz⟩
        have HB1 := hHeld.trans (hz.mono hHeld.size)
        clear hz hHeld
        refine hK.out _ _ HB1 (fun hHeld => ?_)
        clear hK K
        try simp only [Act.put, List.setIfInBounds_toArray, List.set_cons_zero, List.set_cons_succ]
        refine' wpAnyH_take (i := 12) (oi := { dst := some 47, op := Op.binOp BinOp.eql 3 (Operand.tmp 46) (Operand.const (Value.int IntKind.i64 0)) 3, type := 4, pos := "sort.go:167", after := #[{ on := 11, ground := Ground.data }, { on := 4, ground := Ground.guard }, { on := 14, ground := Ground.gcOnly Departure.lateStores }], guard := some (4, true) }) (v := ?v403012) rfl (by kernel_rfl) (by kernel_rfl) (by kernel_rfl) (fun _ _ _ h => h) (.inl ⟨by first | rfl | simp [Region.wanted, yielded], ?hy403012⟩) (by assumption) ?rest403012
        case hy403012 => (intro W hW; obtain ⟨⟨f1, f2, f3⟩, ⟨f4, f5, f6⟩, f7, f8⟩ := HCP.out _ hW; go_simp; try with_reducible rfl)
        simp only [Act.put, List.setIfInBounds_toArray, List.set_cons_zero, List.set_cons_succ]
        refine' wpAnyH_take (i := 13) (oi := { dst := some 48, op := Op.pick (Operand.tmp 39) (Operand.tmp 47) (Operand.const (Value.bool false)), type := 4, pos := "sort.go:167", after := #[{ on := 4, ground := Ground.data }, { on := 12, ground := Ground.data }, { on := 14, ground := Ground.gcOnly Departure.lateStores }], guard := none }) (v := ?v403013) rfl (by kernel_rfl) (by kernel_rfl) (by kernel_rfl) (fun _ _ _ h => h) (.inl ⟨by first | rfl | simp [Region.wanted, yielded], ?hy403013⟩) (by assumption) ?rest403013
        case hy403013 => (intro W hW; obtain ⟨⟨f1, f2, f3⟩, ⟨f4, f5, f6⟩, f7, f8⟩ := HCP.out _ hW; go_simp; try with_reducible rfl)
        simp only [Act.put, List.setIfInBounds_toArray, List.set_cons_zero, List.set_cons_succ]
        refine' wpAnyH_take (i := 14) (oi := { dst := some 6, op := Op.assign (Operand.tmp 35), type := 3, pos := "sort.go:167", after := #[{ on := 0, ground := Ground.data }, { on := 11, ground := Ground.chain }, { on := 0, ground := Ground.phase }, { on := 1, ground := Ground.textOnly Departure.lateStores }, { on := 2, ground := Ground.textOnly Departure.lateStores }, { on := 3, ground := Ground.textOnly Departure.lateStores }, { on := 4, ground := Ground.textOnly Departure.lateStores }, { on := 5, ground := Ground.textOnly Departure.lateStores }, { on := 6, ground := Ground.textOnly Departure.lateStores }, { on := 7, ground := Ground.textOnly Departure.lateStores }, { on := 8, ground := Ground.textOnly Departure.lateStores }, { on := 9, ground := Ground.textOnly Departure.lateStores }, { on := 10, ground := Ground.textOnly Departure.lateStores }, { on := 11, ground := Ground.textOnly Departure.lateStoresUnsure }, { on := 12, ground := Ground.textOnly Departure.lateStores }, { on := 13, ground := Ground.textOnly Departure.lateStores }], guard := none }) (v := ?v403014) rfl (by kernel_rfl) (by kernel_rfl) (by kernel_rfl) (fun _ _ _ h => h) (.inl ⟨by first | rfl | simp [Region.wanted, yielded], ?hy403014⟩) (by assumption) ?rest403014
        case hy403014 => (intro W hW; obtain ⟨⟨f1, f2, f3⟩, ⟨f4, f5, f6⟩, f7, f8⟩ := HCP.out _ hW; go_simp; try with_reducible rfl)
        simp only [Act.put, List.setIfInBounds_toArray, List.set_cons_zero, List.set_cons_succ]
        refine' wpAnyH_take (i := 15) (oi := { dst := some 7, op := Op.assign (Operand.tmp 48), type := 4, pos := "sort.go:167", after := #[{ on := 13, ground := Ground.data }, { on := 14, ground := Ground.chain }, { on := 0, ground := Ground.phase }, { on := 1, ground := Ground.phase }, { on := 2, ground := Ground.phase }, { on := 3, ground := Ground.phase }, { on := 4, ground := Ground.phase }, { on := 5, ground := Ground.phase }, { on := 6, ground := Ground.phase }, { on := 7, ground := Ground.phase }, { on := 8, ground := Ground.phase }, { on := 9, ground := Ground.phase }, { on := 10, ground := Ground.phase }, { on := 11, ground := Ground.phase }, { on := 12, ground := Ground.phase }, { on := 13, ground := Ground.phase }, { on := 14, ground := Ground.phase }], guard := none }) (v := ?v403015) rfl (by kernel_rfl) (by kernel_rfl) (by kernel_rfl) (fun _ _ _ h => h) (.inl ⟨by first | rfl | simp [Region.wanted, yielded], ?hy403015⟩) (by assumption) ?rest403015
        case hy403015 => (intro W hW; obtain ⟨⟨f1, f2, f3⟩, ⟨f4, f5, f6⟩, f7, f8⟩ := HCP.out _ hW; go_simp; try with_reducible rfl)
        simp only [Act.put, List.setIfInBounds_toArray, List.set_cons_zero, List.set_cons_succ]
        refine wpAnyH_done (by kernel_rfl) ?_ _
        have HBe := Lib.hid hHeld
        clear hHeld
        go_wp2
        go_ret2
        exact ⟨rfl, B1.out.trans (HBe.out.mono B1.out.size)⟩
      · have d2 : decide ((i : Int) < n) = false := by simp; omega
        obtain rfl := HF2.out (by omega)
        have d3 : decide (i < n) = false := by simpa using hin
        go_quiet (fail)
        go_wp2
        go_ret2
        exact ⟨rfl, (B1.out.trans (HB.out.mono B1.out.size)).trans ((Below.drewN' _ _).mono (B1.out.trans (HB.out.mono B1.out.size)).size)⟩
end Go.Proofs.Ytnmbhcekcdicnaa
