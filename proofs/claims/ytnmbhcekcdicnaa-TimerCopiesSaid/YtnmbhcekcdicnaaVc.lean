/-
  Pop.
-/
import Derived.Test.YtnmbhcekcdicnaaVb
namespace Go.Proofs.Ytnmbhcekcdicnaa
open Go.RowKit
set_option linter.unusedVariables false
set_option linter.unusedSimpArgs false

section
variable {K K' : Nat → Prop} {p : Nat} {most : Int} {l : List Rw} {W W' : World}
theorem wo_first {r : Rw} {t : List Rw} (h : Srt (r :: t)) : wo (r :: t) r.k r.i = t := by
  have hu := h.u
  rw [List.pairwise_cons] at hu
  unfold wo
  rw [List.filter_cons]
  have : r.is r.k r.i = true := (Rw.is_iff _ _ _).2 ⟨rfl, rfl⟩
  rw [this]
  simp only [Bool.not_true, if_neg Bool.false_ne_true]
  exact List.filter_eq_self.2 fun x hx => by
    have := hu.1 x hx
    rw [this]
    rfl
/-- Another block, of another kind, may turn. -/
theorem TS.skip {X : Nat} {A : Array Value} {ty : TypeId} (h : TS K p most l W) (hX : W.heap[X]? = some (.cells A ty (0, 0))) (h1 : ty ≠ 56) (h2 : ty ≠ 80) (hb : ∀ q, q < W.heap.size → q ≠ X → W'.heap[q]? = W.heap[q]?) : TS K p most l W' := by
  obtain ⟨ao, n, c, mb, g⟩ := h.ex
  have hp : p ≠ X := by
    intro e
    have := g.blk
    rw [e, hX] at this
    cases this
    exact h1 rfl
  have hm : mb ≠ X := by
    intro e
    obtain ⟨es, clock, q, _⟩ := g.map.ex
    rw [e, hX] at q
    cases q
  exact ⟨ao, n, c, mb, (hb p (blk_lt g.blk) hp).trans g.blk, g.map.of_block (hb mb g.map.lt hm), g.rows.other (fun _ e => e) (fun q cur hq => hb q (blk_lt hq) (fun e => by
    rw [e, hX] at hq
    cases hq
    exact h2 rfl)), g.kp, g.km, g.srt, g.m0, g.m1, g.le⟩
theorem dueOf_first (r : Rw) (t : List Rw) : dueOf (r :: t) r.k r.i = some r.d := by
  unfold dueOf
  rw [List.find?_cons]
  have : r.is r.k r.i = true := (Rw.is_iff _ _ _).2 ⟨rfl, rfl⟩
  rw [this]
  rfl
set_option maxHeartbeats 3200000 in
set_option maxRecDepth 100000 in
theorem TS.pop_empty (h : TS K p most [] W) (now : Int) :
    Calls Try.prog 21 #[.pointer (some ⟨p, 0, none⟩), .int .u64 now] W fun e w' => e = .returned (.tuple #[.agg #[.int .i64 0, .int .u64 0], .int .u64 0, .bool false]) ∧ Below W.heap.size W w' := by
  obtain ⟨u, hu⟩ : ∃ Y, Y = W.alloc (.cells #[.int .i64 0, .int .u64 0] 26) := ⟨_, rfl⟩
  obtain ⟨X, hX⟩ : ∃ Y, Y = W.heap.size := ⟨_, rfl⟩
  have b1 : Below W.heap.size W u := by rw [hu]; exact (Below.refl _ W).alloc (Nat.le_refl _) _
  have kk : u.heap[X]? = some (.cells #[.int .i64 0, .int .u64 0] 26 (0, 0)) := by rw [hu, hX]; exact alloc_blk_new _ _
  have HA0 := (h.below b1).ahead
  unfold rwV at HA0
  rw [show rAt [] 0 = z0 from rfl] at HA0
  simp only [z0, List.length_nil, Nat.lt_irrefl, decide_false] at HA0
  obtain ⟨rk, hrk⟩ : ∃ x : Int, x = 0 := ⟨_, rfl⟩
  obtain ⟨ri, hri⟩ : ∃ x : Int, x = 0 := ⟨_, rfl⟩
  obtain ⟨rd, hrd⟩ : ∃ x : Int, x = 0 := ⟨_, rfl⟩
  have HA := Lib.hid HA0
  have KX := Lib.hid kk
  have EU := Lib.hid hu
  have EX := Lib.hid hX
  have B1 := Lib.hid b1
  have H := Lib.hid h
  clear h hu hX b1 kk HA0
  go_enter Try.func21, Try.ntmps21
  go_wp2_with (go_at_call 39; fail)
  rw [← EU.out, ← EX.out]
  refine HA.out.mono ?_
  rintro e v1 ⟨rfl, hb⟩
  have HB := Lib.hid hb
  clear hb
  go_upto_region 2 with fail
  obtain ⟨u2, hu2⟩ : ∃ Y, Y = v1.alloc (.cells #[.int .i64 0, .int .u64 0, .int .u64 0] 80) := ⟨_, rfl⟩
  obtain ⟨Y, hY⟩ : ∃ Y, Y = v1.heap.size := ⟨_, rfl⟩
  rw [← hu2, ← hY]
  have b2 : Below v1.heap.size v1 u2 := by rw [hu2]; exact (Below.refl _ v1).alloc (Nat.le_refl _) _
  have ky : u2.heap[Y]? = some (.cells #[.int .i64 0, .int .u64 0, .int .u64 0] 80 (0, 0)) := by rw [hu2, hY]; exact alloc_blk_new _ _
  have kx := (b2.block _ (Nat.lt_of_lt_of_le (blk_lt KX.out) HB.out.size)).trans ((HB.out.block _ (blk_lt KX.out)).trans KX.out)
  have KX2 := Lib.hid kx
  have KY := Lib.hid ky
  have EY := Lib.hid hY
  have B2 := Lib.hid (B1.out.trans ((HB.out.trans (b2.mono HB.out.size)).mono B1.out.size))
  have x0 := cell_blk kx 0 _ rfl
  have x1 := cell_blk kx 1 _ rfl
  have lx := blk_lt kx
  have y0 := cell_blk ky 0 _ rfl
  have y1 := cell_blk ky 1 _ rfl
  have y2 := cell_blk ky 2 _ rfl
  have ly := blk_lt ky
  have fx0 := frozen_blk kx 0
  have fx1 := frozen_blk kx 1
  clear hu2 hY b2 ky kx
  go_wp2
  have hk3 := setCell_blk (setCell_blk KX2.out 0 (.int .i64 0)) 1 (.int .u64 0)
  have g0 := cell_blk hk3 0 (.int .i64 0) rfl
  have g1 := cell_blk hk3 1 (.int .u64 0) rfl
  refine bodyPost_ret (v := .tuple #[.agg #[.int .i64 0, .int .u64 0], .int .u64 0, .bool false]) (by simp [results, Try.f21, go_sem, g0, g1]) rfl ⟨rfl, ?_⟩
  have hXW : W.heap.size ≤ X := by rw [EX.out]; exact Nat.le_refl _
  exact (B2.out.setCell (p := ⟨X, 0, none⟩) hXW _).setCell (p := ⟨X, 1, none⟩) hXW _
set_option maxHeartbeats 3200000 in
set_option maxRecDepth 100000 in
theorem TS.pop_early {rk ri rd : Int} {t : List Rw} (h : TS K p most (⟨rk, ri, rd⟩ :: t) W) (now : Int) (hn : now < rd) :
    Calls Try.prog 21 #[.pointer (some ⟨p, 0, none⟩), .int .u64 now] W fun e w' => e = .returned (.tuple #[.agg #[.int .i64 0, .int .u64 0], .int .u64 0, .bool false]) ∧ Below W.heap.size W w' := by
  have d1 : decide (now < rd) = true := by simpa using hn
  obtain ⟨u, hu⟩ : ∃ Y, Y = W.alloc (.cells #[.int .i64 0, .int .u64 0] 26) := ⟨_, rfl⟩
  obtain ⟨X, hX⟩ : ∃ Y, Y = W.heap.size := ⟨_, rfl⟩
  have b1 : Below W.heap.size W u := by rw [hu]; exact (Below.refl _ W).alloc (Nat.le_refl _) _
  have kk : u.heap[X]? = some (.cells #[.int .i64 0, .int .u64 0] 26 (0, 0)) := by rw [hu, hX]; exact alloc_blk_new _ _
  have HA0 := (h.below b1).ahead
  have e0 : rAt (⟨rk, ri, rd⟩ :: t) 0 = ⟨rk, ri, rd⟩ := rfl
  rw [e0] at HA0
  have e1 : decide (0 < ((⟨rk, ri, rd⟩ : Rw) :: t).length) = true := by simp
  rw [e1] at HA0
  unfold rwV at HA0
  clear e0 e1
  have HA := Lib.hid HA0
  have KX := Lib.hid kk
  have EU := Lib.hid hu
  have EX := Lib.hid hX
  have B1 := Lib.hid b1
  have H := Lib.hid h
  clear h hu hX b1 kk HA0 hn
  go_enter Try.func21, Try.ntmps21
  go_wp2_with (go_at_call 39; fail)
  rw [← EU.out, ← EX.out]
  refine HA.out.mono ?_
  rintro e v1 ⟨rfl, hb⟩
  have HB := Lib.hid hb
  clear hb
  go_upto_region 2 with fail
  obtain ⟨u2, hu2⟩ : ∃ Y, Y = v1.alloc (.cells #[.int .i64 rk, .int .u64 ri, .int .u64 rd] 80) := ⟨_, rfl⟩
  obtain ⟨Y, hY⟩ : ∃ Y, Y = v1.heap.size := ⟨_, rfl⟩
  rw [← hu2, ← hY]
  have b2 : Below v1.heap.size v1 u2 := by rw [hu2]; exact (Below.refl _ v1).alloc (Nat.le_refl _) _
  have ky : u2.heap[Y]? = some (.cells #[.int .i64 rk, .int .u64 ri, .int .u64 rd] 80 (0, 0)) := by rw [hu2, hY]; exact alloc_blk_new _ _
  have kx := (b2.block _ (Nat.lt_of_lt_of_le (blk_lt KX.out) HB.out.size)).trans ((HB.out.block _ (blk_lt KX.out)).trans KX.out)
  have KX2 := Lib.hid kx
  have KY := Lib.hid ky
  have EY := Lib.hid hY
  have B2 := Lib.hid (B1.out.trans ((HB.out.trans (b2.mono HB.out.size)).mono B1.out.size))
  have x0 := cell_blk kx 0 _ rfl
  have x1 := cell_blk kx 1 _ rfl
  have lx := blk_lt kx
  have y0 := cell_blk ky 0 _ rfl
  have y1 := cell_blk ky 1 _ rfl
  have y2 := cell_blk ky 2 _ rfl
  have ly := blk_lt ky
  have fx0 := frozen_blk kx 0
  have fx1 := frozen_blk kx 1
  clear hu2 hY b2 ky kx
  go_wp2
  have hk3 := setCell_blk (setCell_blk KX2.out 0 (.int .i64 0)) 1 (.int .u64 0)
  have g0 := cell_blk hk3 0 (.int .i64 0) rfl
  have g1 := cell_blk hk3 1 (.int .u64 0) rfl
  refine bodyPost_ret (v := .tuple #[.agg #[.int .i64 0, .int .u64 0], .int .u64 0, .bool false]) (by simp [results, Try.f21, go_sem, g0, g1]) rfl ⟨rfl, ?_⟩
  have hXW : W.heap.size ≤ X := by rw [EX.out]; exact Nat.le_refl _
  exact (B2.out.setCell (p := ⟨X, 0, none⟩) hXW _).setCell (p := ⟨X, 1, none⟩) hXW _
set_option maxHeartbeats 3200000 in
set_option maxRecDepth 100000 in
theorem TS.pop_yes {rk ri rd : Int} {t : List Rw} (h : TS K p most (⟨rk, ri, rd⟩ :: t) W) (now : Int) (hn : rd ≤ now) :
    Calls Try.prog 21 #[.pointer (some ⟨p, 0, none⟩), .int .u64 now] W fun e w' => e = .returned (.tuple #[tmV rk ri, .int .u64 rd, .bool true]) ∧ Turned K p most t W w' := by
  have d1 : decide (now < rd) = false := by simp; omega
  unfold tmV
  obtain ⟨u, hu⟩ : ∃ Y, Y = W.alloc (.cells #[.int .i64 0, .int .u64 0] 26) := ⟨_, rfl⟩
  obtain ⟨X, hX⟩ : ∃ Y, Y = W.heap.size := ⟨_, rfl⟩
  have b1 : Below W.heap.size W u := by rw [hu]; exact (Below.refl _ W).alloc (Nat.le_refl _) _
  have kk : u.heap[X]? = some (.cells #[.int .i64 0, .int .u64 0] 26 (0, 0)) := by rw [hu, hX]; exact alloc_blk_new _ _
  have HA0 := (h.below b1).ahead
  have e0 : rAt (⟨rk, ri, rd⟩ :: t) 0 = ⟨rk, ri, rd⟩ := rfl
  rw [e0] at HA0
  have e1 : decide (0 < ((⟨rk, ri, rd⟩ : Rw) :: t).length) = true := by simp
  rw [e1] at HA0
  unfold rwV at HA0
  clear e0 e1
  have HA := Lib.hid HA0
  have KX := Lib.hid kk
  have EU := Lib.hid hu
  have EX := Lib.hid hX
  have B1 := Lib.hid b1
  have H := Lib.hid h
  clear h hu hX b1 kk HA0 hn
  go_enter Try.func21, Try.ntmps21
  go_wp2_with (go_at_call 39; fail)
  rw [← EU.out, ← EX.out]
  refine HA.out.mono ?_
  rintro e v1 ⟨rfl, hb⟩
  have HB := Lib.hid hb
  clear hb
  go_upto_region 2 with fail
  obtain ⟨u2, hu2⟩ : ∃ Y, Y = v1.alloc (.cells #[.int .i64 rk, .int .u64 ri, .int .u64 rd] 80) := ⟨_, rfl⟩
  obtain ⟨Y, hY⟩ : ∃ Y, Y = v1.heap.size := ⟨_, rfl⟩
  rw [← hu2, ← hY]
  have b2 : Below v1.heap.size v1 u2 := by rw [hu2]; exact (Below.refl _ v1).alloc (Nat.le_refl _) _
  have ky : u2.heap[Y]? = some (.cells #[.int .i64 rk, .int .u64 ri, .int .u64 rd] 80 (0, 0)) := by rw [hu2, hY]; exact alloc_blk_new _ _
  have kx := (b2.block _ (Nat.lt_of_lt_of_le (blk_lt KX.out) HB.out.size)).trans ((HB.out.block _ (blk_lt KX.out)).trans KX.out)
  have KX2 := Lib.hid kx
  have KY := Lib.hid ky
  have EY := Lib.hid hY
  have B2 := Lib.hid (B1.out.trans ((HB.out.trans (b2.mono HB.out.size)).mono B1.out.size))
  have x0 := cell_blk kx 0 _ rfl
  have x1 := cell_blk kx 1 _ rfl
  have lx := blk_lt kx
  have y0 := cell_blk ky 0 _ rfl
  have y1 := cell_blk ky 1 _ rfl
  have y2 := cell_blk ky 2 _ rfl
  have ly := blk_lt ky
  have fx0 := frozen_blk kx 0
  have fx1 := frozen_blk kx 1
  clear hu2 hY b2 ky kx
  go_wp2_with (go_at_call 19; fail)
  have hok := H.out.srt.ok _ (List.mem_cons_self ..)
  have hst := (H.out.old.below B2.out).stop (k := rk) (i := ri) hok.k0 hok.k1 hok.i0 hok.i1
  have hd0 := dueOf_first ⟨rk, ri, rd⟩ t
  have hw0 := wo_first H.out.srt
  simp only at hd0 hw0
  rw [hd0, hw0] at hst
  unfold tmV at hst
  refine hst.mono ?_
  rintro e w3 ⟨rfl, hT⟩
  have hXn : ¬ ((⟨rk, ri, rd⟩ : Rw).k = 0 ∧ False) := fun e => e.2
  have kx3 := (hT.mod.block X (blk_lt KX2.out) (fun e => by have := EX.out; have := e.2; omega)).trans KX2.out
  have ky3 := (hT.mod.block Y (blk_lt KY.out) (fun e => by have := EY.out; have := HB.out.size; have := B1.out.size; have := e.2; omega)).trans KY.out
  have HT := Lib.hid ((Turned.trans (H.out.old.turned B2.out) (hT.wide fun q e => .inl e)).wide (K' := K) fun q e => e.1)
  have KX3 := Lib.hid kx3
  have KY3 := Lib.hid ky3
  have x0 := cell_blk kx3 0 _ rfl
  have x1 := cell_blk kx3 1 _ rfl
  have lx := blk_lt kx3
  have y0 := cell_blk ky3 0 _ rfl
  have y1 := cell_blk ky3 1 _ rfl
  have y2 := cell_blk ky3 2 _ rfl
  have ly := blk_lt ky3
  have fx0 := frozen_blk kx3 0
  have fx1 := frozen_blk kx3 1
  clear hst hT hXn hok hd0 hw0 kx3 ky3
  go_wp2_with fail
  obtain ⟨wd, hwd⟩ : ∃ W, W = (w3).drew := ⟨_, rfl⟩
  have HBd : Hid (Below (w3).heap.size (w3) wd) := Lib.hid (by rw [hwd]; exact Below.drewN' (w3) 1)
  have hS0 : (fun W : World => W.heap[Y]? = some (.cells #[.int .i64 rk, .int .u64 ri, .int .u64 rd] 80 (0, 0)) ∧ (∃ q0 q1, W.heap[X]? = some (.cells #[q0, q1] 26 (0, 0)))) wd := by rw [hwd]; exact ⟨KY3.out, _, _, KX3.out⟩
  refine wp_region_held_drew (S := fun W => W.heap[Y]? = some (.cells #[.int .i64 rk, .int .u64 ri, .int .u64 rd] 80 (0, 0)) ∧ (∃ q0 q1, W.heap[X]? = some (.cells #[q0, q1] 26 (0, 0)))) (by kernel_rfl) (by rw [← hwd]; exact hS0) (fun hHeld => ?_)
  rw [← hwd] at hHeld ⊢
  clear hwd hS0
  refine' wpAnyH_take (i := 0) (oi := { dst := some 27, op := Op.fieldAddr 80 (Operand.tmp 7) 0, type := 0, pos := "timer.go:124", after := #[], guard := none }) (v := ?v41001) rfl (by kernel_rfl) (by kernel_rfl) (by kernel_rfl) (fun _ _ _ h => h) (.inl ⟨by first | rfl | simp [Region.wanted, yielded], ?hy41001⟩) (by assumption) ?rest41001
  case hy41001 => (intro W hW; have g2 := hW.1; have f4 := cell_blk g2 0 _ rfl; have f5 := cell_blk g2 1 _ rfl; have f6 := cell_blk g2 2 _ rfl; have f8 := blk_lt g2; go_simp; try with_reducible rfl)
  simp only [Act.put, List.setIfInBounds_toArray, List.set_cons_zero, List.set_cons_succ]
  refine' wpAnyH_take (i := 1) (oi := { dst := some 28, op := Op.load 26 (Operand.tmp 27), type := 26, pos := "timer.go:124", after := #[{ on := 0, ground := Ground.data }], guard := none }) (v := ?v41002) rfl (by kernel_rfl) (by kernel_rfl) (by kernel_rfl) (fun _ _ _ h => h) (.inl ⟨by first | rfl | simp [Region.wanted, yielded], ?hy41002⟩) (by assumption) ?rest41002
  case hy41002 => (intro W hW; have g2 := hW.1; have f4 := cell_blk g2 0 _ rfl; have f5 := cell_blk g2 1 _ rfl; have f6 := cell_blk g2 2 _ rfl; have f8 := blk_lt g2; go_simp; try with_reducible rfl)
  simp only [Act.put, List.setIfInBounds_toArray, List.set_cons_zero, List.set_cons_succ]
  refine' wpAnyH_take (i := 2) (oi := { dst := some 29, op := Op.fieldAddr 80 (Operand.tmp 7) 1, type := 0, pos := "timer.go:124", after := #[{ on := 4, ground := Ground.gcOnly Departure.lateStores }], guard := none }) (v := ?v41003) rfl (by kernel_rfl) (by kernel_rfl) (by kernel_rfl) (fun _ _ _ h => h) (.inl ⟨by first | rfl | simp [Region.wanted, yielded], ?hy41003⟩) (by assumption) ?rest41003
  case hy41003 => (intro W hW; have g2 := hW.1; have f4 := cell_blk g2 0 _ rfl; have f5 := cell_blk g2 1 _ rfl; have f6 := cell_blk g2 2 _ rfl; have f8 := blk_lt g2; go_simp; try with_reducible rfl)
  simp only [Act.put, List.setIfInBounds_toArray, List.set_cons_zero, List.set_cons_succ]
  refine' wpAnyH_take (i := 3) (oi := { dst := some 30, op := Op.load 24 (Operand.tmp 29), type := 24, pos := "timer.go:124", after := #[{ on := 2, ground := Ground.data }, { on := 4, ground := Ground.gcOnly Departure.lateStores }], guard := none }) (v := ?v41004) rfl (by kernel_rfl) (by kernel_rfl) (by kernel_rfl) (fun _ _ _ h => h) (.inl ⟨by first | rfl | simp [Region.wanted, yielded], ?hy41004⟩) (by assumption) ?rest41004
  case hy41004 => (intro W hW; have g2 := hW.1; have f4 := cell_blk g2 0 _ rfl; have f5 := cell_blk g2 1 _ rfl; have f6 := cell_blk g2 2 _ rfl; have f8 := blk_lt g2; go_simp; try with_reducible rfl)
  simp only [Act.put, List.setIfInBounds_toArray, List.set_cons_zero, List.set_cons_succ]
  refine wpAnyH_ready (rs := [4]) (by kernel_rfl) (by simp) ?_
  refine AllReadyH.cons (o := { dst := none, op := Op.store 26 (Operand.tmp 4) (Operand.tmp 28), type := 0, pos := "timer.go:124", after := #[{ on := 1, ground := Ground.data }, { on := 0, ground := Ground.phase }, { on := 1, ground := Ground.phase }, { on := 2, ground := Ground.textOnly Departure.lateStores }, { on := 3, ground := Ground.textOnly Departure.lateStores }], guard := none }) rfl (fun KK hK => ?_) (AllReadyH.nil)
  try simp only [List.getElem_toArray, List.getElem_cons_succ, List.getElem_cons_zero]
  obtain ⟨hY9, q0, q1, hq⟩ := hHeld
  have e0 := cell_blk hq 0 _ rfl
  have e1 := cell_blk hq 1 _ rfl
  have e2 := blk_lt hq
  have e3 := frozen_blk hq 0
  have e4 := frozen_blk hq 1
  go_simp
  obtain ⟨w6, hw6⟩ : ∃ Z, Z = (wd.setCell ⟨X, 0, none⟩ (.int .i64 rk)).setCell ⟨X, 1, none⟩ (.int .u64 ri) := ⟨_, rfl⟩
  rw [← hw6]
  have hXY : Y ≠ X := by
    intro e
    have g1 := KY.out
    rw [e, KX2.out] at g1
    cases g1
  have hX6 : w6.heap[X]? = some (.cells #[.int .i64 rk, .int .u64 ri] 26 (0, 0)) := by rw [hw6]; exact setCell_blk (setCell_blk hq 0 _) 1 _
  have hY6 : w6.heap[Y]? = some (.cells #[.int .i64 rk, .int .u64 ri, .int .u64 rd] 80 (0, 0)) := by rw [hw6]; exact (setCell_blk_ne hXY _).trans ((setCell_blk_ne hXY _).trans hY9)
  have hHeld2 : (fun W : World => W.heap[Y]? = some (.cells #[.int .i64 rk, .int .u64 ri, .int .u64 rd] 80 (0, 0)) ∧ (∃ q0 q1, W.heap[X]? = some (.cells #[q0, q1] 26 (0, 0)))) w6 := ⟨hY6, _, _, hX6⟩
  have HX6 := Lib.hid hX6
  have HW6 := Lib.hid hw6
  clear hX6 hY6 hw6 e0 e1 e2 e3 e4 hq hY9 hXY
  refine hK.out _ _ (by assumption) (fun hHeld => ?_)
  clear hK KK
  try simp only [Act.put, List.setIfInBounds_toArray, List.set_cons_zero, List.set_cons_succ]
  refine' wpAnyH_take (i := 5) (oi := { dst := some 5, op := Op.assign (Operand.tmp 30), type := 24, pos := "timer.go:124", after := #[{ on := 3, ground := Ground.data }, { on := 4, ground := Ground.chain }, { on := 0, ground := Ground.phase }, { on := 1, ground := Ground.phase }, { on := 2, ground := Ground.phase }, { on := 3, ground := Ground.phase }, { on := 4, ground := Ground.phase }], guard := none }) (v := ?v41005) rfl (by kernel_rfl) (by kernel_rfl) (by kernel_rfl) (fun _ _ _ h => h) (.inl ⟨by first | rfl | simp [Region.wanted, yielded], ?hy41005⟩) (by assumption) ?rest41005
  case hy41005 => (intro W hW; have g2 := hW.1; have f4 := cell_blk g2 0 _ rfl; have f5 := cell_blk g2 1 _ rfl; have f6 := cell_blk g2 2 _ rfl; have f8 := blk_lt g2; go_simp; try with_reducible rfl)
  simp only [Act.put, List.setIfInBounds_toArray, List.set_cons_zero, List.set_cons_succ]
  refine' wpAnyH_take (i := 6) (oi := { dst := some 6, op := Op.assign (Operand.const (Value.bool true)), type := 4, pos := "timer.go:124", after := #[{ on := 5, ground := Ground.chain }, { on := 0, ground := Ground.phase }, { on := 1, ground := Ground.phase }, { on := 2, ground := Ground.phase }, { on := 3, ground := Ground.phase }, { on := 4, ground := Ground.phase }, { on := 5, ground := Ground.phase }], guard := none }) (v := ?v41006) rfl (by kernel_rfl) (by kernel_rfl) (by kernel_rfl) (fun _ _ _ h => h) (.inl ⟨by first | rfl | simp [Region.wanted, yielded], ?hy41006⟩) (by assumption) ?rest41006
  case hy41006 => (intro W hW; have g2 := hW.1; have f4 := cell_blk g2 0 _ rfl; have f5 := cell_blk g2 1 _ rfl; have f6 := cell_blk g2 2 _ rfl; have f8 := blk_lt g2; go_simp; try with_reducible rfl)
  simp only [Act.put, List.setIfInBounds_toArray, List.set_cons_zero, List.set_cons_succ]
  refine wpAnyH_done (by kernel_rfl) ?_ _
  clear hHeld2
  go_wp2
  have z0 := cell_blk HX6.out 0 _ rfl
  have z1 := cell_blk HX6.out 1 _ rfl
  refine bodyPost_ret (v := .tuple #[.agg #[.int .i64 rk, .int .u64 ri], .int .u64 rd, .bool true]) (by simp [results, Try.f21, go_sem, z0, z1]) rfl ⟨rfl, ?_⟩
  have hk6 : ∀ q, q < w3.heap.size → q ≠ X → w6.heap[q]? = w3.heap[q]? := fun q hq hn => by
    rw [HW6.out]
    exact (setCell_blk_ne hn _).trans ((setCell_blk_ne hn _).trans (HBd.out.block q hq))
  have hs6 : w3.heap.size ≤ w6.heap.size := by rw [HW6.out]; simp [World.setCell]; exact HBd.out.size
  have hXW : W.heap.size ≤ X := by rw [EX.out]; exact Nat.le_refl _
  refine ⟨(HT.out.st.skip KX3.out (by decide) (by decide) hk6).keep (fun b e => e.imp id fun e => ⟨e.1, by omega⟩) (fun _ _ _ => rfl), ?_⟩
  have hm : Mod K W wd := HT.out.mod.trans (Mod.of_below HBd.out K) (fun _ _ e => e)
  rw [HW6.out]
  exact (hm.setCell ⟨X, 0, none⟩ (.inr hXW) _).setCell ⟨X, 1, none⟩ (.inr hXW) _
end
end Go.Proofs.Ytnmbhcekcdicnaa
