/-
  FieldOf, FieldHolds, walked.
-/
import Derived.Test.YtfnojmkiajdoaaaQ
namespace Go.Proofs.Ytfnojmkiajdoaaa
open Go.RowKit
set_option linter.unusedVariables false
set_option linter.unusedSimpArgs false
attribute [local go_sem high] neq25 eql25

theorem right_of (xs : List Int) : rightF (ofF xs) = true := by
  unfold rightF
  rw [of_line]
  simp
theorem Line_of (xs : List Int) (hb : Byt xs) (hl : xs.length ≤ 2000) (w : World) : Calls Try.prog 12 #[fdV (ofF xs)] w fun e w' => e = .returned (.tuple #[.string (strOfNums (lineF (ofF xs))), .int .i64 0]) ∧ Below w.heap.size w w' := by
  have h := Line12 (ofF xs) (Fd.Ok.of hb hl) w
  rw [right_of, if_pos rfl, if_pos rfl] at h
  exact h
theorem Of_line (xs : List Int) (hb : Byt xs) (hl : xs.length ≤ 2000) (w : World) : Calls Try.prog 8 #[.string (strOfNums (lineF (ofF xs)))] w fun e w' => e = .returned (fdV (ofF xs)) ∧ Below w.heap.size w w' := by
  have h := Of8 (lineF (ofF xs)) (lineF_byt (ofF_byt hb).1 (ofF_byt hb).2) (by have := lineF_len (ofF xs); have := ofF_len xs; omega) w
  rw [of_line] at h
  exact h
set_option maxHeartbeats 6400000 in
set_option maxRecDepth 100000 in
theorem of_any (s : ByteArray) (w : World) : Calls Try.prog 3 #[.string s] w fun e w' => e = .returned (.bool true) ∧ Below w.heap.size w w' := by
  have HWk := Lib.hid works_true
  have HNum := Lib.hid num16
  by_cases hbig : 300 < s.size
  · have d1 : decide (300 < s.size) = true := by simpa using hbig
    have d2 : decide ((300 : Int) < s.size) = true := by simp; omega
    clear hbig
    go_enter Try.func3, Try.ntmps3
    go_wp2_with (go_at_call 7; fail)
    refine (HWk.out _).mono ?_
    rintro e w1 ⟨rfl, hb⟩
    have HB := Lib.hid hb
    clear hb
    go_wp2
    go_ret
    exact ⟨rfl, HB.out⟩
  have hs300 : s.size ≤ 300 := by omega
  have d1 : decide (300 < s.size) = false := by simp; omega
  have d2 : decide ((300 : Int) < s.size) = false := by simp; omega
  obtain ⟨xs, hxs⟩ : ∃ xs, xs = nums s := ⟨_, rfl⟩
  have hsx : s = strOfNums xs := by rw [hxs, str_nums]
  have hb : Byt xs := by rw [hxs]; exact nums_byt s
  have hl : xs.length ≤ 300 := by rw [hxs, nums_len]; exact hs300
  have hok : (ofF xs).Ok := Fd.Ok.of hb (by omega)
  obtain ⟨k, hk⟩ : ∃ k, k = (ofF xs).k := ⟨_, rfl⟩
  obtain ⟨N, hN⟩ : ∃ x, x = strOfNums (ofF xs).n := ⟨_, rfl⟩
  obtain ⟨V, hV⟩ : ∃ x, x = strOfNums (ofF xs).v := ⟨_, rfl⟩
  obtain ⟨L, hL⟩ : ∃ x, x = strOfNums (lineF (ofF xs)) := ⟨_, rfl⟩
  have eF : fdV (ofF xs) = .agg #[.int .i64 k, .string N, .string V] := by rw [hN, hV, hk]; rfl
  have q : fdEq k N V k N V = true := by simp [fdEq]
  obtain ⟨c, hc⟩ : ∃ c, c = countsF (ofF xs) := ⟨_, rfl⟩
  obtain ⟨r1, hr1⟩ : ∃ c, c = (retryF (ofF xs)).1 := ⟨_, rfl⟩
  obtain ⟨r2, hr2⟩ : ∃ c, c = (retryF (ofF xs)).2 := ⟨_, rfl⟩
  have HA : Hid (∀ W, Calls Try.prog 8 #[.string s] W fun e w' => e = .returned (.agg #[.int .i64 k, .string N, .string V]) ∧ Below W.heap.size W w') := Lib.hid fun W => by
    rw [← eF, hsx]; exact Of8 xs hb (by omega) W
  have HB : Hid (∀ W, Calls Try.prog 9 #[.string s] W fun e w' => e = .returned (.agg #[.int .i64 k, .string N, .string V]) ∧ Below W.heap.size W w') := Lib.hid fun W => by
    rw [← eF, hsx]; exact refOf9 xs hb (by omega) W
  have HC : Hid (∀ W, Calls Try.prog 10 #[.agg #[.int .i64 k, .string N, .string V]] W fun e w' => e = .returned (.tuple #[.int .u64 r1, .bool r2]) ∧ Below W.heap.size W w') := Lib.hid fun W => by
    rw [← eF, hr1, hr2]; exact Retry10 (ofF xs) hok W
  have HD : Hid (∀ W, Calls Try.prog 11 #[.agg #[.int .i64 k, .string N, .string V]] W fun e w' => e = .returned (.tuple #[.int .u64 r1, .bool r2]) ∧ Below W.heap.size W w') := Lib.hid fun W => by
    rw [← eF, hr1, hr2]; exact refRetry11 (ofF xs) hok W
  have HE : Hid (∀ W, Calls Try.prog 12 #[.agg #[.int .i64 k, .string N, .string V]] W fun e w' => e = .returned (.tuple #[.string L, .int .i64 0]) ∧ Below W.heap.size W w') := Lib.hid fun W => by
    rw [← eF, hL]; exact Line_of xs hb (by omega) W
  have HF : Hid (∀ W, Calls Try.prog 13 #[.agg #[.int .i64 k, .string N, .string V]] W fun e w' => e = .returned (.bool c) ∧ Below W.heap.size W w') := Lib.hid fun W => by
    rw [← eF, hc]; exact Counts13 (ofF xs) hok W
  have HG : Hid (∀ W, Calls Try.prog 14 #[.agg #[.int .i64 k, .string N, .string V]] W fun e w' => e = .returned (.bool c) ∧ Below W.heap.size W w') := Lib.hid fun W => by
    rw [← eF, hc]; exact refCounts14 (ofF xs) hok W
  have HH : Hid (∀ W, Calls Try.prog 15 #[.agg #[.int .i64 k, .string N, .string V]] W fun e w' => e = .returned (.string L) ∧ Below W.heap.size W w') := Lib.hid fun W => by
    rw [← eF, hL]; exact refLine15 (ofF xs) hok W
  have HI : Hid (∀ W, Calls Try.prog 8 #[.string L] W fun e w' => e = .returned (.agg #[.int .i64 k, .string N, .string V]) ∧ Below W.heap.size W w') := Lib.hid fun W => by
    rw [← eF, hL]; exact Of_line xs hb (by omega) W
  clear hxs hsx hb hl hok hk hN hV hL eF hc hr1 hr2
  go_enter Try.func3, Try.ntmps3
  go_wp2_with (go_at_call 8; fail)
  refine (HA.out _).mono ?_
  rintro e y1 ⟨rfl, hb1⟩
  go_wp2_with (go_at_call 9; fail)
  refine (HB.out _).mono ?_
  rintro e y2 ⟨rfl, hb2⟩
  have hb12 := hb1.trans (hb2.mono hb1.size)
  obtain ⟨X, hX⟩ : ∃ X, X = y2.heap.size := ⟨_, rfl⟩
  obtain ⟨u0, hu0⟩ : ∃ W, W = y2.alloc (.cells #[.int .i64 k, .string N, .string V] 25) := ⟨_, rfl⟩
  obtain ⟨u1, hu1⟩ : ∃ W, W = u0.alloc (.cells #[.int .i64 k, .string N, .string V] 25) := ⟨_, rfl⟩
  have s0 : u0.heap.size = X + 1 := by rw [hu0, hX]; simp
  have v0 : Below w.heap.size w u0 := by rw [hu0]; exact hb12.alloc hb12.size _
  have v1 : Below w.heap.size w u1 := by rw [hu1]; exact v0.alloc v0.size _
  have kk0 : u1.heap[X]? = some (.cells #[.int .i64 k, .string N, .string V] 25 (0, 0)) := by rw [hu1]; refine alloc_blk ?_ _; rw [hu0, hX]; exact alloc_blk_new _ _
  have kk1 : u1.heap[X + 1]? = some (.cells #[.int .i64 k, .string N, .string V] 25 (0, 0)) := by rw [hu1, ← s0]; exact alloc_blk_new _ _
  have HCP : Hid (∀ W, Below u1.heap.size u1 W → ((W.cell? ⟨X, 0, none⟩ = some (.int .i64 k) ∧ W.cell? ⟨X, 1, none⟩ = some (.string N) ∧ W.cell? ⟨X, 2, none⟩ = some (.string V)) ∧ (W.cell? ⟨X + 1, 0, none⟩ = some (.int .i64 k) ∧ W.cell? ⟨X + 1, 1, none⟩ = some (.string N) ∧ W.cell? ⟨X + 1, 2, none⟩ = some (.string V))) ∧ X < W.heap.size ∧ X + 1 < W.heap.size) := Lib.hid fun W hW => by
    have q := (hW.block _ (blk_lt kk0)).trans kk0
    have q' := (hW.block _ (blk_lt kk1)).trans kk1
    exact ⟨⟨⟨cell_blk q 0 _ rfl, cell_blk q 1 _ rfl, cell_blk q 2 _ rfl⟩, ⟨cell_blk q' 0 _ rfl, cell_blk q' 1 _ rfl, cell_blk q' 2 _ rfl⟩⟩, blk_lt q, blk_lt q'⟩
  have EX := Lib.hid hX
  have EU0 := Lib.hid hu0
  have EU1 := Lib.hid hu1
  have B1 := Lib.hid v1
  obtain ⟨⟨⟨c0, c1, c2⟩, ⟨e0, e1, e2⟩⟩, lx, ly⟩ := HCP.out u1 (Below.refl _ _)
  clear hX hu0 hu1 s0 v0 v1 kk0 kk1
  clear hb1 hb2 hb12
  go_wp2_with (go_at_call 10; fail)
  rw [← EU0.out, ← EU1.out]
  try rw [← EX.out]
  refine (HC.out _).mono ?_
  rintro e y3 ⟨rfl, hb3⟩
  have HBx := Lib.hid hb3
  clear hb3 c0 c1 c2 e0 e1 e2 lx ly
  obtain ⟨⟨⟨c0, c1, c2⟩, ⟨e0, e1, e2⟩⟩, lx, ly⟩ := HCP.out _ HBx.out
  go_wp2_with (go_at_call 11; fail)
  refine (HD.out _).mono ?_
  rintro e y4 ⟨rfl, hb4⟩
  have HBy := Lib.hid (HBx.out.trans (hb4.mono HBx.out.size))
  clear hb4 c0 c1 c2 e0 e1 e2 lx ly HBx
  obtain ⟨⟨⟨c0, c1, c2⟩, ⟨e0, e1, e2⟩⟩, lx, ly⟩ := HCP.out _ HBy.out
  go_wp2_with (go_at_call 12; fail)
  refine (HE.out _).mono ?_
  rintro e y5 ⟨rfl, hb5⟩
  have HBz := Lib.hid (HBy.out.trans (hb5.mono HBy.out.size))
  clear hb5 c0 c1 c2 e0 e1 e2 lx ly HBy
  go_upto_region 7 with fail
  refine wp_region_held_drew (S := fun W => Below u1.heap.size u1 W) (by kernel_rfl) (HBz.out.trans ((Below.drewN' y5 1).mono HBz.out.size)) (fun hHeld => ?_)
  generalize y5.drew = wd at hHeld ⊢
  refine' wpAnyH_take (i := 0) (oi := { dst := some 34, op := Op.load 25 (Operand.tmp 3), type := 25, pos := "law.go:32", after := #[], guard := none }) (v := ?v201001) rfl (by kernel_rfl) (by kernel_rfl) (by kernel_rfl) (fun _ _ _ h => h) (.inl ⟨by first | rfl | simp [Region.wanted, yielded], ?hy201001⟩) (by assumption) ?rest201001
  case hy201001 => (intro W hW; obtain ⟨⟨⟨f1, f2, f3⟩, ⟨f4, f5, f6⟩⟩, f7, f8⟩ := HCP.out _ hW; go_simp; try with_reducible rfl)
  simp only [Act.put, List.setIfInBounds_toArray, List.set_cons_zero, List.set_cons_succ]
  refine' wpAnyH_take (i := 1) (oi := { dst := some 35, op := Op.load 25 (Operand.tmp 4), type := 25, pos := "law.go:32", after := #[], guard := none }) (v := ?v201002) rfl (by kernel_rfl) (by kernel_rfl) (by kernel_rfl) (fun _ _ _ h => h) (.inl ⟨by first | rfl | simp [Region.wanted, yielded], ?hy201002⟩) (by assumption) ?rest201002
  case hy201002 => (intro W hW; obtain ⟨⟨⟨f1, f2, f3⟩, ⟨f4, f5, f6⟩⟩, f7, f8⟩ := HCP.out _ hW; go_simp; try with_reducible rfl)
  simp only [Act.put, List.setIfInBounds_toArray, List.set_cons_zero, List.set_cons_succ]
  refine' wpAnyH_take (i := 2) (oi := { dst := some 36, op := Op.binOp BinOp.eql 25 (Operand.tmp 34) (Operand.tmp 35) 25, type := 4, pos := "law.go:32", after := #[{ on := 0, ground := Ground.data }, { on := 1, ground := Ground.data }], guard := none }) (v := ?v201003) rfl (by kernel_rfl) (by kernel_rfl) (by kernel_rfl) (fun _ _ _ h => h) (.inl ⟨by first | rfl | simp [Region.wanted, yielded], ?hy201003⟩) (by assumption) ?rest201003
  case hy201003 => (intro W hW; obtain ⟨⟨⟨f1, f2, f3⟩, ⟨f4, f5, f6⟩⟩, f7, f8⟩ := HCP.out _ hW; go_simp; try with_reducible rfl)
  simp only [Act.put, List.setIfInBounds_toArray, List.set_cons_zero, List.set_cons_succ]
  refine' wpAnyH_take (i := 3) (oi := { dst := some 37, op := Op.move (Operand.tmp 36), type := 4, pos := "law.go:32", after := #[{ on := 2, ground := Ground.data }], guard := none }) (v := ?v201004) rfl (by kernel_rfl) (by kernel_rfl) (by kernel_rfl) (fun _ _ _ h => h) (.inl ⟨by first | rfl | simp [Region.wanted, yielded], ?hy201004⟩) (by assumption) ?rest201004
  case hy201004 => (intro W hW; obtain ⟨⟨⟨f1, f2, f3⟩, ⟨f4, f5, f6⟩⟩, f7, f8⟩ := HCP.out _ hW; go_simp; try with_reducible rfl)
  simp only [Act.put, List.setIfInBounds_toArray, List.set_cons_zero, List.set_cons_succ]
  refine' wpAnyH_take (i := 4) (oi := { dst := some 38, op := Op.load 25 (Operand.tmp 4), type := 25, pos := "law.go:32", after := #[{ on := 3, ground := Ground.guard }], guard := some (3, true) }) (v := ?v201005) rfl (by kernel_rfl) (by kernel_rfl) (by kernel_rfl) (fun _ _ _ h => h) (.inl ⟨by first | rfl | simp [Region.wanted, yielded], ?hy201005⟩) (by assumption) ?rest201005
  case hy201005 => (intro W hW; obtain ⟨⟨⟨f1, f2, f3⟩, ⟨f4, f5, f6⟩⟩, f7, f8⟩ := HCP.out _ hW; go_simp; try with_reducible rfl)
  simp only [Act.put, List.setIfInBounds_toArray, List.set_cons_zero, List.set_cons_succ]
  refine' wpAnyH_take (i := 6) (oi := { dst := some 40, op := Op.load 25 (Operand.tmp 4), type := 25, pos := "law.go:32", after := #[{ on := 3, ground := Ground.guard }], guard := some (3, true) }) (v := ?v201006) rfl (by kernel_rfl) (by kernel_rfl) (by kernel_rfl) (fun _ _ _ h => h) (.inl ⟨by first | rfl | simp [Region.wanted, yielded], ?hy201006⟩) (by assumption) ?rest201006
  case hy201006 => (intro W hW; obtain ⟨⟨⟨f1, f2, f3⟩, ⟨f4, f5, f6⟩⟩, f7, f8⟩ := HCP.out _ hW; go_simp; try with_reducible rfl)
  simp only [Act.put, List.setIfInBounds_toArray, List.set_cons_zero, List.set_cons_succ]
  refine wpAnyH_ready (rs := [5]) (by kernel_rfl) (by simp) ?_
  refine AllReadyH.cons (o := { dst := some 39, op := Op.call { callee := Callee.value (Operand.func 13), args := #[Operand.tmp 38], argTypes := #[25] }, type := 4, pos := "law.go:32", after := #[{ on := 4, ground := Ground.data }, { on := 3, ground := Ground.chain }, { on := 3, ground := Ground.guard }], guard := some (3, true) }) rfl (fun K hK => ?_) (AllReadyH.nil)
  try simp only [List.getElem_toArray, List.getElem_cons_succ, List.getElem_cons_zero]
  go_simp
  refine (HF.out _).mono ?_
  rintro e z1 ⟨rfl, hz1⟩
  have HB1 := hHeld.trans (hz1.mono hHeld.size)
  refine hK.out _ _ HB1 (fun hHeld => ?_)
  clear hK K
  try simp only [Act.put, List.setIfInBounds_toArray, List.set_cons_zero, List.set_cons_succ]
  refine wpAnyH_ready (rs := [7]) (by kernel_rfl) (by simp) ?_
  refine AllReadyH.cons (o := { dst := some 41, op := Op.call { callee := Callee.value (Operand.func 14), args := #[Operand.tmp 40], argTypes := #[25] }, type := 4, pos := "law.go:32", after := #[{ on := 6, ground := Ground.data }, { on := 5, ground := Ground.chain }, { on := 3, ground := Ground.guard }], guard := some (3, true) }) rfl (fun K hK => ?_) (AllReadyH.nil)
  try simp only [List.getElem_toArray, List.getElem_cons_succ, List.getElem_cons_zero]
  go_simp
  refine (HG.out _).mono ?_
  rintro e z2 ⟨rfl, hz2⟩
  have HB2 := hHeld.trans (hz2.mono hHeld.size)
  refine hK.out _ _ HB2 (fun hHeld => ?_)
  clear hK K
  try simp only [Act.put, List.setIfInBounds_toArray, List.set_cons_zero, List.set_cons_succ]
  refine' wpAnyH_take (i := 8) (oi := { dst := some 42, op := Op.binOp BinOp.eql 4 (Operand.tmp 39) (Operand.tmp 41) 4, type := 4, pos := "law.go:32", after := #[{ on := 5, ground := Ground.data }, { on := 7, ground := Ground.data }, { on := 3, ground := Ground.guard }], guard := some (3, true) }) (v := ?v201007) rfl (by kernel_rfl) (by kernel_rfl) (by kernel_rfl) (fun _ _ _ h => h) (.inl ⟨by first | rfl | simp [Region.wanted, yielded], ?hy201007⟩) (by assumption) ?rest201007
  case hy201007 => (intro W hW; obtain ⟨⟨⟨f1, f2, f3⟩, ⟨f4, f5, f6⟩⟩, f7, f8⟩ := HCP.out _ hW; go_simp; try with_reducible rfl)
  simp only [Act.put, List.setIfInBounds_toArray, List.set_cons_zero, List.set_cons_succ]
  refine' wpAnyH_take (i := 9) (oi := { dst := some 43, op := Op.pick (Operand.tmp 37) (Operand.tmp 42) (Operand.const (Value.bool false)), type := 4, pos := "law.go:32", after := #[{ on := 3, ground := Ground.data }, { on := 8, ground := Ground.data }], guard := none }) (v := ?v201008) rfl (by kernel_rfl) (by kernel_rfl) (by kernel_rfl) (fun _ _ _ h => h) (.inl ⟨by first | rfl | simp [Region.wanted, yielded], ?hy201008⟩) (by assumption) ?rest201008
  case hy201008 => (intro W hW; obtain ⟨⟨⟨f1, f2, f3⟩, ⟨f4, f5, f6⟩⟩, f7, f8⟩ := HCP.out _ hW; go_simp; try with_reducible rfl)
  simp only [Act.put, List.setIfInBounds_toArray, List.set_cons_zero, List.set_cons_succ]
  refine' wpAnyH_take (i := 10) (oi := { dst := some 44, op := Op.move (Operand.tmp 43), type := 4, pos := "law.go:32", after := #[{ on := 9, ground := Ground.data }, { on := 7, ground := Ground.chain }], guard := none }) (v := ?v201009) rfl (by kernel_rfl) (by kernel_rfl) (by kernel_rfl) (fun _ _ _ h => h) (.inl ⟨by first | rfl | simp [Region.wanted, yielded], ?hy201009⟩) (by assumption) ?rest201009
  case hy201009 => (intro W hW; obtain ⟨⟨⟨f1, f2, f3⟩, ⟨f4, f5, f6⟩⟩, f7, f8⟩ := HCP.out _ hW; go_simp; try with_reducible rfl)
  simp only [Act.put, List.setIfInBounds_toArray, List.set_cons_zero, List.set_cons_succ]
  refine' wpAnyH_take (i := 11) (oi := { dst := some 45, op := Op.move (Operand.tmp 5), type := 27, pos := "law.go:32", after := #[{ on := 10, ground := Ground.guard }], guard := some (10, true) }) (v := ?v201010) rfl (by kernel_rfl) (by kernel_rfl) (by kernel_rfl) (fun _ _ _ h => h) (.inl ⟨by first | rfl | simp [Region.wanted, yielded], ?hy201010⟩) (by assumption) ?rest201010
  case hy201010 => (intro W hW; obtain ⟨⟨⟨f1, f2, f3⟩, ⟨f4, f5, f6⟩⟩, f7, f8⟩ := HCP.out _ hW; go_simp; try with_reducible rfl)
  simp only [Act.put, List.setIfInBounds_toArray, List.set_cons_zero, List.set_cons_succ]
  refine' wpAnyH_take (i := 12) (oi := { dst := some 46, op := Op.move (Operand.tmp 7), type := 27, pos := "law.go:32", after := #[{ on := 10, ground := Ground.guard }], guard := some (10, true) }) (v := ?v201011) rfl (by kernel_rfl) (by kernel_rfl) (by kernel_rfl) (fun _ _ _ h => h) (.inl ⟨by first | rfl | simp [Region.wanted, yielded], ?hy201011⟩) (by assumption) ?rest201011
  case hy201011 => (intro W hW; obtain ⟨⟨⟨f1, f2, f3⟩, ⟨f4, f5, f6⟩⟩, f7, f8⟩ := HCP.out _ hW; go_simp; try with_reducible rfl)
  simp only [Act.put, List.setIfInBounds_toArray, List.set_cons_zero, List.set_cons_succ]
  refine' wpAnyH_take (i := 13) (oi := { dst := some 47, op := Op.binOp BinOp.eql 27 (Operand.tmp 45) (Operand.tmp 46) 27, type := 4, pos := "law.go:32", after := #[{ on := 11, ground := Ground.data }, { on := 12, ground := Ground.data }, { on := 10, ground := Ground.guard }], guard := some (10, true) }) (v := ?v201012) rfl (by kernel_rfl) (by kernel_rfl) (by kernel_rfl) (fun _ _ _ h => h) (.inl ⟨by first | rfl | simp [Region.wanted, yielded], ?hy201012⟩) (by assumption) ?rest201012
  case hy201012 => (intro W hW; obtain ⟨⟨⟨f1, f2, f3⟩, ⟨f4, f5, f6⟩⟩, f7, f8⟩ := HCP.out _ hW; go_simp; try with_reducible rfl)
  simp only [Act.put, List.setIfInBounds_toArray, List.set_cons_zero, List.set_cons_succ]
  refine' wpAnyH_take (i := 14) (oi := { dst := some 48, op := Op.pick (Operand.tmp 44) (Operand.tmp 47) (Operand.const (Value.bool false)), type := 4, pos := "law.go:32", after := #[{ on := 10, ground := Ground.data }, { on := 13, ground := Ground.data }], guard := none }) (v := ?v201013) rfl (by kernel_rfl) (by kernel_rfl) (by kernel_rfl) (fun _ _ _ h => h) (.inl ⟨by first | rfl | simp [Region.wanted, yielded], ?hy201013⟩) (by assumption) ?rest201013
  case hy201013 => (intro W hW; obtain ⟨⟨⟨f1, f2, f3⟩, ⟨f4, f5, f6⟩⟩, f7, f8⟩ := HCP.out _ hW; go_simp; try with_reducible rfl)
  simp only [Act.put, List.setIfInBounds_toArray, List.set_cons_zero, List.set_cons_succ]
  refine' wpAnyH_take (i := 15) (oi := { dst := some 49, op := Op.move (Operand.tmp 48), type := 4, pos := "law.go:32", after := #[{ on := 14, ground := Ground.data }, { on := 10, ground := Ground.chain }], guard := none }) (v := ?v201014) rfl (by kernel_rfl) (by kernel_rfl) (by kernel_rfl) (fun _ _ _ h => h) (.inl ⟨by first | rfl | simp [Region.wanted, yielded], ?hy201014⟩) (by assumption) ?rest201014
  case hy201014 => (intro W hW; obtain ⟨⟨⟨f1, f2, f3⟩, ⟨f4, f5, f6⟩⟩, f7, f8⟩ := HCP.out _ hW; go_simp; try with_reducible rfl)
  simp only [Act.put, List.setIfInBounds_toArray, List.set_cons_zero, List.set_cons_succ]
  refine' wpAnyH_take (i := 16) (oi := { dst := some 50, op := Op.move (Operand.tmp 6), type := 4, pos := "law.go:32", after := #[{ on := 15, ground := Ground.guard }], guard := some (15, true) }) (v := ?v201015) rfl (by kernel_rfl) (by kernel_rfl) (by kernel_rfl) (fun _ _ _ h => h) (.inl ⟨by first | rfl | simp [Region.wanted, yielded], ?hy201015⟩) (by assumption) ?rest201015
  case hy201015 => (intro W hW; obtain ⟨⟨⟨f1, f2, f3⟩, ⟨f4, f5, f6⟩⟩, f7, f8⟩ := HCP.out _ hW; go_simp; try with_reducible rfl)
  simp only [Act.put, List.setIfInBounds_toArray, List.set_cons_zero, List.set_cons_succ]
  refine' wpAnyH_take (i := 17) (oi := { dst := some 51, op := Op.move (Operand.tmp 8), type := 4, pos := "law.go:32", after := #[{ on := 15, ground := Ground.guard }], guard := some (15, true) }) (v := ?v201016) rfl (by kernel_rfl) (by kernel_rfl) (by kernel_rfl) (fun _ _ _ h => h) (.inl ⟨by first | rfl | simp [Region.wanted, yielded], ?hy201016⟩) (by assumption) ?rest201016
  case hy201016 => (intro W hW; obtain ⟨⟨⟨f1, f2, f3⟩, ⟨f4, f5, f6⟩⟩, f7, f8⟩ := HCP.out _ hW; go_simp; try with_reducible rfl)
  simp only [Act.put, List.setIfInBounds_toArray, List.set_cons_zero, List.set_cons_succ]
  refine' wpAnyH_take (i := 18) (oi := { dst := some 52, op := Op.binOp BinOp.eql 4 (Operand.tmp 50) (Operand.tmp 51) 4, type := 4, pos := "law.go:32", after := #[{ on := 16, ground := Ground.data }, { on := 17, ground := Ground.data }, { on := 15, ground := Ground.guard }], guard := some (15, true) }) (v := ?v201017) rfl (by kernel_rfl) (by kernel_rfl) (by kernel_rfl) (fun _ _ _ h => h) (.inl ⟨by first | rfl | simp [Region.wanted, yielded], ?hy201017⟩) (by assumption) ?rest201017
  case hy201017 => (intro W hW; obtain ⟨⟨⟨f1, f2, f3⟩, ⟨f4, f5, f6⟩⟩, f7, f8⟩ := HCP.out _ hW; go_simp; try with_reducible rfl)
  simp only [Act.put, List.setIfInBounds_toArray, List.set_cons_zero, List.set_cons_succ]
  refine' wpAnyH_take (i := 19) (oi := { dst := some 53, op := Op.pick (Operand.tmp 49) (Operand.tmp 52) (Operand.const (Value.bool false)), type := 4, pos := "law.go:32", after := #[{ on := 15, ground := Ground.data }, { on := 18, ground := Ground.data }], guard := none }) (v := ?v201018) rfl (by kernel_rfl) (by kernel_rfl) (by kernel_rfl) (fun _ _ _ h => h) (.inl ⟨by first | rfl | simp [Region.wanted, yielded], ?hy201018⟩) (by assumption) ?rest201018
  case hy201018 => (intro W hW; obtain ⟨⟨⟨f1, f2, f3⟩, ⟨f4, f5, f6⟩⟩, f7, f8⟩ := HCP.out _ hW; go_simp; try with_reducible rfl)
  simp only [Act.put, List.setIfInBounds_toArray, List.set_cons_zero, List.set_cons_succ]
  refine' wpAnyH_take (i := 20) (oi := { dst := some 54, op := Op.move (Operand.tmp 53), type := 4, pos := "law.go:32", after := #[{ on := 19, ground := Ground.data }, { on := 15, ground := Ground.chain }], guard := none }) (v := ?v201019) rfl (by kernel_rfl) (by kernel_rfl) (by kernel_rfl) (fun _ _ _ h => h) (.inl ⟨by first | rfl | simp [Region.wanted, yielded], ?hy201019⟩) (by assumption) ?rest201019
  case hy201019 => (intro W hW; obtain ⟨⟨⟨f1, f2, f3⟩, ⟨f4, f5, f6⟩⟩, f7, f8⟩ := HCP.out _ hW; go_simp; try with_reducible rfl)
  simp only [Act.put, List.setIfInBounds_toArray, List.set_cons_zero, List.set_cons_succ]
  refine' wpAnyH_take (i := 21) (oi := { dst := some 55, op := Op.move (Operand.tmp 9), type := 9, pos := "law.go:32", after := #[{ on := 20, ground := Ground.guard }], guard := some (20, true) }) (v := ?v201020) rfl (by kernel_rfl) (by kernel_rfl) (by kernel_rfl) (fun _ _ _ h => h) (.inl ⟨by first | rfl | simp [Region.wanted, yielded], ?hy201020⟩) (by assumption) ?rest201020
  case hy201020 => (intro W hW; obtain ⟨⟨⟨f1, f2, f3⟩, ⟨f4, f5, f6⟩⟩, f7, f8⟩ := HCP.out _ hW; go_simp; try with_reducible rfl)
  simp only [Act.put, List.setIfInBounds_toArray, List.set_cons_zero, List.set_cons_succ]
  refine' wpAnyH_take (i := 22) (oi := { dst := some 56, op := Op.load 25 (Operand.tmp 4), type := 25, pos := "law.go:32", after := #[{ on := 20, ground := Ground.guard }], guard := some (20, true) }) (v := ?v201021) rfl (by kernel_rfl) (by kernel_rfl) (by kernel_rfl) (fun _ _ _ h => h) (.inl ⟨by first | rfl | simp [Region.wanted, yielded], ?hy201021⟩) (by assumption) ?rest201021
  case hy201021 => (intro W hW; obtain ⟨⟨⟨f1, f2, f3⟩, ⟨f4, f5, f6⟩⟩, f7, f8⟩ := HCP.out _ hW; go_simp; try with_reducible rfl)
  simp only [Act.put, List.setIfInBounds_toArray, List.set_cons_zero, List.set_cons_succ]
  refine wpAnyH_ready (rs := [23]) (by kernel_rfl) (by simp) ?_
  refine AllReadyH.cons (o := { dst := some 57, op := Op.call { callee := Callee.value (Operand.func 15), args := #[Operand.tmp 56], argTypes := #[25] }, type := 9, pos := "law.go:32", after := #[{ on := 22, ground := Ground.data }, { on := 20, ground := Ground.chain }, { on := 20, ground := Ground.guard }], guard := some (20, true) }) rfl (fun K hK => ?_) (AllReadyH.nil)
  try simp only [List.getElem_toArray, List.getElem_cons_succ, List.getElem_cons_zero]
  go_simp
  refine (HH.out _).mono ?_
  rintro e z3 ⟨rfl, hz3⟩
  have HB3 := hHeld.trans (hz3.mono hHeld.size)
  refine hK.out _ _ HB3 (fun hHeld => ?_)
  clear hK K
  try simp only [Act.put, List.setIfInBounds_toArray, List.set_cons_zero, List.set_cons_succ]
  refine' wpAnyH_take (i := 24) (oi := { dst := some 58, op := Op.binOp BinOp.eql 9 (Operand.tmp 55) (Operand.tmp 57) 9, type := 4, pos := "law.go:32", after := #[{ on := 21, ground := Ground.data }, { on := 23, ground := Ground.data }, { on := 20, ground := Ground.guard }], guard := some (20, true) }) (v := ?v201022) rfl (by kernel_rfl) (by kernel_rfl) (by kernel_rfl) (fun _ _ _ h => h) (.inl ⟨by first | rfl | simp [Region.wanted, yielded], ?hy201022⟩) (by assumption) ?rest201022
  case hy201022 => (intro W hW; obtain ⟨⟨⟨f1, f2, f3⟩, ⟨f4, f5, f6⟩⟩, f7, f8⟩ := HCP.out _ hW; go_simp; try with_reducible rfl)
  simp only [Act.put, List.setIfInBounds_toArray, List.set_cons_zero, List.set_cons_succ]
  refine' wpAnyH_take (i := 25) (oi := { dst := some 59, op := Op.pick (Operand.tmp 54) (Operand.tmp 58) (Operand.const (Value.bool false)), type := 4, pos := "law.go:32", after := #[{ on := 20, ground := Ground.data }, { on := 24, ground := Ground.data }], guard := none }) (v := ?v201023) rfl (by kernel_rfl) (by kernel_rfl) (by kernel_rfl) (fun _ _ _ h => h) (.inl ⟨by first | rfl | simp [Region.wanted, yielded], ?hy201023⟩) (by assumption) ?rest201023
  case hy201023 => (intro W hW; obtain ⟨⟨⟨f1, f2, f3⟩, ⟨f4, f5, f6⟩⟩, f7, f8⟩ := HCP.out _ hW; go_simp; try with_reducible rfl)
  simp only [Act.put, List.setIfInBounds_toArray, List.set_cons_zero, List.set_cons_succ]
  refine' wpAnyH_take (i := 26) (oi := { dst := some 60, op := Op.move (Operand.tmp 59), type := 4, pos := "law.go:32", after := #[{ on := 25, ground := Ground.data }, { on := 23, ground := Ground.chain }], guard := none }) (v := ?v201024) rfl (by kernel_rfl) (by kernel_rfl) (by kernel_rfl) (fun _ _ _ h => h) (.inl ⟨by first | rfl | simp [Region.wanted, yielded], ?hy201024⟩) (by assumption) ?rest201024
  case hy201024 => (intro W hW; obtain ⟨⟨⟨f1, f2, f3⟩, ⟨f4, f5, f6⟩⟩, f7, f8⟩ := HCP.out _ hW; go_simp; try with_reducible rfl)
  simp only [Act.put, List.setIfInBounds_toArray, List.set_cons_zero, List.set_cons_succ]
  refine' wpAnyH_take (i := 27) (oi := { dst := some 61, op := Op.move (Operand.tmp 10), type := 30, pos := "law.go:32", after := #[{ on := 26, ground := Ground.guard }], guard := some (26, true) }) (v := ?v201025) rfl (by kernel_rfl) (by kernel_rfl) (by kernel_rfl) (fun _ _ _ h => h) (.inl ⟨by first | rfl | simp [Region.wanted, yielded], ?hy201025⟩) (by assumption) ?rest201025
  case hy201025 => (intro W hW; obtain ⟨⟨⟨f1, f2, f3⟩, ⟨f4, f5, f6⟩⟩, f7, f8⟩ := HCP.out _ hW; go_simp; try with_reducible rfl)
  simp only [Act.put, List.setIfInBounds_toArray, List.set_cons_zero, List.set_cons_succ]
  refine wpAnyH_ready (rs := [28]) (by kernel_rfl) (by simp) ?_
  refine AllReadyH.cons (o := { dst := some 62, op := Op.call { callee := Callee.value (Operand.func 16), args := #[Operand.tmp 61], argTypes := #[30] }, type := 3, pos := "law.go:32", after := #[{ on := 27, ground := Ground.data }, { on := 26, ground := Ground.chain }, { on := 26, ground := Ground.guard }], guard := some (26, true) }) rfl (fun K hK => ?_) (AllReadyH.nil)
  try simp only [List.getElem_toArray, List.getElem_cons_succ, List.getElem_cons_zero]
  go_simp
  refine (HNum.out _ _).mono ?_
  rintro e z4 ⟨rfl, rfl⟩
  refine hK.out _ _ hHeld (fun hHeld => ?_)
  clear hK K
  try simp only [Act.put, List.setIfInBounds_toArray, List.set_cons_zero, List.set_cons_succ]
  refine' wpAnyH_take (i := 29) (oi := { dst := some 63, op := Op.binOp BinOp.eql 3 (Operand.tmp 62) (Operand.const (Value.int IntKind.i64 0)) 3, type := 4, pos := "law.go:32", after := #[{ on := 28, ground := Ground.data }, { on := 26, ground := Ground.guard }], guard := some (26, true) }) (v := ?v201026) rfl (by kernel_rfl) (by kernel_rfl) (by kernel_rfl) (fun _ _ _ h => h) (.inl ⟨by first | rfl | simp [Region.wanted, yielded], ?hy201026⟩) (by assumption) ?rest201026
  case hy201026 => (intro W hW; obtain ⟨⟨⟨f1, f2, f3⟩, ⟨f4, f5, f6⟩⟩, f7, f8⟩ := HCP.out _ hW; go_simp; try with_reducible rfl)
  simp only [Act.put, List.setIfInBounds_toArray, List.set_cons_zero, List.set_cons_succ]
  refine' wpAnyH_take (i := 30) (oi := { dst := some 64, op := Op.pick (Operand.tmp 60) (Operand.tmp 63) (Operand.const (Value.bool false)), type := 4, pos := "law.go:32", after := #[{ on := 26, ground := Ground.data }, { on := 29, ground := Ground.data }], guard := none }) (v := ?v201027) rfl (by kernel_rfl) (by kernel_rfl) (by kernel_rfl) (fun _ _ _ h => h) (.inl ⟨by first | rfl | simp [Region.wanted, yielded], ?hy201027⟩) (by assumption) ?rest201027
  case hy201027 => (intro W hW; obtain ⟨⟨⟨f1, f2, f3⟩, ⟨f4, f5, f6⟩⟩, f7, f8⟩ := HCP.out _ hW; go_simp; try with_reducible rfl)
  simp only [Act.put, List.setIfInBounds_toArray, List.set_cons_zero, List.set_cons_succ]
  refine' wpAnyH_take (i := 31) (oi := { dst := some 65, op := Op.move (Operand.tmp 64), type := 4, pos := "law.go:32", after := #[{ on := 30, ground := Ground.data }, { on := 28, ground := Ground.chain }], guard := none }) (v := ?v201028) rfl (by kernel_rfl) (by kernel_rfl) (by kernel_rfl) (fun _ _ _ h => h) (.inl ⟨by first | rfl | simp [Region.wanted, yielded], ?hy201028⟩) (by assumption) ?rest201028
  case hy201028 => (intro W hW; obtain ⟨⟨⟨f1, f2, f3⟩, ⟨f4, f5, f6⟩⟩, f7, f8⟩ := HCP.out _ hW; go_simp; try with_reducible rfl)
  simp only [Act.put, List.setIfInBounds_toArray, List.set_cons_zero, List.set_cons_succ]
  refine' wpAnyH_take (i := 32) (oi := { dst := some 66, op := Op.move (Operand.tmp 9), type := 9, pos := "law.go:32", after := #[{ on := 31, ground := Ground.guard }], guard := some (31, true) }) (v := ?v201029) rfl (by kernel_rfl) (by kernel_rfl) (by kernel_rfl) (fun _ _ _ h => h) (.inl ⟨by first | rfl | simp [Region.wanted, yielded], ?hy201029⟩) (by assumption) ?rest201029
  case hy201029 => (intro W hW; obtain ⟨⟨⟨f1, f2, f3⟩, ⟨f4, f5, f6⟩⟩, f7, f8⟩ := HCP.out _ hW; go_simp; try with_reducible rfl)
  simp only [Act.put, List.setIfInBounds_toArray, List.set_cons_zero, List.set_cons_succ]
  refine' wpAnyH_take (i := 34) (oi := { dst := some 68, op := Op.load 25 (Operand.tmp 4), type := 25, pos := "law.go:32", after := #[{ on := 31, ground := Ground.guard }], guard := some (31, true) }) (v := ?v201030) rfl (by kernel_rfl) (by kernel_rfl) (by kernel_rfl) (fun _ _ _ h => h) (.inl ⟨by first | rfl | simp [Region.wanted, yielded], ?hy201030⟩) (by assumption) ?rest201030
  case hy201030 => (intro W hW; obtain ⟨⟨⟨f1, f2, f3⟩, ⟨f4, f5, f6⟩⟩, f7, f8⟩ := HCP.out _ hW; go_simp; try with_reducible rfl)
  simp only [Act.put, List.setIfInBounds_toArray, List.set_cons_zero, List.set_cons_succ]
  refine wpAnyH_ready (rs := [33]) (by kernel_rfl) (by simp) ?_
  refine AllReadyH.cons (o := { dst := some 67, op := Op.call { callee := Callee.value (Operand.func 8), args := #[Operand.tmp 66], argTypes := #[9] }, type := 25, pos := "law.go:32", after := #[{ on := 32, ground := Ground.data }, { on := 31, ground := Ground.chain }, { on := 31, ground := Ground.guard }], guard := some (31, true) }) rfl (fun K hK => ?_) (AllReadyH.nil)
  try simp only [List.getElem_toArray, List.getElem_cons_succ, List.getElem_cons_zero]
  go_simp
  refine (HI.out _).mono ?_
  rintro e z5 ⟨rfl, hz5⟩
  have HB5 := hHeld.trans (hz5.mono hHeld.size)
  refine hK.out _ _ HB5 (fun hHeld => ?_)
  clear hK K
  try simp only [Act.put, List.setIfInBounds_toArray, List.set_cons_zero, List.set_cons_succ]
  refine' wpAnyH_take (i := 35) (oi := { dst := some 69, op := Op.binOp BinOp.eql 25 (Operand.tmp 67) (Operand.tmp 68) 25, type := 4, pos := "law.go:32", after := #[{ on := 33, ground := Ground.data }, { on := 34, ground := Ground.data }, { on := 31, ground := Ground.guard }], guard := some (31, true) }) (v := ?v201031) rfl (by kernel_rfl) (by kernel_rfl) (by kernel_rfl) (fun _ _ _ h => h) (.inl ⟨by first | rfl | simp [Region.wanted, yielded], ?hy201031⟩) (by assumption) ?rest201031
  case hy201031 => (intro W hW; obtain ⟨⟨⟨f1, f2, f3⟩, ⟨f4, f5, f6⟩⟩, f7, f8⟩ := HCP.out _ hW; go_simp; try with_reducible rfl)
  simp only [Act.put, List.setIfInBounds_toArray, List.set_cons_zero, List.set_cons_succ]
  refine' wpAnyH_take (i := 36) (oi := { dst := some 70, op := Op.pick (Operand.tmp 65) (Operand.tmp 69) (Operand.const (Value.bool false)), type := 4, pos := "law.go:32", after := #[{ on := 31, ground := Ground.data }, { on := 35, ground := Ground.data }], guard := none }) (v := ?v201032) rfl (by kernel_rfl) (by kernel_rfl) (by kernel_rfl) (fun _ _ _ h => h) (.inl ⟨by first | rfl | simp [Region.wanted, yielded], ?hy201032⟩) (by assumption) ?rest201032
  case hy201032 => (intro W hW; obtain ⟨⟨⟨f1, f2, f3⟩, ⟨f4, f5, f6⟩⟩, f7, f8⟩ := HCP.out _ hW; go_simp; try with_reducible rfl)
  simp only [Act.put, List.setIfInBounds_toArray, List.set_cons_zero, List.set_cons_succ]
  refine' wpAnyH_take (i := 37) (oi := { dst := some 71, op := Op.move (Operand.tmp 70), type := 4, pos := "law.go:32", after := #[{ on := 36, ground := Ground.data }, { on := 33, ground := Ground.chain }], guard := none }) (v := ?v201033) rfl (by kernel_rfl) (by kernel_rfl) (by kernel_rfl) (fun _ _ _ h => h) (.inl ⟨by first | rfl | simp [Region.wanted, yielded], ?hy201033⟩) (by assumption) ?rest201033
  case hy201033 => (intro W hW; obtain ⟨⟨⟨f1, f2, f3⟩, ⟨f4, f5, f6⟩⟩, f7, f8⟩ := HCP.out _ hW; go_simp; try with_reducible rfl)
  simp only [Act.put, List.setIfInBounds_toArray, List.set_cons_zero, List.set_cons_succ]
  refine wpAnyH_ready (rs := [38]) (by kernel_rfl) (by simp) ?_
  refine AllReadyH.cons (o := { dst := some 72, op := Op.call { callee := Callee.value (Operand.func 7), args := #[], argTypes := #[] }, type := 4, pos := "law.go:32", after := #[{ on := 37, ground := Ground.chain }, { on := 37, ground := Ground.guard }], guard := some (37, true) }) rfl (fun K hK => ?_) (AllReadyH.nil)
  try simp only [List.getElem_toArray, List.getElem_cons_succ, List.getElem_cons_zero]
  go_simp
  refine (HWk.out _).mono ?_
  rintro e z6 ⟨rfl, hz6⟩
  have HB6 := hHeld.trans (hz6.mono hHeld.size)
  refine hK.out _ _ HB6 (fun hHeld => ?_)
  clear hK K
  try simp only [Act.put, List.setIfInBounds_toArray, List.set_cons_zero, List.set_cons_succ]
  refine' wpAnyH_take (i := 39) (oi := { dst := some 73, op := Op.pick (Operand.tmp 71) (Operand.tmp 72) (Operand.const (Value.bool false)), type := 4, pos := "law.go:32", after := #[{ on := 37, ground := Ground.data }, { on := 38, ground := Ground.data }], guard := none }) (v := ?v201034) rfl (by kernel_rfl) (by kernel_rfl) (by kernel_rfl) (fun _ _ _ h => h) (.inl ⟨by first | rfl | simp [Region.wanted, yielded], ?hy201034⟩) (by assumption) ?rest201034
  case hy201034 => (intro W hW; obtain ⟨⟨⟨f1, f2, f3⟩, ⟨f4, f5, f6⟩⟩, f7, f8⟩ := HCP.out _ hW; go_simp; try with_reducible rfl)
  simp only [Act.put, List.setIfInBounds_toArray, List.set_cons_zero, List.set_cons_succ]
  refine' wpAnyH_take (i := 40) (oi := { dst := some 2, op := Op.assign (Operand.tmp 73), type := 4, pos := "law.go:32", after := #[{ on := 39, ground := Ground.data }, { on := 38, ground := Ground.chain }, { on := 0, ground := Ground.phase }, { on := 1, ground := Ground.phase }, { on := 2, ground := Ground.phase }, { on := 3, ground := Ground.phase }, { on := 4, ground := Ground.phase }, { on := 5, ground := Ground.phase }, { on := 6, ground := Ground.phase }, { on := 7, ground := Ground.phase }, { on := 8, ground := Ground.phase }, { on := 9, ground := Ground.phase }, { on := 10, ground := Ground.phase }, { on := 11, ground := Ground.phase }, { on := 12, ground := Ground.phase }, { on := 13, ground := Ground.phase }, { on := 14, ground := Ground.phase }, { on := 15, ground := Ground.phase }, { on := 16, ground := Ground.phase }, { on := 17, ground := Ground.phase }, { on := 18, ground := Ground.phase }, { on := 19, ground := Ground.phase }, { on := 20, ground := Ground.phase }, { on := 21, ground := Ground.phase }, { on := 22, ground := Ground.phase }, { on := 23, ground := Ground.phase }, { on := 24, ground := Ground.phase }, { on := 25, ground := Ground.phase }, { on := 26, ground := Ground.phase }, { on := 27, ground := Ground.phase }, { on := 28, ground := Ground.phase }, { on := 29, ground := Ground.phase }, { on := 30, ground := Ground.phase }, { on := 31, ground := Ground.phase }, { on := 32, ground := Ground.phase }, { on := 33, ground := Ground.phase }, { on := 34, ground := Ground.phase }, { on := 35, ground := Ground.phase }, { on := 36, ground := Ground.phase }, { on := 37, ground := Ground.phase }, { on := 38, ground := Ground.phase }, { on := 39, ground := Ground.phase }], guard := none }) (v := ?v201035) rfl (by kernel_rfl) (by kernel_rfl) (by kernel_rfl) (fun _ _ _ h => h) (.inl ⟨by first | rfl | simp [Region.wanted, yielded], ?hy201035⟩) (by assumption) ?rest201035
  case hy201035 => (intro W hW; obtain ⟨⟨⟨f1, f2, f3⟩, ⟨f4, f5, f6⟩⟩, f7, f8⟩ := HCP.out _ hW; go_simp; try with_reducible rfl)
  simp only [Act.put, List.setIfInBounds_toArray, List.set_cons_zero, List.set_cons_succ]
  refine wpAnyH_done (by kernel_rfl) ?_ _
  have HBe := Lib.hid (B1.out.trans (hHeld.mono B1.out.size))
  go_wp2
  go_ret
  exact ⟨rfl, HBe.out⟩
set_option maxHeartbeats 6400000 in
set_option maxRecDepth 100000 in
theorem holds_any (s t : ByteArray) (w : World) : Calls Try.prog 4 #[.string s, .string t] w fun e w' => e = .returned (.bool true) ∧ Below w.heap.size w w' := by
  have HWk := Lib.hid works_true
  have HNum := Lib.hid num16
  by_cases hbig : 300 < s.size ∨ 300 < t.size
  · obtain ⟨b1, hb1⟩ : ∃ b, decide ((300 : Int) < s.size) = b := ⟨_, rfl⟩
    obtain ⟨b2, hb2⟩ : ∃ b, decide ((300 : Int) < t.size) = b := ⟨_, rfl⟩
    have hb1' : decide (300 < s.size) = b1 := by rw [← hb1]; simp; omega
    have hb2' : decide (300 < t.size) = b2 := by rw [← hb2]; simp; omega
    have hc : b1 = true ∨ (b1 = false ∧ b2 = true) := by
      rw [← hb1', ← hb2']
      simp only [decide_eq_true_eq, decide_eq_false_iff_not]
      omega
    clear hbig
    rcases hc with rfl | ⟨rfl, rfl⟩
    · go_enter Try.func4, Try.ntmps4
      go_wp2_with (go_at_call 7; fail)
      refine (HWk.out _).mono ?_
      rintro e w1 ⟨rfl, hb⟩
      have HB := Lib.hid hb
      clear hb
      go_wp2
      go_ret
      exact ⟨rfl, HB.out⟩
    · go_enter Try.func4, Try.ntmps4
      go_wp2_with (go_at_call 7; fail)
      refine (HWk.out _).mono ?_
      rintro e w1 ⟨rfl, hb⟩
      have HB := Lib.hid hb
      clear hb
      go_wp2
      go_ret
      exact ⟨rfl, HB.out⟩
  have hs300 : s.size ≤ 300 := by omega
  have ht300 : t.size ≤ 300 := by omega
  have d1 : decide (300 < s.size) = false := by simp; omega
  have d2 : decide ((300 : Int) < s.size) = false := by simp; omega
  have d3 : decide (300 < t.size) = false := by simp; omega
  have d4 : decide ((300 : Int) < t.size) = false := by simp; omega
  obtain ⟨xs, hxs⟩ : ∃ xs, xs = nums s := ⟨_, rfl⟩
  obtain ⟨ys, hys⟩ : ∃ xs, xs = nums t := ⟨_, rfl⟩
  have hsx : s = strOfNums xs := by rw [hxs, str_nums]
  have hsy : t = strOfNums ys := by rw [hys, str_nums]
  have hb : Byt xs := by rw [hxs]; exact nums_byt s
  have hb' : Byt ys := by rw [hys]; exact nums_byt t
  have hl : xs.length ≤ 300 := by rw [hxs, nums_len]; exact hs300
  have hl' : ys.length ≤ 300 := by rw [hys, nums_len]; exact ht300
  obtain ⟨k1, hk1⟩ : ∃ k, k = (ofF xs).k := ⟨_, rfl⟩
  obtain ⟨N1, hN1⟩ : ∃ x, x = strOfNums (ofF xs).n := ⟨_, rfl⟩
  obtain ⟨V1, hV1⟩ : ∃ x, x = strOfNums (ofF xs).v := ⟨_, rfl⟩
  obtain ⟨L1, hL1⟩ : ∃ x, x = strOfNums (lineF (ofF xs)) := ⟨_, rfl⟩
  have eF1 : fdV (ofF xs) = .agg #[.int .i64 k1, .string N1, .string V1] := by rw [hN1, hV1, hk1]; rfl
  have q1 : fdEq k1 N1 V1 k1 N1 V1 = true := by simp [fdEq]
  obtain ⟨k2, hk2⟩ : ∃ k, k = (ofF ys).k := ⟨_, rfl⟩
  obtain ⟨N2, hN2⟩ : ∃ x, x = strOfNums (ofF ys).n := ⟨_, rfl⟩
  obtain ⟨V2, hV2⟩ : ∃ x, x = strOfNums (ofF ys).v := ⟨_, rfl⟩
  obtain ⟨L2, hL2⟩ : ∃ x, x = strOfNums (lineF (ofF ys)) := ⟨_, rfl⟩
  have eF2 : fdV (ofF ys) = .agg #[.int .i64 k2, .string N2, .string V2] := by rw [hN2, hV2, hk2]; rfl
  have q2 : fdEq k2 N2 V2 k2 N2 V2 = true := by simp [fdEq]
  obtain ⟨b, hbb⟩ : ∃ b, b = decide (ofF xs = ofF ys) := ⟨_, rfl⟩
  obtain ⟨c, hcc⟩ : ∃ b, b = decide (xs = ys) := ⟨_, rfl⟩
  have qb : fdEq k1 N1 V1 k2 N2 V2 = b := by rw [hk1, hN1, hV1, hk2, hN2, hV2, fd_eq (ofF_byt hb) (ofF_byt hb'), hbb]
  have ql : (L1.toList == L2.toList) = b := by
    rw [hL1, hL2, toList_beq _ _ (ofF xs = ofF ys), hbb]
    rw [str_eq (lineF_byt (ofF_byt hb).1 (ofF_byt hb).2) (lineF_byt (ofF_byt hb').1 (ofF_byt hb').2)]
    constructor
    · intro e
      rw [← of_line xs, e, of_line]
    · intro e
      rw [e]
  have qs : (s.toList != t.toList) = !c := by
    have : (s.toList == t.toList) = c := by rw [hsx, hsy, toList_beq _ _ (xs = ys) (str_eq hb hb'), hcc]
    rw [← this]
    rfl
  have qs2 : (s.toList == t.toList) = c := by rw [hsx, hsy, toList_beq _ _ (xs = ys) (str_eq hb hb'), hcc]
  have hw0 : IntKind.i64.wrap 0 = 0 := by decide
  have hcb : c = true → b = true := fun e => by
    rw [hcc] at e
    rw [hbb, of_decide_eq_true e]
    simp
  have HCB := Lib.hid hcb
  have HA : Hid (∀ W, Calls Try.prog 8 #[.string s] W fun e w' => e = .returned (.agg #[.int .i64 k1, .string N1, .string V1]) ∧ Below W.heap.size W w') := Lib.hid fun W => by
    rw [← eF1, hsx]; exact Of8 xs hb (by omega) W
  have HB : Hid (∀ W, Calls Try.prog 8 #[.string t] W fun e w' => e = .returned (.agg #[.int .i64 k2, .string N2, .string V2]) ∧ Below W.heap.size W w') := Lib.hid fun W => by
    rw [← eF2, hsy]; exact Of8 ys hb' (by omega) W
  have HC : Hid (∀ W, Calls Try.prog 12 #[.agg #[.int .i64 k1, .string N1, .string V1]] W fun e w' => e = .returned (.tuple #[.string L1, .int .i64 0]) ∧ Below W.heap.size W w') := Lib.hid fun W => by
    rw [← eF1, hL1]; exact Line_of xs hb (by omega) W
  have HD : Hid (∀ W, Calls Try.prog 12 #[.agg #[.int .i64 k2, .string N2, .string V2]] W fun e w' => e = .returned (.tuple #[.string L2, .int .i64 0]) ∧ Below W.heap.size W w') := Lib.hid fun W => by
    rw [← eF2, hL2]; exact Line_of ys hb' (by omega) W
  have HE : Hid (∀ W, Calls Try.prog 8 #[.string L1] W fun e w' => e = .returned (.agg #[.int .i64 k1, .string N1, .string V1]) ∧ Below W.heap.size W w') := Lib.hid fun W => by
    rw [← eF1, hL1]; exact Of_line xs hb (by omega) W
  have HF : Hid (∀ W, Calls Try.prog 8 #[.string L2] W fun e w' => e = .returned (.agg #[.int .i64 k2, .string N2, .string V2]) ∧ Below W.heap.size W w') := Lib.hid fun W => by
    rw [← eF2, hL2]; exact Of_line ys hb' (by omega) W
  clear hxs hys hsx hsy hb hb' hl hl' hk1 hN1 hV1 hL1 eF1 hk2 hN2 hV2 hL2 eF2 hbb hcc hcb hbig
  go_enter Try.func4, Try.ntmps4
  go_wp2_with (go_at_call 8; fail)
  refine (HA.out _).mono ?_
  rintro e y1 ⟨rfl, hb1⟩
  go_wp2_with (go_at_call 8; fail)
  refine (HB.out _).mono ?_
  rintro e y2 ⟨rfl, hb2⟩
  have hb12 := hb1.trans (hb2.mono hb1.size)
  obtain ⟨X, hX⟩ : ∃ X, X = y2.heap.size := ⟨_, rfl⟩
  obtain ⟨u0, hu0⟩ : ∃ W, W = y2.alloc (.cells #[.int .i64 k1, .string N1, .string V1] 25) := ⟨_, rfl⟩
  obtain ⟨u1, hu1⟩ : ∃ W, W = u0.alloc (.cells #[.int .i64 k2, .string N2, .string V2] 25) := ⟨_, rfl⟩
  have s0 : u0.heap.size = X + 1 := by rw [hu0, hX]; simp
  have v0 : Below w.heap.size w u0 := by rw [hu0]; exact hb12.alloc hb12.size _
  have v1 : Below w.heap.size w u1 := by rw [hu1]; exact v0.alloc v0.size _
  have kk0 : u1.heap[X]? = some (.cells #[.int .i64 k1, .string N1, .string V1] 25 (0, 0)) := by rw [hu1]; refine alloc_blk ?_ _; rw [hu0, hX]; exact alloc_blk_new _ _
  have kk1 : u1.heap[X + 1]? = some (.cells #[.int .i64 k2, .string N2, .string V2] 25 (0, 0)) := by rw [hu1, ← s0]; exact alloc_blk_new _ _
  have HCP : Hid (∀ W, Below u1.heap.size u1 W → ((W.cell? ⟨X, 0, none⟩ = some (.int .i64 k1) ∧ W.cell? ⟨X, 1, none⟩ = some (.string N1) ∧ W.cell? ⟨X, 2, none⟩ = some (.string V1)) ∧ (W.cell? ⟨X + 1, 0, none⟩ = some (.int .i64 k2) ∧ W.cell? ⟨X + 1, 1, none⟩ = some (.string N2) ∧ W.cell? ⟨X + 1, 2, none⟩ = some (.string V2))) ∧ X < W.heap.size ∧ X + 1 < W.heap.size) := Lib.hid fun W hW => by
    have q := (hW.block _ (blk_lt kk0)).trans kk0
    have q' := (hW.block _ (blk_lt kk1)).trans kk1
    exact ⟨⟨⟨cell_blk q 0 _ rfl, cell_blk q 1 _ rfl, cell_blk q 2 _ rfl⟩, ⟨cell_blk q' 0 _ rfl, cell_blk q' 1 _ rfl, cell_blk q' 2 _ rfl⟩⟩, blk_lt q, blk_lt q'⟩
  have EX := Lib.hid hX
  have EU0 := Lib.hid hu0
  have EU1 := Lib.hid hu1
  have B1 := Lib.hid v1
  obtain ⟨⟨⟨c0, c1, c2⟩, ⟨e0, e1, e2⟩⟩, lx, ly⟩ := HCP.out u1 (Below.refl _ _)
  clear hX hu0 hu1 s0 v0 v1 kk0 kk1
  clear hb1 hb2 hb12
  go_wp2_with (go_at_call 12; fail)
  rw [← EU0.out, ← EU1.out]
  try rw [← EX.out]
  refine (HC.out _).mono ?_
  rintro e y3 ⟨rfl, hb3⟩
  have HBx := Lib.hid hb3
  clear hb3 c0 c1 c2 e0 e1 e2 lx ly
  obtain ⟨⟨⟨c0, c1, c2⟩, ⟨e0, e1, e2⟩⟩, lx, ly⟩ := HCP.out _ HBx.out
  go_wp2_with (go_at_call 12; fail)
  refine (HD.out _).mono ?_
  rintro e y4 ⟨rfl, hb4⟩
  have HBz := Lib.hid (HBx.out.trans (hb4.mono HBx.out.size))
  clear hb4 c0 c1 c2 e0 e1 e2 lx ly HBx
  go_upto_region 6 with fail
  cases c with
  | true =>
    obtain rfl := HCB.out rfl
    simp only [Bool.not_true] at qs
    have qp : s.toList = t.toList := by simpa using qs2
    refine wp_region_held_drew (S := fun W => Below u1.heap.size u1 W) (by kernel_rfl) (HBz.out.trans ((Below.drewN' y4 1).mono HBz.out.size)) (fun hHeld => ?_)
    generalize y4.drew = wd at hHeld ⊢
    refine' wpAnyH_take (i := 0) (oi := { dst := some 34, op := Op.move (Operand.tmp 8), type := 30, pos := "law.go:96", after := #[], guard := none }) (v := ?v202001) rfl (by kernel_rfl) (by kernel_rfl) (by kernel_rfl) (fun _ _ _ h => h) (.inl ⟨by first | rfl | simp [Region.wanted, yielded], ?hy202001⟩) (by assumption) ?rest202001
    case hy202001 => (intro W hW; obtain ⟨⟨⟨f1, f2, f3⟩, ⟨f4, f5, f6⟩⟩, f7, f8⟩ := HCP.out _ hW; go_simp; try with_reducible rfl)
    simp only [Act.put, List.setIfInBounds_toArray, List.set_cons_zero, List.set_cons_succ]
    refine' wpAnyH_take (i := 2) (oi := { dst := some 36, op := Op.move (Operand.tmp 10), type := 30, pos := "law.go:96", after := #[], guard := none }) (v := ?v202002) rfl (by kernel_rfl) (by kernel_rfl) (by kernel_rfl) (fun _ _ _ h => h) (.inl ⟨by first | rfl | simp [Region.wanted, yielded], ?hy202002⟩) (by assumption) ?rest202002
    case hy202002 => (intro W hW; obtain ⟨⟨⟨f1, f2, f3⟩, ⟨f4, f5, f6⟩⟩, f7, f8⟩ := HCP.out _ hW; go_simp; try with_reducible rfl)
    simp only [Act.put, List.setIfInBounds_toArray, List.set_cons_zero, List.set_cons_succ]
    refine wpAnyH_ready (rs := [1]) (by kernel_rfl) (by simp) ?_
    refine AllReadyH.cons (o := { dst := some 35, op := Op.call { callee := Callee.value (Operand.func 16), args := #[Operand.tmp 34], argTypes := #[30] }, type := 3, pos := "law.go:96", after := #[{ on := 0, ground := Ground.data }], guard := none }) rfl (fun K hK => ?_) (AllReadyH.nil)
    try simp only [List.getElem_toArray, List.getElem_cons_succ, List.getElem_cons_zero]
    go_simp
    refine (HNum.out _ _).mono ?_
    rintro e z7 ⟨rfl, rfl⟩
    refine hK.out _ _ hHeld (fun hHeld => ?_)
    clear hK K
    try simp only [Act.put, List.setIfInBounds_toArray, List.set_cons_zero, List.set_cons_succ]
    refine wpAnyH_ready (rs := [3]) (by kernel_rfl) (by simp) ?_
    refine AllReadyH.cons (o := { dst := some 37, op := Op.call { callee := Callee.value (Operand.func 16), args := #[Operand.tmp 36], argTypes := #[30] }, type := 3, pos := "law.go:96", after := #[{ on := 2, ground := Ground.data }, { on := 1, ground := Ground.chain }], guard := none }) rfl (fun K hK => ?_) (AllReadyH.nil)
    try simp only [List.getElem_toArray, List.getElem_cons_succ, List.getElem_cons_zero]
    go_simp
    refine (HNum.out _ _).mono ?_
    rintro e z8 ⟨rfl, rfl⟩
    refine hK.out _ _ hHeld (fun hHeld => ?_)
    clear hK K
    try simp only [Act.put, List.setIfInBounds_toArray, List.set_cons_zero, List.set_cons_succ]
    refine' wpAnyH_take (i := 4) (oi := { dst := some 38, op := Op.binOp BinOp.add 3 (Operand.tmp 35) (Operand.tmp 37) 3, type := 3, pos := "law.go:96", after := #[{ on := 1, ground := Ground.data }, { on := 3, ground := Ground.data }], guard := none }) (v := ?v202003) rfl (by kernel_rfl) (by kernel_rfl) (by kernel_rfl) (fun _ _ _ h => h) (.inl ⟨by first | rfl | simp [Region.wanted, yielded], ?hy202003⟩) (by assumption) ?rest202003
    case hy202003 => (intro W hW; obtain ⟨⟨⟨f1, f2, f3⟩, ⟨f4, f5, f6⟩⟩, f7, f8⟩ := HCP.out _ hW; go_simp; try with_reducible rfl)
    simp only [Act.put, List.setIfInBounds_toArray, List.set_cons_zero, List.set_cons_succ]
    refine' wpAnyH_take (i := 5) (oi := { dst := some 39, op := Op.binOp BinOp.eql 3 (Operand.tmp 38) (Operand.const (Value.int IntKind.i64 0)) 3, type := 4, pos := "law.go:96", after := #[{ on := 4, ground := Ground.data }], guard := none }) (v := ?v202004) rfl (by kernel_rfl) (by kernel_rfl) (by kernel_rfl) (fun _ _ _ h => h) (.inl ⟨by first | rfl | simp [Region.wanted, yielded], ?hy202004⟩) (by assumption) ?rest202004
    case hy202004 => (intro W hW; obtain ⟨⟨⟨f1, f2, f3⟩, ⟨f4, f5, f6⟩⟩, f7, f8⟩ := HCP.out _ hW; go_simp; try with_reducible rfl)
    simp only [Act.put, List.setIfInBounds_toArray, List.set_cons_zero, List.set_cons_succ]
    refine' wpAnyH_take (i := 6) (oi := { dst := some 40, op := Op.move (Operand.tmp 39), type := 4, pos := "law.go:96", after := #[{ on := 5, ground := Ground.data }, { on := 3, ground := Ground.chain }], guard := none }) (v := ?v202005) rfl (by kernel_rfl) (by kernel_rfl) (by kernel_rfl) (fun _ _ _ h => h) (.inl ⟨by first | rfl | simp [Region.wanted, yielded], ?hy202005⟩) (by assumption) ?rest202005
    case hy202005 => (intro W hW; obtain ⟨⟨⟨f1, f2, f3⟩, ⟨f4, f5, f6⟩⟩, f7, f8⟩ := HCP.out _ hW; go_simp; try with_reducible rfl)
    simp only [Act.put, List.setIfInBounds_toArray, List.set_cons_zero, List.set_cons_succ]
    refine' wpAnyH_take (i := 7) (oi := { dst := some 41, op := Op.move (Operand.tmp 7), type := 9, pos := "law.go:96", after := #[{ on := 6, ground := Ground.guard }], guard := some (6, true) }) (v := ?v202006) rfl (by kernel_rfl) (by kernel_rfl) (by kernel_rfl) (fun _ _ _ h => h) (.inl ⟨by first | rfl | simp [Region.wanted, yielded], ?hy202006⟩) (by assumption) ?rest202006
    case hy202006 => (intro W hW; obtain ⟨⟨⟨f1, f2, f3⟩, ⟨f4, f5, f6⟩⟩, f7, f8⟩ := HCP.out _ hW; go_simp; try with_reducible rfl)
    simp only [Act.put, List.setIfInBounds_toArray, List.set_cons_zero, List.set_cons_succ]
    refine' wpAnyH_take (i := 9) (oi := { dst := some 43, op := Op.load 25 (Operand.tmp 5), type := 25, pos := "law.go:96", after := #[{ on := 6, ground := Ground.guard }], guard := some (6, true) }) (v := ?v202007) rfl (by kernel_rfl) (by kernel_rfl) (by kernel_rfl) (fun _ _ _ h => h) (.inl ⟨by first | rfl | simp [Region.wanted, yielded], ?hy202007⟩) (by assumption) ?rest202007
    case hy202007 => (intro W hW; obtain ⟨⟨⟨f1, f2, f3⟩, ⟨f4, f5, f6⟩⟩, f7, f8⟩ := HCP.out _ hW; go_simp; try with_reducible rfl)
    simp only [Act.put, List.setIfInBounds_toArray, List.set_cons_zero, List.set_cons_succ]
    refine wpAnyH_ready (rs := [8]) (by kernel_rfl) (by simp) ?_
    refine AllReadyH.cons (o := { dst := some 42, op := Op.call { callee := Callee.value (Operand.func 8), args := #[Operand.tmp 41], argTypes := #[9] }, type := 25, pos := "law.go:96", after := #[{ on := 7, ground := Ground.data }, { on := 6, ground := Ground.chain }, { on := 6, ground := Ground.guard }], guard := some (6, true) }) rfl (fun K hK => ?_) (AllReadyH.nil)
    try simp only [List.getElem_toArray, List.getElem_cons_succ, List.getElem_cons_zero]
    go_simp
    refine (HE.out _).mono ?_
    rintro e z9 ⟨rfl, hz9⟩
    have HB9 := hHeld.trans (hz9.mono hHeld.size)
    refine hK.out _ _ HB9 (fun hHeld => ?_)
    clear hK K
    try simp only [Act.put, List.setIfInBounds_toArray, List.set_cons_zero, List.set_cons_succ]
    refine' wpAnyH_take (i := 10) (oi := { dst := some 44, op := Op.binOp BinOp.eql 25 (Operand.tmp 42) (Operand.tmp 43) 25, type := 4, pos := "law.go:96", after := #[{ on := 8, ground := Ground.data }, { on := 9, ground := Ground.data }, { on := 6, ground := Ground.guard }], guard := some (6, true) }) (v := ?v202008) rfl (by kernel_rfl) (by kernel_rfl) (by kernel_rfl) (fun _ _ _ h => h) (.inl ⟨by first | rfl | simp [Region.wanted, yielded], ?hy202008⟩) (by assumption) ?rest202008
    case hy202008 => (intro W hW; obtain ⟨⟨⟨f1, f2, f3⟩, ⟨f4, f5, f6⟩⟩, f7, f8⟩ := HCP.out _ hW; go_simp; try with_reducible rfl)
    simp only [Act.put, List.setIfInBounds_toArray, List.set_cons_zero, List.set_cons_succ]
    refine' wpAnyH_take (i := 11) (oi := { dst := some 45, op := Op.pick (Operand.tmp 40) (Operand.tmp 44) (Operand.const (Value.bool false)), type := 4, pos := "law.go:96", after := #[{ on := 6, ground := Ground.data }, { on := 10, ground := Ground.data }], guard := none }) (v := ?v202009) rfl (by kernel_rfl) (by kernel_rfl) (by kernel_rfl) (fun _ _ _ h => h) (.inl ⟨by first | rfl | simp [Region.wanted, yielded], ?hy202009⟩) (by assumption) ?rest202009
    case hy202009 => (intro W hW; obtain ⟨⟨⟨f1, f2, f3⟩, ⟨f4, f5, f6⟩⟩, f7, f8⟩ := HCP.out _ hW; go_simp; try with_reducible rfl)
    simp only [Act.put, List.setIfInBounds_toArray, List.set_cons_zero, List.set_cons_succ]
    refine' wpAnyH_take (i := 12) (oi := { dst := some 46, op := Op.move (Operand.tmp 45), type := 4, pos := "law.go:96", after := #[{ on := 11, ground := Ground.data }, { on := 8, ground := Ground.chain }], guard := none }) (v := ?v202010) rfl (by kernel_rfl) (by kernel_rfl) (by kernel_rfl) (fun _ _ _ h => h) (.inl ⟨by first | rfl | simp [Region.wanted, yielded], ?hy202010⟩) (by assumption) ?rest202010
    case hy202010 => (intro W hW; obtain ⟨⟨⟨f1, f2, f3⟩, ⟨f4, f5, f6⟩⟩, f7, f8⟩ := HCP.out _ hW; go_simp; try with_reducible rfl)
    simp only [Act.put, List.setIfInBounds_toArray, List.set_cons_zero, List.set_cons_succ]
    refine' wpAnyH_take (i := 13) (oi := { dst := some 47, op := Op.move (Operand.tmp 9), type := 9, pos := "law.go:96", after := #[{ on := 12, ground := Ground.guard }], guard := some (12, true) }) (v := ?v202011) rfl (by kernel_rfl) (by kernel_rfl) (by kernel_rfl) (fun _ _ _ h => h) (.inl ⟨by first | rfl | simp [Region.wanted, yielded], ?hy202011⟩) (by assumption) ?rest202011
    case hy202011 => (intro W hW; obtain ⟨⟨⟨f1, f2, f3⟩, ⟨f4, f5, f6⟩⟩, f7, f8⟩ := HCP.out _ hW; go_simp; try with_reducible rfl)
    simp only [Act.put, List.setIfInBounds_toArray, List.set_cons_zero, List.set_cons_succ]
    refine' wpAnyH_take (i := 15) (oi := { dst := some 49, op := Op.load 25 (Operand.tmp 6), type := 25, pos := "law.go:96", after := #[{ on := 12, ground := Ground.guard }], guard := some (12, true) }) (v := ?v202012) rfl (by kernel_rfl) (by kernel_rfl) (by kernel_rfl) (fun _ _ _ h => h) (.inl ⟨by first | rfl | simp [Region.wanted, yielded], ?hy202012⟩) (by assumption) ?rest202012
    case hy202012 => (intro W hW; obtain ⟨⟨⟨f1, f2, f3⟩, ⟨f4, f5, f6⟩⟩, f7, f8⟩ := HCP.out _ hW; go_simp; try with_reducible rfl)
    simp only [Act.put, List.setIfInBounds_toArray, List.set_cons_zero, List.set_cons_succ]
    refine wpAnyH_ready (rs := [14]) (by kernel_rfl) (by simp) ?_
    refine AllReadyH.cons (o := { dst := some 48, op := Op.call { callee := Callee.value (Operand.func 8), args := #[Operand.tmp 47], argTypes := #[9] }, type := 25, pos := "law.go:96", after := #[{ on := 13, ground := Ground.data }, { on := 12, ground := Ground.chain }, { on := 12, ground := Ground.guard }], guard := some (12, true) }) rfl (fun K hK => ?_) (AllReadyH.nil)
    try simp only [List.getElem_toArray, List.getElem_cons_succ, List.getElem_cons_zero]
    go_simp
    refine (HF.out _).mono ?_
    rintro e z10 ⟨rfl, hz10⟩
    have HB10 := hHeld.trans (hz10.mono hHeld.size)
    refine hK.out _ _ HB10 (fun hHeld => ?_)
    clear hK K
    try simp only [Act.put, List.setIfInBounds_toArray, List.set_cons_zero, List.set_cons_succ]
    refine' wpAnyH_take (i := 16) (oi := { dst := some 50, op := Op.binOp BinOp.eql 25 (Operand.tmp 48) (Operand.tmp 49) 25, type := 4, pos := "law.go:96", after := #[{ on := 14, ground := Ground.data }, { on := 15, ground := Ground.data }, { on := 12, ground := Ground.guard }], guard := some (12, true) }) (v := ?v202013) rfl (by kernel_rfl) (by kernel_rfl) (by kernel_rfl) (fun _ _ _ h => h) (.inl ⟨by first | rfl | simp [Region.wanted, yielded], ?hy202013⟩) (by assumption) ?rest202013
    case hy202013 => (intro W hW; obtain ⟨⟨⟨f1, f2, f3⟩, ⟨f4, f5, f6⟩⟩, f7, f8⟩ := HCP.out _ hW; go_simp; try with_reducible rfl)
    simp only [Act.put, List.setIfInBounds_toArray, List.set_cons_zero, List.set_cons_succ]
    refine' wpAnyH_take (i := 17) (oi := { dst := some 51, op := Op.pick (Operand.tmp 46) (Operand.tmp 50) (Operand.const (Value.bool false)), type := 4, pos := "law.go:96", after := #[{ on := 12, ground := Ground.data }, { on := 16, ground := Ground.data }], guard := none }) (v := ?v202014) rfl (by kernel_rfl) (by kernel_rfl) (by kernel_rfl) (fun _ _ _ h => h) (.inl ⟨by first | rfl | simp [Region.wanted, yielded], ?hy202014⟩) (by assumption) ?rest202014
    case hy202014 => (intro W hW; obtain ⟨⟨⟨f1, f2, f3⟩, ⟨f4, f5, f6⟩⟩, f7, f8⟩ := HCP.out _ hW; go_simp; try with_reducible rfl)
    simp only [Act.put, List.setIfInBounds_toArray, List.set_cons_zero, List.set_cons_succ]
    refine' wpAnyH_take (i := 18) (oi := { dst := some 52, op := Op.move (Operand.tmp 51), type := 4, pos := "law.go:96", after := #[{ on := 17, ground := Ground.data }, { on := 14, ground := Ground.chain }], guard := none }) (v := ?v202015) rfl (by kernel_rfl) (by kernel_rfl) (by kernel_rfl) (fun _ _ _ h => h) (.inl ⟨by first | rfl | simp [Region.wanted, yielded], ?hy202015⟩) (by assumption) ?rest202015
    case hy202015 => (intro W hW; obtain ⟨⟨⟨f1, f2, f3⟩, ⟨f4, f5, f6⟩⟩, f7, f8⟩ := HCP.out _ hW; go_simp; try with_reducible rfl)
    simp only [Act.put, List.setIfInBounds_toArray, List.set_cons_zero, List.set_cons_succ]
    refine' wpAnyH_take (i := 19) (oi := { dst := some 53, op := Op.load 25 (Operand.tmp 5), type := 25, pos := "law.go:96", after := #[{ on := 18, ground := Ground.guard }], guard := some (18, true) }) (v := ?v202016) rfl (by kernel_rfl) (by kernel_rfl) (by kernel_rfl) (fun _ _ _ h => h) (.inl ⟨by first | rfl | simp [Region.wanted, yielded], ?hy202016⟩) (by assumption) ?rest202016
    case hy202016 => (intro W hW; obtain ⟨⟨⟨f1, f2, f3⟩, ⟨f4, f5, f6⟩⟩, f7, f8⟩ := HCP.out _ hW; go_simp; try with_reducible rfl)
    simp only [Act.put, List.setIfInBounds_toArray, List.set_cons_zero, List.set_cons_succ]
    refine' wpAnyH_take (i := 20) (oi := { dst := some 54, op := Op.load 25 (Operand.tmp 6), type := 25, pos := "law.go:96", after := #[{ on := 18, ground := Ground.guard }], guard := some (18, true) }) (v := ?v202017) rfl (by kernel_rfl) (by kernel_rfl) (by kernel_rfl) (fun _ _ _ h => h) (.inl ⟨by first | rfl | simp [Region.wanted, yielded], ?hy202017⟩) (by assumption) ?rest202017
    case hy202017 => (intro W hW; obtain ⟨⟨⟨f1, f2, f3⟩, ⟨f4, f5, f6⟩⟩, f7, f8⟩ := HCP.out _ hW; go_simp; try with_reducible rfl)
    simp only [Act.put, List.setIfInBounds_toArray, List.set_cons_zero, List.set_cons_succ]
    refine' wpAnyH_take (i := 21) (oi := { dst := some 55, op := Op.binOp BinOp.eql 25 (Operand.tmp 53) (Operand.tmp 54) 25, type := 4, pos := "law.go:96", after := #[{ on := 19, ground := Ground.data }, { on := 20, ground := Ground.data }, { on := 18, ground := Ground.guard }], guard := some (18, true) }) (v := ?v202018) rfl (by kernel_rfl) (by kernel_rfl) (by kernel_rfl) (fun _ _ _ h => h) (.inl ⟨by first | rfl | simp [Region.wanted, yielded], ?hy202018⟩) (by assumption) ?rest202018
    case hy202018 => (intro W hW; obtain ⟨⟨⟨f1, f2, f3⟩, ⟨f4, f5, f6⟩⟩, f7, f8⟩ := HCP.out _ hW; go_simp; try with_reducible rfl)
    simp only [Act.put, List.setIfInBounds_toArray, List.set_cons_zero, List.set_cons_succ]
    refine' wpAnyH_take (i := 22) (oi := { dst := some 56, op := Op.move (Operand.tmp 7), type := 9, pos := "law.go:96", after := #[{ on := 18, ground := Ground.guard }], guard := some (18, true) }) (v := ?v202019) rfl (by kernel_rfl) (by kernel_rfl) (by kernel_rfl) (fun _ _ _ h => h) (.inl ⟨by first | rfl | simp [Region.wanted, yielded], ?hy202019⟩) (by assumption) ?rest202019
    case hy202019 => (intro W hW; obtain ⟨⟨⟨f1, f2, f3⟩, ⟨f4, f5, f6⟩⟩, f7, f8⟩ := HCP.out _ hW; go_simp; try with_reducible rfl)
    simp only [Act.put, List.setIfInBounds_toArray, List.set_cons_zero, List.set_cons_succ]
    refine' wpAnyH_take (i := 23) (oi := { dst := some 57, op := Op.move (Operand.tmp 9), type := 9, pos := "law.go:96", after := #[{ on := 18, ground := Ground.guard }], guard := some (18, true) }) (v := ?v202020) rfl (by kernel_rfl) (by kernel_rfl) (by kernel_rfl) (fun _ _ _ h => h) (.inl ⟨by first | rfl | simp [Region.wanted, yielded], ?hy202020⟩) (by assumption) ?rest202020
    case hy202020 => (intro W hW; obtain ⟨⟨⟨f1, f2, f3⟩, ⟨f4, f5, f6⟩⟩, f7, f8⟩ := HCP.out _ hW; go_simp; try with_reducible rfl)
    simp only [Act.put, List.setIfInBounds_toArray, List.set_cons_zero, List.set_cons_succ]
    refine' wpAnyH_take (i := 24) (oi := { dst := some 58, op := Op.binOp BinOp.eql 9 (Operand.tmp 56) (Operand.tmp 57) 9, type := 4, pos := "law.go:96", after := #[{ on := 22, ground := Ground.data }, { on := 23, ground := Ground.data }, { on := 18, ground := Ground.guard }], guard := some (18, true) }) (v := ?v202021) rfl (by kernel_rfl) (by kernel_rfl) (by kernel_rfl) (fun _ _ _ h => h) (.inl ⟨by first | rfl | simp [Region.wanted, yielded], ?hy202021⟩) (by assumption) ?rest202021
    case hy202021 => (intro W hW; obtain ⟨⟨⟨f1, f2, f3⟩, ⟨f4, f5, f6⟩⟩, f7, f8⟩ := HCP.out _ hW; go_simp; try with_reducible rfl)
    simp only [Act.put, List.setIfInBounds_toArray, List.set_cons_zero, List.set_cons_succ]
    refine' wpAnyH_take (i := 25) (oi := { dst := some 59, op := Op.binOp BinOp.eql 4 (Operand.tmp 55) (Operand.tmp 58) 4, type := 4, pos := "law.go:96", after := #[{ on := 21, ground := Ground.data }, { on := 24, ground := Ground.data }, { on := 18, ground := Ground.guard }], guard := some (18, true) }) (v := ?v202022) rfl (by kernel_rfl) (by kernel_rfl) (by kernel_rfl) (fun _ _ _ h => h) (.inl ⟨by first | rfl | simp [Region.wanted, yielded], ?hy202022⟩) (by assumption) ?rest202022
    case hy202022 => (intro W hW; obtain ⟨⟨⟨f1, f2, f3⟩, ⟨f4, f5, f6⟩⟩, f7, f8⟩ := HCP.out _ hW; go_simp; try with_reducible rfl)
    simp only [Act.put, List.setIfInBounds_toArray, List.set_cons_zero, List.set_cons_succ]
    refine' wpAnyH_take (i := 26) (oi := { dst := some 60, op := Op.pick (Operand.tmp 52) (Operand.tmp 59) (Operand.const (Value.bool false)), type := 4, pos := "law.go:96", after := #[{ on := 18, ground := Ground.data }, { on := 25, ground := Ground.data }], guard := none }) (v := ?v202023) rfl (by kernel_rfl) (by kernel_rfl) (by kernel_rfl) (fun _ _ _ h => h) (.inl ⟨by first | rfl | simp [Region.wanted, yielded], ?hy202023⟩) (by assumption) ?rest202023
    case hy202023 => (intro W hW; obtain ⟨⟨⟨f1, f2, f3⟩, ⟨f4, f5, f6⟩⟩, f7, f8⟩ := HCP.out _ hW; go_simp; try with_reducible rfl)
    simp only [Act.put, List.setIfInBounds_toArray, List.set_cons_zero, List.set_cons_succ]
    refine' wpAnyH_take (i := 27) (oi := { dst := some 61, op := Op.move (Operand.tmp 60), type := 4, pos := "law.go:96", after := #[{ on := 26, ground := Ground.data }, { on := 18, ground := Ground.chain }], guard := none }) (v := ?v202024) rfl (by kernel_rfl) (by kernel_rfl) (by kernel_rfl) (fun _ _ _ h => h) (.inl ⟨by first | rfl | simp [Region.wanted, yielded], ?hy202024⟩) (by assumption) ?rest202024
    case hy202024 => (intro W hW; obtain ⟨⟨⟨f1, f2, f3⟩, ⟨f4, f5, f6⟩⟩, f7, f8⟩ := HCP.out _ hW; go_simp; try with_reducible rfl)
    simp only [Act.put, List.setIfInBounds_toArray, List.set_cons_zero, List.set_cons_succ]
    refine' wpAnyH_take (i := 28) (oi := { dst := some 62, op := Op.move (Operand.tmp 0), type := 9, pos := "law.go:96", after := #[{ on := 27, ground := Ground.guard }], guard := some (27, true) }) (v := ?v202025) rfl (by kernel_rfl) (by kernel_rfl) (by kernel_rfl) (fun _ _ _ h => h) (.inl ⟨by first | rfl | simp [Region.wanted, yielded], ?hy202025⟩) (by assumption) ?rest202025
    case hy202025 => (intro W hW; obtain ⟨⟨⟨f1, f2, f3⟩, ⟨f4, f5, f6⟩⟩, f7, f8⟩ := HCP.out _ hW; go_simp; try with_reducible rfl)
    simp only [Act.put, List.setIfInBounds_toArray, List.set_cons_zero, List.set_cons_succ]
    refine' wpAnyH_take (i := 29) (oi := { dst := some 63, op := Op.move (Operand.tmp 1), type := 9, pos := "law.go:96", after := #[{ on := 27, ground := Ground.guard }], guard := some (27, true) }) (v := ?v202026) rfl (by kernel_rfl) (by kernel_rfl) (by kernel_rfl) (fun _ _ _ h => h) (.inl ⟨by first | rfl | simp [Region.wanted, yielded], ?hy202026⟩) (by assumption) ?rest202026
    case hy202026 => (intro W hW; obtain ⟨⟨⟨f1, f2, f3⟩, ⟨f4, f5, f6⟩⟩, f7, f8⟩ := HCP.out _ hW; go_simp; try with_reducible rfl)
    simp only [Act.put, List.setIfInBounds_toArray, List.set_cons_zero, List.set_cons_succ]
    refine' wpAnyH_take (i := 30) (oi := { dst := some 64, op := Op.binOp BinOp.neq 9 (Operand.tmp 62) (Operand.tmp 63) 9, type := 4, pos := "law.go:96", after := #[{ on := 28, ground := Ground.data }, { on := 29, ground := Ground.data }, { on := 27, ground := Ground.guard }], guard := some (27, true) }) (v := ?v202027) rfl (by kernel_rfl) (by kernel_rfl) (by kernel_rfl) (fun _ _ _ h => h) (.inl ⟨by first | rfl | simp [Region.wanted, yielded], ?hy202027⟩) (by assumption) ?rest202027
    case hy202027 => (intro W hW; obtain ⟨⟨⟨f1, f2, f3⟩, ⟨f4, f5, f6⟩⟩, f7, f8⟩ := HCP.out _ hW; go_simp; try with_reducible rfl)
    simp only [Act.put, List.setIfInBounds_toArray, List.set_cons_zero, List.set_cons_succ]
    refine' wpAnyH_take (i := 31) (oi := { dst := some 65, op := Op.move (Operand.tmp 64), type := 4, pos := "law.go:96", after := #[{ on := 30, ground := Ground.data }, { on := 27, ground := Ground.chain }, { on := 27, ground := Ground.guard }], guard := some (27, true) }) (v := ?v202028) rfl (by kernel_rfl) (by kernel_rfl) (by kernel_rfl) (fun _ _ _ h => h) (.inl ⟨by first | rfl | simp [Region.wanted, yielded], ?hy202028⟩) (by assumption) ?rest202028
    case hy202028 => (intro W hW; obtain ⟨⟨⟨f1, f2, f3⟩, ⟨f4, f5, f6⟩⟩, f7, f8⟩ := HCP.out _ hW; go_simp; try with_reducible rfl)
    simp only [Act.put, List.setIfInBounds_toArray, List.set_cons_zero, List.set_cons_succ]
    refine' wpAnyH_take (i := 32) (oi := { dst := some 66, op := Op.load 25 (Operand.tmp 5), type := 25, pos := "law.go:96", after := #[{ on := 31, ground := Ground.guard }], guard := some (31, false) }) (v := ?v202029) rfl (by kernel_rfl) (by kernel_rfl) (by kernel_rfl) (fun _ _ _ h => h) (.inl ⟨by first | rfl | simp [Region.wanted, yielded], ?hy202029⟩) (by assumption) ?rest202029
    case hy202029 => (intro W hW; obtain ⟨⟨⟨f1, f2, f3⟩, ⟨f4, f5, f6⟩⟩, f7, f8⟩ := HCP.out _ hW; go_simp; try with_reducible rfl)
    simp only [Act.put, List.setIfInBounds_toArray, List.set_cons_zero, List.set_cons_succ]
    refine' wpAnyH_take (i := 33) (oi := { dst := some 67, op := Op.load 25 (Operand.tmp 6), type := 25, pos := "law.go:96", after := #[{ on := 31, ground := Ground.guard }], guard := some (31, false) }) (v := ?v202030) rfl (by kernel_rfl) (by kernel_rfl) (by kernel_rfl) (fun _ _ _ h => h) (.inl ⟨by first | rfl | simp [Region.wanted, yielded], ?hy202030⟩) (by assumption) ?rest202030
    case hy202030 => (intro W hW; obtain ⟨⟨⟨f1, f2, f3⟩, ⟨f4, f5, f6⟩⟩, f7, f8⟩ := HCP.out _ hW; go_simp; try with_reducible rfl)
    simp only [Act.put, List.setIfInBounds_toArray, List.set_cons_zero, List.set_cons_succ]
    refine' wpAnyH_take (i := 34) (oi := { dst := some 68, op := Op.binOp BinOp.eql 25 (Operand.tmp 66) (Operand.tmp 67) 25, type := 4, pos := "law.go:96", after := #[{ on := 32, ground := Ground.data }, { on := 33, ground := Ground.data }, { on := 31, ground := Ground.guard }], guard := some (31, false) }) (v := ?v202031) rfl (by kernel_rfl) (by kernel_rfl) (by kernel_rfl) (fun _ _ _ h => h) (.inl ⟨by first | rfl | simp [Region.wanted, yielded], ?hy202031⟩) (by assumption) ?rest202031
    case hy202031 => (intro W hW; obtain ⟨⟨⟨f1, f2, f3⟩, ⟨f4, f5, f6⟩⟩, f7, f8⟩ := HCP.out _ hW; go_simp; try with_reducible rfl)
    simp only [Act.put, List.setIfInBounds_toArray, List.set_cons_zero, List.set_cons_succ]
    refine' wpAnyH_take (i := 35) (oi := { dst := some 69, op := Op.pick (Operand.tmp 65) (Operand.const (Value.bool true)) (Operand.tmp 68), type := 4, pos := "law.go:96", after := #[{ on := 31, ground := Ground.data }, { on := 34, ground := Ground.data }, { on := 27, ground := Ground.guard }], guard := some (27, true) }) (v := ?v202032) rfl (by kernel_rfl) (by kernel_rfl) (by kernel_rfl) (fun _ _ _ h => h) (.inl ⟨by first | rfl | simp [Region.wanted, yielded], ?hy202032⟩) (by assumption) ?rest202032
    case hy202032 => (intro W hW; obtain ⟨⟨⟨f1, f2, f3⟩, ⟨f4, f5, f6⟩⟩, f7, f8⟩ := HCP.out _ hW; go_simp; try with_reducible rfl)
    simp only [Act.put, List.setIfInBounds_toArray, List.set_cons_zero, List.set_cons_succ]
    refine' wpAnyH_take (i := 36) (oi := { dst := some 70, op := Op.pick (Operand.tmp 61) (Operand.tmp 69) (Operand.const (Value.bool false)), type := 4, pos := "law.go:96", after := #[{ on := 27, ground := Ground.data }, { on := 35, ground := Ground.data }], guard := none }) (v := ?v202033) rfl (by kernel_rfl) (by kernel_rfl) (by kernel_rfl) (fun _ _ _ h => h) (.inl ⟨by first | rfl | simp [Region.wanted, yielded], ?hy202033⟩) (by assumption) ?rest202033
    case hy202033 => (intro W hW; obtain ⟨⟨⟨f1, f2, f3⟩, ⟨f4, f5, f6⟩⟩, f7, f8⟩ := HCP.out _ hW; go_simp; try with_reducible rfl)
    simp only [Act.put, List.setIfInBounds_toArray, List.set_cons_zero, List.set_cons_succ]
    refine' wpAnyH_take (i := 37) (oi := { dst := some 71, op := Op.move (Operand.tmp 70), type := 4, pos := "law.go:96", after := #[{ on := 36, ground := Ground.data }, { on := 31, ground := Ground.chain }], guard := none }) (v := ?v202034) rfl (by kernel_rfl) (by kernel_rfl) (by kernel_rfl) (fun _ _ _ h => h) (.inl ⟨by first | rfl | simp [Region.wanted, yielded], ?hy202034⟩) (by assumption) ?rest202034
    case hy202034 => (intro W hW; obtain ⟨⟨⟨f1, f2, f3⟩, ⟨f4, f5, f6⟩⟩, f7, f8⟩ := HCP.out _ hW; go_simp; try with_reducible rfl)
    simp only [Act.put, List.setIfInBounds_toArray, List.set_cons_zero, List.set_cons_succ]
    refine wpAnyH_ready (rs := [38]) (by kernel_rfl) (by simp) ?_
    refine AllReadyH.cons (o := { dst := some 72, op := Op.call { callee := Callee.value (Operand.func 7), args := #[], argTypes := #[] }, type := 4, pos := "law.go:96", after := #[{ on := 37, ground := Ground.chain }, { on := 37, ground := Ground.guard }], guard := some (37, true) }) rfl (fun K hK => ?_) (AllReadyH.nil)
    try simp only [List.getElem_toArray, List.getElem_cons_succ, List.getElem_cons_zero]
    go_simp
    refine (HWk.out _).mono ?_
    rintro e z11 ⟨rfl, hz11⟩
    have HB11 := hHeld.trans (hz11.mono hHeld.size)
    refine hK.out _ _ HB11 (fun hHeld => ?_)
    clear hK K
    try simp only [Act.put, List.setIfInBounds_toArray, List.set_cons_zero, List.set_cons_succ]
    refine' wpAnyH_take (i := 39) (oi := { dst := some 73, op := Op.pick (Operand.tmp 71) (Operand.tmp 72) (Operand.const (Value.bool false)), type := 4, pos := "law.go:96", after := #[{ on := 37, ground := Ground.data }, { on := 38, ground := Ground.data }], guard := none }) (v := ?v202035) rfl (by kernel_rfl) (by kernel_rfl) (by kernel_rfl) (fun _ _ _ h => h) (.inl ⟨by first | rfl | simp [Region.wanted, yielded], ?hy202035⟩) (by assumption) ?rest202035
    case hy202035 => (intro W hW; obtain ⟨⟨⟨f1, f2, f3⟩, ⟨f4, f5, f6⟩⟩, f7, f8⟩ := HCP.out _ hW; go_simp; try with_reducible rfl)
    simp only [Act.put, List.setIfInBounds_toArray, List.set_cons_zero, List.set_cons_succ]
    refine' wpAnyH_take (i := 40) (oi := { dst := some 4, op := Op.assign (Operand.tmp 73), type := 4, pos := "law.go:96", after := #[{ on := 39, ground := Ground.data }, { on := 38, ground := Ground.chain }, { on := 0, ground := Ground.phase }, { on := 1, ground := Ground.phase }, { on := 2, ground := Ground.phase }, { on := 3, ground := Ground.phase }, { on := 4, ground := Ground.phase }, { on := 5, ground := Ground.phase }, { on := 6, ground := Ground.phase }, { on := 7, ground := Ground.phase }, { on := 8, ground := Ground.phase }, { on := 9, ground := Ground.phase }, { on := 10, ground := Ground.phase }, { on := 11, ground := Ground.phase }, { on := 12, ground := Ground.phase }, { on := 13, ground := Ground.phase }, { on := 14, ground := Ground.phase }, { on := 15, ground := Ground.phase }, { on := 16, ground := Ground.phase }, { on := 17, ground := Ground.phase }, { on := 18, ground := Ground.phase }, { on := 19, ground := Ground.phase }, { on := 20, ground := Ground.phase }, { on := 21, ground := Ground.phase }, { on := 22, ground := Ground.phase }, { on := 23, ground := Ground.phase }, { on := 24, ground := Ground.phase }, { on := 25, ground := Ground.phase }, { on := 26, ground := Ground.phase }, { on := 27, ground := Ground.phase }, { on := 28, ground := Ground.phase }, { on := 29, ground := Ground.phase }, { on := 30, ground := Ground.phase }, { on := 31, ground := Ground.phase }, { on := 32, ground := Ground.phase }, { on := 33, ground := Ground.phase }, { on := 34, ground := Ground.phase }, { on := 35, ground := Ground.phase }, { on := 36, ground := Ground.phase }, { on := 37, ground := Ground.phase }, { on := 38, ground := Ground.phase }, { on := 39, ground := Ground.phase }], guard := none }) (v := ?v202036) rfl (by kernel_rfl) (by kernel_rfl) (by kernel_rfl) (fun _ _ _ h => h) (.inl ⟨by first | rfl | simp [Region.wanted, yielded], ?hy202036⟩) (by assumption) ?rest202036
    case hy202036 => (intro W hW; obtain ⟨⟨⟨f1, f2, f3⟩, ⟨f4, f5, f6⟩⟩, f7, f8⟩ := HCP.out _ hW; go_simp; try with_reducible rfl)
    simp only [Act.put, List.setIfInBounds_toArray, List.set_cons_zero, List.set_cons_succ]
    refine wpAnyH_done (by kernel_rfl) ?_ _
    have HBe := Lib.hid (B1.out.trans (hHeld.mono B1.out.size))
    go_wp2
    go_ret
    exact ⟨rfl, HBe.out⟩
  | false =>
    simp only [Bool.not_false] at qs
    have qp : ¬ s.toList = t.toList := by simpa using qs2
    cases b with
    | true =>
      refine wp_region_held_drew (S := fun W => Below u1.heap.size u1 W) (by kernel_rfl) (HBz.out.trans ((Below.drewN' y4 1).mono HBz.out.size)) (fun hHeld => ?_)
      generalize y4.drew = wd at hHeld ⊢
      refine' wpAnyH_take (i := 0) (oi := { dst := some 34, op := Op.move (Operand.tmp 8), type := 30, pos := "law.go:96", after := #[], guard := none }) (v := ?v203001) rfl (by kernel_rfl) (by kernel_rfl) (by kernel_rfl) (fun _ _ _ h => h) (.inl ⟨by first | rfl | simp [Region.wanted, yielded], ?hy203001⟩) (by assumption) ?rest203001
      case hy203001 => (intro W hW; obtain ⟨⟨⟨f1, f2, f3⟩, ⟨f4, f5, f6⟩⟩, f7, f8⟩ := HCP.out _ hW; go_simp; try with_reducible rfl)
      simp only [Act.put, List.setIfInBounds_toArray, List.set_cons_zero, List.set_cons_succ]
      refine' wpAnyH_take (i := 2) (oi := { dst := some 36, op := Op.move (Operand.tmp 10), type := 30, pos := "law.go:96", after := #[], guard := none }) (v := ?v203002) rfl (by kernel_rfl) (by kernel_rfl) (by kernel_rfl) (fun _ _ _ h => h) (.inl ⟨by first | rfl | simp [Region.wanted, yielded], ?hy203002⟩) (by assumption) ?rest203002
      case hy203002 => (intro W hW; obtain ⟨⟨⟨f1, f2, f3⟩, ⟨f4, f5, f6⟩⟩, f7, f8⟩ := HCP.out _ hW; go_simp; try with_reducible rfl)
      simp only [Act.put, List.setIfInBounds_toArray, List.set_cons_zero, List.set_cons_succ]
      refine wpAnyH_ready (rs := [1]) (by kernel_rfl) (by simp) ?_
      refine AllReadyH.cons (o := { dst := some 35, op := Op.call { callee := Callee.value (Operand.func 16), args := #[Operand.tmp 34], argTypes := #[30] }, type := 3, pos := "law.go:96", after := #[{ on := 0, ground := Ground.data }], guard := none }) rfl (fun K hK => ?_) (AllReadyH.nil)
      try simp only [List.getElem_toArray, List.getElem_cons_succ, List.getElem_cons_zero]
      go_simp
      refine (HNum.out _ _).mono ?_
      rintro e z12 ⟨rfl, rfl⟩
      refine hK.out _ _ hHeld (fun hHeld => ?_)
      clear hK K
      try simp only [Act.put, List.setIfInBounds_toArray, List.set_cons_zero, List.set_cons_succ]
      refine wpAnyH_ready (rs := [3]) (by kernel_rfl) (by simp) ?_
      refine AllReadyH.cons (o := { dst := some 37, op := Op.call { callee := Callee.value (Operand.func 16), args := #[Operand.tmp 36], argTypes := #[30] }, type := 3, pos := "law.go:96", after := #[{ on := 2, ground := Ground.data }, { on := 1, ground := Ground.chain }], guard := none }) rfl (fun K hK => ?_) (AllReadyH.nil)
      try simp only [List.getElem_toArray, List.getElem_cons_succ, List.getElem_cons_zero]
      go_simp
      refine (HNum.out _ _).mono ?_
      rintro e z13 ⟨rfl, rfl⟩
      refine hK.out _ _ hHeld (fun hHeld => ?_)
      clear hK K
      try simp only [Act.put, List.setIfInBounds_toArray, List.set_cons_zero, List.set_cons_succ]
      refine' wpAnyH_take (i := 4) (oi := { dst := some 38, op := Op.binOp BinOp.add 3 (Operand.tmp 35) (Operand.tmp 37) 3, type := 3, pos := "law.go:96", after := #[{ on := 1, ground := Ground.data }, { on := 3, ground := Ground.data }], guard := none }) (v := ?v203003) rfl (by kernel_rfl) (by kernel_rfl) (by kernel_rfl) (fun _ _ _ h => h) (.inl ⟨by first | rfl | simp [Region.wanted, yielded], ?hy203003⟩) (by assumption) ?rest203003
      case hy203003 => (intro W hW; obtain ⟨⟨⟨f1, f2, f3⟩, ⟨f4, f5, f6⟩⟩, f7, f8⟩ := HCP.out _ hW; go_simp; try with_reducible rfl)
      simp only [Act.put, List.setIfInBounds_toArray, List.set_cons_zero, List.set_cons_succ]
      refine' wpAnyH_take (i := 5) (oi := { dst := some 39, op := Op.binOp BinOp.eql 3 (Operand.tmp 38) (Operand.const (Value.int IntKind.i64 0)) 3, type := 4, pos := "law.go:96", after := #[{ on := 4, ground := Ground.data }], guard := none }) (v := ?v203004) rfl (by kernel_rfl) (by kernel_rfl) (by kernel_rfl) (fun _ _ _ h => h) (.inl ⟨by first | rfl | simp [Region.wanted, yielded], ?hy203004⟩) (by assumption) ?rest203004
      case hy203004 => (intro W hW; obtain ⟨⟨⟨f1, f2, f3⟩, ⟨f4, f5, f6⟩⟩, f7, f8⟩ := HCP.out _ hW; go_simp; try with_reducible rfl)
      simp only [Act.put, List.setIfInBounds_toArray, List.set_cons_zero, List.set_cons_succ]
      refine' wpAnyH_take (i := 6) (oi := { dst := some 40, op := Op.move (Operand.tmp 39), type := 4, pos := "law.go:96", after := #[{ on := 5, ground := Ground.data }, { on := 3, ground := Ground.chain }], guard := none }) (v := ?v203005) rfl (by kernel_rfl) (by kernel_rfl) (by kernel_rfl) (fun _ _ _ h => h) (.inl ⟨by first | rfl | simp [Region.wanted, yielded], ?hy203005⟩) (by assumption) ?rest203005
      case hy203005 => (intro W hW; obtain ⟨⟨⟨f1, f2, f3⟩, ⟨f4, f5, f6⟩⟩, f7, f8⟩ := HCP.out _ hW; go_simp; try with_reducible rfl)
      simp only [Act.put, List.setIfInBounds_toArray, List.set_cons_zero, List.set_cons_succ]
      refine' wpAnyH_take (i := 7) (oi := { dst := some 41, op := Op.move (Operand.tmp 7), type := 9, pos := "law.go:96", after := #[{ on := 6, ground := Ground.guard }], guard := some (6, true) }) (v := ?v203006) rfl (by kernel_rfl) (by kernel_rfl) (by kernel_rfl) (fun _ _ _ h => h) (.inl ⟨by first | rfl | simp [Region.wanted, yielded], ?hy203006⟩) (by assumption) ?rest203006
      case hy203006 => (intro W hW; obtain ⟨⟨⟨f1, f2, f3⟩, ⟨f4, f5, f6⟩⟩, f7, f8⟩ := HCP.out _ hW; go_simp; try with_reducible rfl)
      simp only [Act.put, List.setIfInBounds_toArray, List.set_cons_zero, List.set_cons_succ]
      refine' wpAnyH_take (i := 9) (oi := { dst := some 43, op := Op.load 25 (Operand.tmp 5), type := 25, pos := "law.go:96", after := #[{ on := 6, ground := Ground.guard }], guard := some (6, true) }) (v := ?v203007) rfl (by kernel_rfl) (by kernel_rfl) (by kernel_rfl) (fun _ _ _ h => h) (.inl ⟨by first | rfl | simp [Region.wanted, yielded], ?hy203007⟩) (by assumption) ?rest203007
      case hy203007 => (intro W hW; obtain ⟨⟨⟨f1, f2, f3⟩, ⟨f4, f5, f6⟩⟩, f7, f8⟩ := HCP.out _ hW; go_simp; try with_reducible rfl)
      simp only [Act.put, List.setIfInBounds_toArray, List.set_cons_zero, List.set_cons_succ]
      refine wpAnyH_ready (rs := [8]) (by kernel_rfl) (by simp) ?_
      refine AllReadyH.cons (o := { dst := some 42, op := Op.call { callee := Callee.value (Operand.func 8), args := #[Operand.tmp 41], argTypes := #[9] }, type := 25, pos := "law.go:96", after := #[{ on := 7, ground := Ground.data }, { on := 6, ground := Ground.chain }, { on := 6, ground := Ground.guard }], guard := some (6, true) }) rfl (fun K hK => ?_) (AllReadyH.nil)
      try simp only [List.getElem_toArray, List.getElem_cons_succ, List.getElem_cons_zero]
      go_simp
      refine (HE.out _).mono ?_
      rintro e z14 ⟨rfl, hz14⟩
      have HB14 := hHeld.trans (hz14.mono hHeld.size)
      refine hK.out _ _ HB14 (fun hHeld => ?_)
      clear hK K
      try simp only [Act.put, List.setIfInBounds_toArray, List.set_cons_zero, List.set_cons_succ]
      refine' wpAnyH_take (i := 10) (oi := { dst := some 44, op := Op.binOp BinOp.eql 25 (Operand.tmp 42) (Operand.tmp 43) 25, type := 4, pos := "law.go:96", after := #[{ on := 8, ground := Ground.data }, { on := 9, ground := Ground.data }, { on := 6, ground := Ground.guard }], guard := some (6, true) }) (v := ?v203008) rfl (by kernel_rfl) (by kernel_rfl) (by kernel_rfl) (fun _ _ _ h => h) (.inl ⟨by first | rfl | simp [Region.wanted, yielded], ?hy203008⟩) (by assumption) ?rest203008
      case hy203008 => (intro W hW; obtain ⟨⟨⟨f1, f2, f3⟩, ⟨f4, f5, f6⟩⟩, f7, f8⟩ := HCP.out _ hW; go_simp; try with_reducible rfl)
      simp only [Act.put, List.setIfInBounds_toArray, List.set_cons_zero, List.set_cons_succ]
      refine' wpAnyH_take (i := 11) (oi := { dst := some 45, op := Op.pick (Operand.tmp 40) (Operand.tmp 44) (Operand.const (Value.bool false)), type := 4, pos := "law.go:96", after := #[{ on := 6, ground := Ground.data }, { on := 10, ground := Ground.data }], guard := none }) (v := ?v203009) rfl (by kernel_rfl) (by kernel_rfl) (by kernel_rfl) (fun _ _ _ h => h) (.inl ⟨by first | rfl | simp [Region.wanted, yielded], ?hy203009⟩) (by assumption) ?rest203009
      case hy203009 => (intro W hW; obtain ⟨⟨⟨f1, f2, f3⟩, ⟨f4, f5, f6⟩⟩, f7, f8⟩ := HCP.out _ hW; go_simp; try with_reducible rfl)
      simp only [Act.put, List.setIfInBounds_toArray, List.set_cons_zero, List.set_cons_succ]
      refine' wpAnyH_take (i := 12) (oi := { dst := some 46, op := Op.move (Operand.tmp 45), type := 4, pos := "law.go:96", after := #[{ on := 11, ground := Ground.data }, { on := 8, ground := Ground.chain }], guard := none }) (v := ?v203010) rfl (by kernel_rfl) (by kernel_rfl) (by kernel_rfl) (fun _ _ _ h => h) (.inl ⟨by first | rfl | simp [Region.wanted, yielded], ?hy203010⟩) (by assumption) ?rest203010
      case hy203010 => (intro W hW; obtain ⟨⟨⟨f1, f2, f3⟩, ⟨f4, f5, f6⟩⟩, f7, f8⟩ := HCP.out _ hW; go_simp; try with_reducible rfl)
      simp only [Act.put, List.setIfInBounds_toArray, List.set_cons_zero, List.set_cons_succ]
      refine' wpAnyH_take (i := 13) (oi := { dst := some 47, op := Op.move (Operand.tmp 9), type := 9, pos := "law.go:96", after := #[{ on := 12, ground := Ground.guard }], guard := some (12, true) }) (v := ?v203011) rfl (by kernel_rfl) (by kernel_rfl) (by kernel_rfl) (fun _ _ _ h => h) (.inl ⟨by first | rfl | simp [Region.wanted, yielded], ?hy203011⟩) (by assumption) ?rest203011
      case hy203011 => (intro W hW; obtain ⟨⟨⟨f1, f2, f3⟩, ⟨f4, f5, f6⟩⟩, f7, f8⟩ := HCP.out _ hW; go_simp; try with_reducible rfl)
      simp only [Act.put, List.setIfInBounds_toArray, List.set_cons_zero, List.set_cons_succ]
      refine' wpAnyH_take (i := 15) (oi := { dst := some 49, op := Op.load 25 (Operand.tmp 6), type := 25, pos := "law.go:96", after := #[{ on := 12, ground := Ground.guard }], guard := some (12, true) }) (v := ?v203012) rfl (by kernel_rfl) (by kernel_rfl) (by kernel_rfl) (fun _ _ _ h => h) (.inl ⟨by first | rfl | simp [Region.wanted, yielded], ?hy203012⟩) (by assumption) ?rest203012
      case hy203012 => (intro W hW; obtain ⟨⟨⟨f1, f2, f3⟩, ⟨f4, f5, f6⟩⟩, f7, f8⟩ := HCP.out _ hW; go_simp; try with_reducible rfl)
      simp only [Act.put, List.setIfInBounds_toArray, List.set_cons_zero, List.set_cons_succ]
      refine wpAnyH_ready (rs := [14]) (by kernel_rfl) (by simp) ?_
      refine AllReadyH.cons (o := { dst := some 48, op := Op.call { callee := Callee.value (Operand.func 8), args := #[Operand.tmp 47], argTypes := #[9] }, type := 25, pos := "law.go:96", after := #[{ on := 13, ground := Ground.data }, { on := 12, ground := Ground.chain }, { on := 12, ground := Ground.guard }], guard := some (12, true) }) rfl (fun K hK => ?_) (AllReadyH.nil)
      try simp only [List.getElem_toArray, List.getElem_cons_succ, List.getElem_cons_zero]
      go_simp
      refine (HF.out _).mono ?_
      rintro e z15 ⟨rfl, hz15⟩
      have HB15 := hHeld.trans (hz15.mono hHeld.size)
      refine hK.out _ _ HB15 (fun hHeld => ?_)
      clear hK K
      try simp only [Act.put, List.setIfInBounds_toArray, List.set_cons_zero, List.set_cons_succ]
      refine' wpAnyH_take (i := 16) (oi := { dst := some 50, op := Op.binOp BinOp.eql 25 (Operand.tmp 48) (Operand.tmp 49) 25, type := 4, pos := "law.go:96", after := #[{ on := 14, ground := Ground.data }, { on := 15, ground := Ground.data }, { on := 12, ground := Ground.guard }], guard := some (12, true) }) (v := ?v203013) rfl (by kernel_rfl) (by kernel_rfl) (by kernel_rfl) (fun _ _ _ h => h) (.inl ⟨by first | rfl | simp [Region.wanted, yielded], ?hy203013⟩) (by assumption) ?rest203013
      case hy203013 => (intro W hW; obtain ⟨⟨⟨f1, f2, f3⟩, ⟨f4, f5, f6⟩⟩, f7, f8⟩ := HCP.out _ hW; go_simp; try with_reducible rfl)
      simp only [Act.put, List.setIfInBounds_toArray, List.set_cons_zero, List.set_cons_succ]
      refine' wpAnyH_take (i := 17) (oi := { dst := some 51, op := Op.pick (Operand.tmp 46) (Operand.tmp 50) (Operand.const (Value.bool false)), type := 4, pos := "law.go:96", after := #[{ on := 12, ground := Ground.data }, { on := 16, ground := Ground.data }], guard := none }) (v := ?v203014) rfl (by kernel_rfl) (by kernel_rfl) (by kernel_rfl) (fun _ _ _ h => h) (.inl ⟨by first | rfl | simp [Region.wanted, yielded], ?hy203014⟩) (by assumption) ?rest203014
      case hy203014 => (intro W hW; obtain ⟨⟨⟨f1, f2, f3⟩, ⟨f4, f5, f6⟩⟩, f7, f8⟩ := HCP.out _ hW; go_simp; try with_reducible rfl)
      simp only [Act.put, List.setIfInBounds_toArray, List.set_cons_zero, List.set_cons_succ]
      refine' wpAnyH_take (i := 18) (oi := { dst := some 52, op := Op.move (Operand.tmp 51), type := 4, pos := "law.go:96", after := #[{ on := 17, ground := Ground.data }, { on := 14, ground := Ground.chain }], guard := none }) (v := ?v203015) rfl (by kernel_rfl) (by kernel_rfl) (by kernel_rfl) (fun _ _ _ h => h) (.inl ⟨by first | rfl | simp [Region.wanted, yielded], ?hy203015⟩) (by assumption) ?rest203015
      case hy203015 => (intro W hW; obtain ⟨⟨⟨f1, f2, f3⟩, ⟨f4, f5, f6⟩⟩, f7, f8⟩ := HCP.out _ hW; go_simp; try with_reducible rfl)
      simp only [Act.put, List.setIfInBounds_toArray, List.set_cons_zero, List.set_cons_succ]
      refine' wpAnyH_take (i := 19) (oi := { dst := some 53, op := Op.load 25 (Operand.tmp 5), type := 25, pos := "law.go:96", after := #[{ on := 18, ground := Ground.guard }], guard := some (18, true) }) (v := ?v203016) rfl (by kernel_rfl) (by kernel_rfl) (by kernel_rfl) (fun _ _ _ h => h) (.inl ⟨by first | rfl | simp [Region.wanted, yielded], ?hy203016⟩) (by assumption) ?rest203016
      case hy203016 => (intro W hW; obtain ⟨⟨⟨f1, f2, f3⟩, ⟨f4, f5, f6⟩⟩, f7, f8⟩ := HCP.out _ hW; go_simp; try with_reducible rfl)
      simp only [Act.put, List.setIfInBounds_toArray, List.set_cons_zero, List.set_cons_succ]
      refine' wpAnyH_take (i := 20) (oi := { dst := some 54, op := Op.load 25 (Operand.tmp 6), type := 25, pos := "law.go:96", after := #[{ on := 18, ground := Ground.guard }], guard := some (18, true) }) (v := ?v203017) rfl (by kernel_rfl) (by kernel_rfl) (by kernel_rfl) (fun _ _ _ h => h) (.inl ⟨by first | rfl | simp [Region.wanted, yielded], ?hy203017⟩) (by assumption) ?rest203017
      case hy203017 => (intro W hW; obtain ⟨⟨⟨f1, f2, f3⟩, ⟨f4, f5, f6⟩⟩, f7, f8⟩ := HCP.out _ hW; go_simp; try with_reducible rfl)
      simp only [Act.put, List.setIfInBounds_toArray, List.set_cons_zero, List.set_cons_succ]
      refine' wpAnyH_take (i := 21) (oi := { dst := some 55, op := Op.binOp BinOp.eql 25 (Operand.tmp 53) (Operand.tmp 54) 25, type := 4, pos := "law.go:96", after := #[{ on := 19, ground := Ground.data }, { on := 20, ground := Ground.data }, { on := 18, ground := Ground.guard }], guard := some (18, true) }) (v := ?v203018) rfl (by kernel_rfl) (by kernel_rfl) (by kernel_rfl) (fun _ _ _ h => h) (.inl ⟨by first | rfl | simp [Region.wanted, yielded], ?hy203018⟩) (by assumption) ?rest203018
      case hy203018 => (intro W hW; obtain ⟨⟨⟨f1, f2, f3⟩, ⟨f4, f5, f6⟩⟩, f7, f8⟩ := HCP.out _ hW; go_simp; try with_reducible rfl)
      simp only [Act.put, List.setIfInBounds_toArray, List.set_cons_zero, List.set_cons_succ]
      refine' wpAnyH_take (i := 22) (oi := { dst := some 56, op := Op.move (Operand.tmp 7), type := 9, pos := "law.go:96", after := #[{ on := 18, ground := Ground.guard }], guard := some (18, true) }) (v := ?v203019) rfl (by kernel_rfl) (by kernel_rfl) (by kernel_rfl) (fun _ _ _ h => h) (.inl ⟨by first | rfl | simp [Region.wanted, yielded], ?hy203019⟩) (by assumption) ?rest203019
      case hy203019 => (intro W hW; obtain ⟨⟨⟨f1, f2, f3⟩, ⟨f4, f5, f6⟩⟩, f7, f8⟩ := HCP.out _ hW; go_simp; try with_reducible rfl)
      simp only [Act.put, List.setIfInBounds_toArray, List.set_cons_zero, List.set_cons_succ]
      refine' wpAnyH_take (i := 23) (oi := { dst := some 57, op := Op.move (Operand.tmp 9), type := 9, pos := "law.go:96", after := #[{ on := 18, ground := Ground.guard }], guard := some (18, true) }) (v := ?v203020) rfl (by kernel_rfl) (by kernel_rfl) (by kernel_rfl) (fun _ _ _ h => h) (.inl ⟨by first | rfl | simp [Region.wanted, yielded], ?hy203020⟩) (by assumption) ?rest203020
      case hy203020 => (intro W hW; obtain ⟨⟨⟨f1, f2, f3⟩, ⟨f4, f5, f6⟩⟩, f7, f8⟩ := HCP.out _ hW; go_simp; try with_reducible rfl)
      simp only [Act.put, List.setIfInBounds_toArray, List.set_cons_zero, List.set_cons_succ]
      refine' wpAnyH_take (i := 24) (oi := { dst := some 58, op := Op.binOp BinOp.eql 9 (Operand.tmp 56) (Operand.tmp 57) 9, type := 4, pos := "law.go:96", after := #[{ on := 22, ground := Ground.data }, { on := 23, ground := Ground.data }, { on := 18, ground := Ground.guard }], guard := some (18, true) }) (v := ?v203021) rfl (by kernel_rfl) (by kernel_rfl) (by kernel_rfl) (fun _ _ _ h => h) (.inl ⟨by first | rfl | simp [Region.wanted, yielded], ?hy203021⟩) (by assumption) ?rest203021
      case hy203021 => (intro W hW; obtain ⟨⟨⟨f1, f2, f3⟩, ⟨f4, f5, f6⟩⟩, f7, f8⟩ := HCP.out _ hW; go_simp; try with_reducible rfl)
      simp only [Act.put, List.setIfInBounds_toArray, List.set_cons_zero, List.set_cons_succ]
      refine' wpAnyH_take (i := 25) (oi := { dst := some 59, op := Op.binOp BinOp.eql 4 (Operand.tmp 55) (Operand.tmp 58) 4, type := 4, pos := "law.go:96", after := #[{ on := 21, ground := Ground.data }, { on := 24, ground := Ground.data }, { on := 18, ground := Ground.guard }], guard := some (18, true) }) (v := ?v203022) rfl (by kernel_rfl) (by kernel_rfl) (by kernel_rfl) (fun _ _ _ h => h) (.inl ⟨by first | rfl | simp [Region.wanted, yielded], ?hy203022⟩) (by assumption) ?rest203022
      case hy203022 => (intro W hW; obtain ⟨⟨⟨f1, f2, f3⟩, ⟨f4, f5, f6⟩⟩, f7, f8⟩ := HCP.out _ hW; go_simp; try with_reducible rfl)
      simp only [Act.put, List.setIfInBounds_toArray, List.set_cons_zero, List.set_cons_succ]
      refine' wpAnyH_take (i := 26) (oi := { dst := some 60, op := Op.pick (Operand.tmp 52) (Operand.tmp 59) (Operand.const (Value.bool false)), type := 4, pos := "law.go:96", after := #[{ on := 18, ground := Ground.data }, { on := 25, ground := Ground.data }], guard := none }) (v := ?v203023) rfl (by kernel_rfl) (by kernel_rfl) (by kernel_rfl) (fun _ _ _ h => h) (.inl ⟨by first | rfl | simp [Region.wanted, yielded], ?hy203023⟩) (by assumption) ?rest203023
      case hy203023 => (intro W hW; obtain ⟨⟨⟨f1, f2, f3⟩, ⟨f4, f5, f6⟩⟩, f7, f8⟩ := HCP.out _ hW; go_simp; try with_reducible rfl)
      simp only [Act.put, List.setIfInBounds_toArray, List.set_cons_zero, List.set_cons_succ]
      refine' wpAnyH_take (i := 27) (oi := { dst := some 61, op := Op.move (Operand.tmp 60), type := 4, pos := "law.go:96", after := #[{ on := 26, ground := Ground.data }, { on := 18, ground := Ground.chain }], guard := none }) (v := ?v203024) rfl (by kernel_rfl) (by kernel_rfl) (by kernel_rfl) (fun _ _ _ h => h) (.inl ⟨by first | rfl | simp [Region.wanted, yielded], ?hy203024⟩) (by assumption) ?rest203024
      case hy203024 => (intro W hW; obtain ⟨⟨⟨f1, f2, f3⟩, ⟨f4, f5, f6⟩⟩, f7, f8⟩ := HCP.out _ hW; go_simp; try with_reducible rfl)
      simp only [Act.put, List.setIfInBounds_toArray, List.set_cons_zero, List.set_cons_succ]
      refine' wpAnyH_take (i := 28) (oi := { dst := some 62, op := Op.move (Operand.tmp 0), type := 9, pos := "law.go:96", after := #[{ on := 27, ground := Ground.guard }], guard := some (27, true) }) (v := ?v203025) rfl (by kernel_rfl) (by kernel_rfl) (by kernel_rfl) (fun _ _ _ h => h) (.inl ⟨by first | rfl | simp [Region.wanted, yielded], ?hy203025⟩) (by assumption) ?rest203025
      case hy203025 => (intro W hW; obtain ⟨⟨⟨f1, f2, f3⟩, ⟨f4, f5, f6⟩⟩, f7, f8⟩ := HCP.out _ hW; go_simp; try with_reducible rfl)
      simp only [Act.put, List.setIfInBounds_toArray, List.set_cons_zero, List.set_cons_succ]
      refine' wpAnyH_take (i := 29) (oi := { dst := some 63, op := Op.move (Operand.tmp 1), type := 9, pos := "law.go:96", after := #[{ on := 27, ground := Ground.guard }], guard := some (27, true) }) (v := ?v203026) rfl (by kernel_rfl) (by kernel_rfl) (by kernel_rfl) (fun _ _ _ h => h) (.inl ⟨by first | rfl | simp [Region.wanted, yielded], ?hy203026⟩) (by assumption) ?rest203026
      case hy203026 => (intro W hW; obtain ⟨⟨⟨f1, f2, f3⟩, ⟨f4, f5, f6⟩⟩, f7, f8⟩ := HCP.out _ hW; go_simp; try with_reducible rfl)
      simp only [Act.put, List.setIfInBounds_toArray, List.set_cons_zero, List.set_cons_succ]
      refine' wpAnyH_take (i := 30) (oi := { dst := some 64, op := Op.binOp BinOp.neq 9 (Operand.tmp 62) (Operand.tmp 63) 9, type := 4, pos := "law.go:96", after := #[{ on := 28, ground := Ground.data }, { on := 29, ground := Ground.data }, { on := 27, ground := Ground.guard }], guard := some (27, true) }) (v := ?v203027) rfl (by kernel_rfl) (by kernel_rfl) (by kernel_rfl) (fun _ _ _ h => h) (.inl ⟨by first | rfl | simp [Region.wanted, yielded], ?hy203027⟩) (by assumption) ?rest203027
      case hy203027 => (intro W hW; obtain ⟨⟨⟨f1, f2, f3⟩, ⟨f4, f5, f6⟩⟩, f7, f8⟩ := HCP.out _ hW; go_simp; try with_reducible rfl)
      simp only [Act.put, List.setIfInBounds_toArray, List.set_cons_zero, List.set_cons_succ]
      refine' wpAnyH_take (i := 31) (oi := { dst := some 65, op := Op.move (Operand.tmp 64), type := 4, pos := "law.go:96", after := #[{ on := 30, ground := Ground.data }, { on := 27, ground := Ground.chain }, { on := 27, ground := Ground.guard }], guard := some (27, true) }) (v := ?v203028) rfl (by kernel_rfl) (by kernel_rfl) (by kernel_rfl) (fun _ _ _ h => h) (.inl ⟨by first | rfl | simp [Region.wanted, yielded], ?hy203028⟩) (by assumption) ?rest203028
      case hy203028 => (intro W hW; obtain ⟨⟨⟨f1, f2, f3⟩, ⟨f4, f5, f6⟩⟩, f7, f8⟩ := HCP.out _ hW; go_simp; try with_reducible rfl)
      simp only [Act.put, List.setIfInBounds_toArray, List.set_cons_zero, List.set_cons_succ]
      refine' wpAnyH_take (i := 32) (oi := { dst := some 66, op := Op.load 25 (Operand.tmp 5), type := 25, pos := "law.go:96", after := #[{ on := 31, ground := Ground.guard }], guard := some (31, false) }) (v := undef) rfl (by kernel_rfl) (by kernel_rfl) (by kernel_rfl) (fun _ _ _ h => h) (.inr ⟨by first | rfl | simp [Region.wanted, yielded], rfl⟩) (by assumption) ?rest203029
      simp only [Act.put, List.setIfInBounds_toArray, List.set_cons_zero, List.set_cons_succ]
      refine' wpAnyH_take (i := 33) (oi := { dst := some 67, op := Op.load 25 (Operand.tmp 6), type := 25, pos := "law.go:96", after := #[{ on := 31, ground := Ground.guard }], guard := some (31, false) }) (v := undef) rfl (by kernel_rfl) (by kernel_rfl) (by kernel_rfl) (fun _ _ _ h => h) (.inr ⟨by first | rfl | simp [Region.wanted, yielded], rfl⟩) (by assumption) ?rest203030
      simp only [Act.put, List.setIfInBounds_toArray, List.set_cons_zero, List.set_cons_succ]
      refine' wpAnyH_take (i := 34) (oi := { dst := some 68, op := Op.binOp BinOp.eql 25 (Operand.tmp 66) (Operand.tmp 67) 25, type := 4, pos := "law.go:96", after := #[{ on := 32, ground := Ground.data }, { on := 33, ground := Ground.data }, { on := 31, ground := Ground.guard }], guard := some (31, false) }) (v := undef) rfl (by kernel_rfl) (by kernel_rfl) (by kernel_rfl) (fun _ _ _ h => h) (.inr ⟨by first | rfl | simp [Region.wanted, yielded], rfl⟩) (by assumption) ?rest203031
      simp only [Act.put, List.setIfInBounds_toArray, List.set_cons_zero, List.set_cons_succ]
      refine' wpAnyH_take (i := 35) (oi := { dst := some 69, op := Op.pick (Operand.tmp 65) (Operand.const (Value.bool true)) (Operand.tmp 68), type := 4, pos := "law.go:96", after := #[{ on := 31, ground := Ground.data }, { on := 34, ground := Ground.data }, { on := 27, ground := Ground.guard }], guard := some (27, true) }) (v := ?v203032) rfl (by kernel_rfl) (by kernel_rfl) (by kernel_rfl) (fun _ _ _ h => h) (.inl ⟨by first | rfl | simp [Region.wanted, yielded], ?hy203032⟩) (by assumption) ?rest203032
      case hy203032 => (intro W hW; obtain ⟨⟨⟨f1, f2, f3⟩, ⟨f4, f5, f6⟩⟩, f7, f8⟩ := HCP.out _ hW; go_simp; try with_reducible rfl)
      simp only [Act.put, List.setIfInBounds_toArray, List.set_cons_zero, List.set_cons_succ]
      refine' wpAnyH_take (i := 36) (oi := { dst := some 70, op := Op.pick (Operand.tmp 61) (Operand.tmp 69) (Operand.const (Value.bool false)), type := 4, pos := "law.go:96", after := #[{ on := 27, ground := Ground.data }, { on := 35, ground := Ground.data }], guard := none }) (v := ?v203033) rfl (by kernel_rfl) (by kernel_rfl) (by kernel_rfl) (fun _ _ _ h => h) (.inl ⟨by first | rfl | simp [Region.wanted, yielded], ?hy203033⟩) (by assumption) ?rest203033
      case hy203033 => (intro W hW; obtain ⟨⟨⟨f1, f2, f3⟩, ⟨f4, f5, f6⟩⟩, f7, f8⟩ := HCP.out _ hW; go_simp; try with_reducible rfl)
      simp only [Act.put, List.setIfInBounds_toArray, List.set_cons_zero, List.set_cons_succ]
      refine' wpAnyH_take (i := 37) (oi := { dst := some 71, op := Op.move (Operand.tmp 70), type := 4, pos := "law.go:96", after := #[{ on := 36, ground := Ground.data }, { on := 31, ground := Ground.chain }], guard := none }) (v := ?v203034) rfl (by kernel_rfl) (by kernel_rfl) (by kernel_rfl) (fun _ _ _ h => h) (.inl ⟨by first | rfl | simp [Region.wanted, yielded], ?hy203034⟩) (by assumption) ?rest203034
      case hy203034 => (intro W hW; obtain ⟨⟨⟨f1, f2, f3⟩, ⟨f4, f5, f6⟩⟩, f7, f8⟩ := HCP.out _ hW; go_simp; try with_reducible rfl)
      simp only [Act.put, List.setIfInBounds_toArray, List.set_cons_zero, List.set_cons_succ]
      refine wpAnyH_ready (rs := [38]) (by kernel_rfl) (by simp) ?_
      refine AllReadyH.cons (o := { dst := some 72, op := Op.call { callee := Callee.value (Operand.func 7), args := #[], argTypes := #[] }, type := 4, pos := "law.go:96", after := #[{ on := 37, ground := Ground.chain }, { on := 37, ground := Ground.guard }], guard := some (37, true) }) rfl (fun K hK => ?_) (AllReadyH.nil)
      try simp only [List.getElem_toArray, List.getElem_cons_succ, List.getElem_cons_zero]
      go_simp
      refine (HWk.out _).mono ?_
      rintro e z16 ⟨rfl, hz16⟩
      have HB16 := hHeld.trans (hz16.mono hHeld.size)
      refine hK.out _ _ HB16 (fun hHeld => ?_)
      clear hK K
      try simp only [Act.put, List.setIfInBounds_toArray, List.set_cons_zero, List.set_cons_succ]
      refine' wpAnyH_take (i := 39) (oi := { dst := some 73, op := Op.pick (Operand.tmp 71) (Operand.tmp 72) (Operand.const (Value.bool false)), type := 4, pos := "law.go:96", after := #[{ on := 37, ground := Ground.data }, { on := 38, ground := Ground.data }], guard := none }) (v := ?v203035) rfl (by kernel_rfl) (by kernel_rfl) (by kernel_rfl) (fun _ _ _ h => h) (.inl ⟨by first | rfl | simp [Region.wanted, yielded], ?hy203035⟩) (by assumption) ?rest203035
      case hy203035 => (intro W hW; obtain ⟨⟨⟨f1, f2, f3⟩, ⟨f4, f5, f6⟩⟩, f7, f8⟩ := HCP.out _ hW; go_simp; try with_reducible rfl)
      simp only [Act.put, List.setIfInBounds_toArray, List.set_cons_zero, List.set_cons_succ]
      refine' wpAnyH_take (i := 40) (oi := { dst := some 4, op := Op.assign (Operand.tmp 73), type := 4, pos := "law.go:96", after := #[{ on := 39, ground := Ground.data }, { on := 38, ground := Ground.chain }, { on := 0, ground := Ground.phase }, { on := 1, ground := Ground.phase }, { on := 2, ground := Ground.phase }, { on := 3, ground := Ground.phase }, { on := 4, ground := Ground.phase }, { on := 5, ground := Ground.phase }, { on := 6, ground := Ground.phase }, { on := 7, ground := Ground.phase }, { on := 8, ground := Ground.phase }, { on := 9, ground := Ground.phase }, { on := 10, ground := Ground.phase }, { on := 11, ground := Ground.phase }, { on := 12, ground := Ground.phase }, { on := 13, ground := Ground.phase }, { on := 14, ground := Ground.phase }, { on := 15, ground := Ground.phase }, { on := 16, ground := Ground.phase }, { on := 17, ground := Ground.phase }, { on := 18, ground := Ground.phase }, { on := 19, ground := Ground.phase }, { on := 20, ground := Ground.phase }, { on := 21, ground := Ground.phase }, { on := 22, ground := Ground.phase }, { on := 23, ground := Ground.phase }, { on := 24, ground := Ground.phase }, { on := 25, ground := Ground.phase }, { on := 26, ground := Ground.phase }, { on := 27, ground := Ground.phase }, { on := 28, ground := Ground.phase }, { on := 29, ground := Ground.phase }, { on := 30, ground := Ground.phase }, { on := 31, ground := Ground.phase }, { on := 32, ground := Ground.phase }, { on := 33, ground := Ground.phase }, { on := 34, ground := Ground.phase }, { on := 35, ground := Ground.phase }, { on := 36, ground := Ground.phase }, { on := 37, ground := Ground.phase }, { on := 38, ground := Ground.phase }, { on := 39, ground := Ground.phase }], guard := none }) (v := ?v203036) rfl (by kernel_rfl) (by kernel_rfl) (by kernel_rfl) (fun _ _ _ h => h) (.inl ⟨by first | rfl | simp [Region.wanted, yielded], ?hy203036⟩) (by assumption) ?rest203036
      case hy203036 => (intro W hW; obtain ⟨⟨⟨f1, f2, f3⟩, ⟨f4, f5, f6⟩⟩, f7, f8⟩ := HCP.out _ hW; go_simp; try with_reducible rfl)
      simp only [Act.put, List.setIfInBounds_toArray, List.set_cons_zero, List.set_cons_succ]
      refine wpAnyH_done (by kernel_rfl) ?_ _
      have HBe := Lib.hid (B1.out.trans (hHeld.mono B1.out.size))
      go_wp2
      go_ret
      exact ⟨rfl, HBe.out⟩
    | false =>
      refine wp_region_held_drew (S := fun W => Below u1.heap.size u1 W) (by kernel_rfl) (HBz.out.trans ((Below.drewN' y4 1).mono HBz.out.size)) (fun hHeld => ?_)
      generalize y4.drew = wd at hHeld ⊢
      refine' wpAnyH_take (i := 0) (oi := { dst := some 34, op := Op.move (Operand.tmp 8), type := 30, pos := "law.go:96", after := #[], guard := none }) (v := ?v204001) rfl (by kernel_rfl) (by kernel_rfl) (by kernel_rfl) (fun _ _ _ h => h) (.inl ⟨by first | rfl | simp [Region.wanted, yielded], ?hy204001⟩) (by assumption) ?rest204001
      case hy204001 => (intro W hW; obtain ⟨⟨⟨f1, f2, f3⟩, ⟨f4, f5, f6⟩⟩, f7, f8⟩ := HCP.out _ hW; go_simp; try with_reducible rfl)
      simp only [Act.put, List.setIfInBounds_toArray, List.set_cons_zero, List.set_cons_succ]
      refine' wpAnyH_take (i := 2) (oi := { dst := some 36, op := Op.move (Operand.tmp 10), type := 30, pos := "law.go:96", after := #[], guard := none }) (v := ?v204002) rfl (by kernel_rfl) (by kernel_rfl) (by kernel_rfl) (fun _ _ _ h => h) (.inl ⟨by first | rfl | simp [Region.wanted, yielded], ?hy204002⟩) (by assumption) ?rest204002
      case hy204002 => (intro W hW; obtain ⟨⟨⟨f1, f2, f3⟩, ⟨f4, f5, f6⟩⟩, f7, f8⟩ := HCP.out _ hW; go_simp; try with_reducible rfl)
      simp only [Act.put, List.setIfInBounds_toArray, List.set_cons_zero, List.set_cons_succ]
      refine wpAnyH_ready (rs := [1]) (by kernel_rfl) (by simp) ?_
      refine AllReadyH.cons (o := { dst := some 35, op := Op.call { callee := Callee.value (Operand.func 16), args := #[Operand.tmp 34], argTypes := #[30] }, type := 3, pos := "law.go:96", after := #[{ on := 0, ground := Ground.data }], guard := none }) rfl (fun K hK => ?_) (AllReadyH.nil)
      try simp only [List.getElem_toArray, List.getElem_cons_succ, List.getElem_cons_zero]
      go_simp
      refine (HNum.out _ _).mono ?_
      rintro e z17 ⟨rfl, rfl⟩
      refine hK.out _ _ hHeld (fun hHeld => ?_)
      clear hK K
      try simp only [Act.put, List.setIfInBounds_toArray, List.set_cons_zero, List.set_cons_succ]
      refine wpAnyH_ready (rs := [3]) (by kernel_rfl) (by simp) ?_
      refine AllReadyH.cons (o := { dst := some 37, op := Op.call { callee := Callee.value (Operand.func 16), args := #[Operand.tmp 36], argTypes := #[30] }, type := 3, pos := "law.go:96", after := #[{ on := 2, ground := Ground.data }, { on := 1, ground := Ground.chain }], guard := none }) rfl (fun K hK => ?_) (AllReadyH.nil)
      try simp only [List.getElem_toArray, List.getElem_cons_succ, List.getElem_cons_zero]
      go_simp
      refine (HNum.out _ _).mono ?_
      rintro e z18 ⟨rfl, rfl⟩
      refine hK.out _ _ hHeld (fun hHeld => ?_)
      clear hK K
      try simp only [Act.put, List.setIfInBounds_toArray, List.set_cons_zero, List.set_cons_succ]
      refine' wpAnyH_take (i := 4) (oi := { dst := some 38, op := Op.binOp BinOp.add 3 (Operand.tmp 35) (Operand.tmp 37) 3, type := 3, pos := "law.go:96", after := #[{ on := 1, ground := Ground.data }, { on := 3, ground := Ground.data }], guard := none }) (v := ?v204003) rfl (by kernel_rfl) (by kernel_rfl) (by kernel_rfl) (fun _ _ _ h => h) (.inl ⟨by first | rfl | simp [Region.wanted, yielded], ?hy204003⟩) (by assumption) ?rest204003
      case hy204003 => (intro W hW; obtain ⟨⟨⟨f1, f2, f3⟩, ⟨f4, f5, f6⟩⟩, f7, f8⟩ := HCP.out _ hW; go_simp; try with_reducible rfl)
      simp only [Act.put, List.setIfInBounds_toArray, List.set_cons_zero, List.set_cons_succ]
      refine' wpAnyH_take (i := 5) (oi := { dst := some 39, op := Op.binOp BinOp.eql 3 (Operand.tmp 38) (Operand.const (Value.int IntKind.i64 0)) 3, type := 4, pos := "law.go:96", after := #[{ on := 4, ground := Ground.data }], guard := none }) (v := ?v204004) rfl (by kernel_rfl) (by kernel_rfl) (by kernel_rfl) (fun _ _ _ h => h) (.inl ⟨by first | rfl | simp [Region.wanted, yielded], ?hy204004⟩) (by assumption) ?rest204004
      case hy204004 => (intro W hW; obtain ⟨⟨⟨f1, f2, f3⟩, ⟨f4, f5, f6⟩⟩, f7, f8⟩ := HCP.out _ hW; go_simp; try with_reducible rfl)
      simp only [Act.put, List.setIfInBounds_toArray, List.set_cons_zero, List.set_cons_succ]
      refine' wpAnyH_take (i := 6) (oi := { dst := some 40, op := Op.move (Operand.tmp 39), type := 4, pos := "law.go:96", after := #[{ on := 5, ground := Ground.data }, { on := 3, ground := Ground.chain }], guard := none }) (v := ?v204005) rfl (by kernel_rfl) (by kernel_rfl) (by kernel_rfl) (fun _ _ _ h => h) (.inl ⟨by first | rfl | simp [Region.wanted, yielded], ?hy204005⟩) (by assumption) ?rest204005
      case hy204005 => (intro W hW; obtain ⟨⟨⟨f1, f2, f3⟩, ⟨f4, f5, f6⟩⟩, f7, f8⟩ := HCP.out _ hW; go_simp; try with_reducible rfl)
      simp only [Act.put, List.setIfInBounds_toArray, List.set_cons_zero, List.set_cons_succ]
      refine' wpAnyH_take (i := 7) (oi := { dst := some 41, op := Op.move (Operand.tmp 7), type := 9, pos := "law.go:96", after := #[{ on := 6, ground := Ground.guard }], guard := some (6, true) }) (v := ?v204006) rfl (by kernel_rfl) (by kernel_rfl) (by kernel_rfl) (fun _ _ _ h => h) (.inl ⟨by first | rfl | simp [Region.wanted, yielded], ?hy204006⟩) (by assumption) ?rest204006
      case hy204006 => (intro W hW; obtain ⟨⟨⟨f1, f2, f3⟩, ⟨f4, f5, f6⟩⟩, f7, f8⟩ := HCP.out _ hW; go_simp; try with_reducible rfl)
      simp only [Act.put, List.setIfInBounds_toArray, List.set_cons_zero, List.set_cons_succ]
      refine' wpAnyH_take (i := 9) (oi := { dst := some 43, op := Op.load 25 (Operand.tmp 5), type := 25, pos := "law.go:96", after := #[{ on := 6, ground := Ground.guard }], guard := some (6, true) }) (v := ?v204007) rfl (by kernel_rfl) (by kernel_rfl) (by kernel_rfl) (fun _ _ _ h => h) (.inl ⟨by first | rfl | simp [Region.wanted, yielded], ?hy204007⟩) (by assumption) ?rest204007
      case hy204007 => (intro W hW; obtain ⟨⟨⟨f1, f2, f3⟩, ⟨f4, f5, f6⟩⟩, f7, f8⟩ := HCP.out _ hW; go_simp; try with_reducible rfl)
      simp only [Act.put, List.setIfInBounds_toArray, List.set_cons_zero, List.set_cons_succ]
      refine wpAnyH_ready (rs := [8]) (by kernel_rfl) (by simp) ?_
      refine AllReadyH.cons (o := { dst := some 42, op := Op.call { callee := Callee.value (Operand.func 8), args := #[Operand.tmp 41], argTypes := #[9] }, type := 25, pos := "law.go:96", after := #[{ on := 7, ground := Ground.data }, { on := 6, ground := Ground.chain }, { on := 6, ground := Ground.guard }], guard := some (6, true) }) rfl (fun K hK => ?_) (AllReadyH.nil)
      try simp only [List.getElem_toArray, List.getElem_cons_succ, List.getElem_cons_zero]
      go_simp
      refine (HE.out _).mono ?_
      rintro e z19 ⟨rfl, hz19⟩
      have HB19 := hHeld.trans (hz19.mono hHeld.size)
      refine hK.out _ _ HB19 (fun hHeld => ?_)
      clear hK K
      try simp only [Act.put, List.setIfInBounds_toArray, List.set_cons_zero, List.set_cons_succ]
      refine' wpAnyH_take (i := 10) (oi := { dst := some 44, op := Op.binOp BinOp.eql 25 (Operand.tmp 42) (Operand.tmp 43) 25, type := 4, pos := "law.go:96", after := #[{ on := 8, ground := Ground.data }, { on := 9, ground := Ground.data }, { on := 6, ground := Ground.guard }], guard := some (6, true) }) (v := ?v204008) rfl (by kernel_rfl) (by kernel_rfl) (by kernel_rfl) (fun _ _ _ h => h) (.inl ⟨by first | rfl | simp [Region.wanted, yielded], ?hy204008⟩) (by assumption) ?rest204008
      case hy204008 => (intro W hW; obtain ⟨⟨⟨f1, f2, f3⟩, ⟨f4, f5, f6⟩⟩, f7, f8⟩ := HCP.out _ hW; go_simp; try with_reducible rfl)
      simp only [Act.put, List.setIfInBounds_toArray, List.set_cons_zero, List.set_cons_succ]
      refine' wpAnyH_take (i := 11) (oi := { dst := some 45, op := Op.pick (Operand.tmp 40) (Operand.tmp 44) (Operand.const (Value.bool false)), type := 4, pos := "law.go:96", after := #[{ on := 6, ground := Ground.data }, { on := 10, ground := Ground.data }], guard := none }) (v := ?v204009) rfl (by kernel_rfl) (by kernel_rfl) (by kernel_rfl) (fun _ _ _ h => h) (.inl ⟨by first | rfl | simp [Region.wanted, yielded], ?hy204009⟩) (by assumption) ?rest204009
      case hy204009 => (intro W hW; obtain ⟨⟨⟨f1, f2, f3⟩, ⟨f4, f5, f6⟩⟩, f7, f8⟩ := HCP.out _ hW; go_simp; try with_reducible rfl)
      simp only [Act.put, List.setIfInBounds_toArray, List.set_cons_zero, List.set_cons_succ]
      refine' wpAnyH_take (i := 12) (oi := { dst := some 46, op := Op.move (Operand.tmp 45), type := 4, pos := "law.go:96", after := #[{ on := 11, ground := Ground.data }, { on := 8, ground := Ground.chain }], guard := none }) (v := ?v204010) rfl (by kernel_rfl) (by kernel_rfl) (by kernel_rfl) (fun _ _ _ h => h) (.inl ⟨by first | rfl | simp [Region.wanted, yielded], ?hy204010⟩) (by assumption) ?rest204010
      case hy204010 => (intro W hW; obtain ⟨⟨⟨f1, f2, f3⟩, ⟨f4, f5, f6⟩⟩, f7, f8⟩ := HCP.out _ hW; go_simp; try with_reducible rfl)
      simp only [Act.put, List.setIfInBounds_toArray, List.set_cons_zero, List.set_cons_succ]
      refine' wpAnyH_take (i := 13) (oi := { dst := some 47, op := Op.move (Operand.tmp 9), type := 9, pos := "law.go:96", after := #[{ on := 12, ground := Ground.guard }], guard := some (12, true) }) (v := ?v204011) rfl (by kernel_rfl) (by kernel_rfl) (by kernel_rfl) (fun _ _ _ h => h) (.inl ⟨by first | rfl | simp [Region.wanted, yielded], ?hy204011⟩) (by assumption) ?rest204011
      case hy204011 => (intro W hW; obtain ⟨⟨⟨f1, f2, f3⟩, ⟨f4, f5, f6⟩⟩, f7, f8⟩ := HCP.out _ hW; go_simp; try with_reducible rfl)
      simp only [Act.put, List.setIfInBounds_toArray, List.set_cons_zero, List.set_cons_succ]
      refine' wpAnyH_take (i := 15) (oi := { dst := some 49, op := Op.load 25 (Operand.tmp 6), type := 25, pos := "law.go:96", after := #[{ on := 12, ground := Ground.guard }], guard := some (12, true) }) (v := ?v204012) rfl (by kernel_rfl) (by kernel_rfl) (by kernel_rfl) (fun _ _ _ h => h) (.inl ⟨by first | rfl | simp [Region.wanted, yielded], ?hy204012⟩) (by assumption) ?rest204012
      case hy204012 => (intro W hW; obtain ⟨⟨⟨f1, f2, f3⟩, ⟨f4, f5, f6⟩⟩, f7, f8⟩ := HCP.out _ hW; go_simp; try with_reducible rfl)
      simp only [Act.put, List.setIfInBounds_toArray, List.set_cons_zero, List.set_cons_succ]
      refine wpAnyH_ready (rs := [14]) (by kernel_rfl) (by simp) ?_
      refine AllReadyH.cons (o := { dst := some 48, op := Op.call { callee := Callee.value (Operand.func 8), args := #[Operand.tmp 47], argTypes := #[9] }, type := 25, pos := "law.go:96", after := #[{ on := 13, ground := Ground.data }, { on := 12, ground := Ground.chain }, { on := 12, ground := Ground.guard }], guard := some (12, true) }) rfl (fun K hK => ?_) (AllReadyH.nil)
      try simp only [List.getElem_toArray, List.getElem_cons_succ, List.getElem_cons_zero]
      go_simp
      refine (HF.out _).mono ?_
      rintro e z20 ⟨rfl, hz20⟩
      have HB20 := hHeld.trans (hz20.mono hHeld.size)
      refine hK.out _ _ HB20 (fun hHeld => ?_)
      clear hK K
      try simp only [Act.put, List.setIfInBounds_toArray, List.set_cons_zero, List.set_cons_succ]
      refine' wpAnyH_take (i := 16) (oi := { dst := some 50, op := Op.binOp BinOp.eql 25 (Operand.tmp 48) (Operand.tmp 49) 25, type := 4, pos := "law.go:96", after := #[{ on := 14, ground := Ground.data }, { on := 15, ground := Ground.data }, { on := 12, ground := Ground.guard }], guard := some (12, true) }) (v := ?v204013) rfl (by kernel_rfl) (by kernel_rfl) (by kernel_rfl) (fun _ _ _ h => h) (.inl ⟨by first | rfl | simp [Region.wanted, yielded], ?hy204013⟩) (by assumption) ?rest204013
      case hy204013 => (intro W hW; obtain ⟨⟨⟨f1, f2, f3⟩, ⟨f4, f5, f6⟩⟩, f7, f8⟩ := HCP.out _ hW; go_simp; try with_reducible rfl)
      simp only [Act.put, List.setIfInBounds_toArray, List.set_cons_zero, List.set_cons_succ]
      refine' wpAnyH_take (i := 17) (oi := { dst := some 51, op := Op.pick (Operand.tmp 46) (Operand.tmp 50) (Operand.const (Value.bool false)), type := 4, pos := "law.go:96", after := #[{ on := 12, ground := Ground.data }, { on := 16, ground := Ground.data }], guard := none }) (v := ?v204014) rfl (by kernel_rfl) (by kernel_rfl) (by kernel_rfl) (fun _ _ _ h => h) (.inl ⟨by first | rfl | simp [Region.wanted, yielded], ?hy204014⟩) (by assumption) ?rest204014
      case hy204014 => (intro W hW; obtain ⟨⟨⟨f1, f2, f3⟩, ⟨f4, f5, f6⟩⟩, f7, f8⟩ := HCP.out _ hW; go_simp; try with_reducible rfl)
      simp only [Act.put, List.setIfInBounds_toArray, List.set_cons_zero, List.set_cons_succ]
      refine' wpAnyH_take (i := 18) (oi := { dst := some 52, op := Op.move (Operand.tmp 51), type := 4, pos := "law.go:96", after := #[{ on := 17, ground := Ground.data }, { on := 14, ground := Ground.chain }], guard := none }) (v := ?v204015) rfl (by kernel_rfl) (by kernel_rfl) (by kernel_rfl) (fun _ _ _ h => h) (.inl ⟨by first | rfl | simp [Region.wanted, yielded], ?hy204015⟩) (by assumption) ?rest204015
      case hy204015 => (intro W hW; obtain ⟨⟨⟨f1, f2, f3⟩, ⟨f4, f5, f6⟩⟩, f7, f8⟩ := HCP.out _ hW; go_simp; try with_reducible rfl)
      simp only [Act.put, List.setIfInBounds_toArray, List.set_cons_zero, List.set_cons_succ]
      refine' wpAnyH_take (i := 19) (oi := { dst := some 53, op := Op.load 25 (Operand.tmp 5), type := 25, pos := "law.go:96", after := #[{ on := 18, ground := Ground.guard }], guard := some (18, true) }) (v := ?v204016) rfl (by kernel_rfl) (by kernel_rfl) (by kernel_rfl) (fun _ _ _ h => h) (.inl ⟨by first | rfl | simp [Region.wanted, yielded], ?hy204016⟩) (by assumption) ?rest204016
      case hy204016 => (intro W hW; obtain ⟨⟨⟨f1, f2, f3⟩, ⟨f4, f5, f6⟩⟩, f7, f8⟩ := HCP.out _ hW; go_simp; try with_reducible rfl)
      simp only [Act.put, List.setIfInBounds_toArray, List.set_cons_zero, List.set_cons_succ]
      refine' wpAnyH_take (i := 20) (oi := { dst := some 54, op := Op.load 25 (Operand.tmp 6), type := 25, pos := "law.go:96", after := #[{ on := 18, ground := Ground.guard }], guard := some (18, true) }) (v := ?v204017) rfl (by kernel_rfl) (by kernel_rfl) (by kernel_rfl) (fun _ _ _ h => h) (.inl ⟨by first | rfl | simp [Region.wanted, yielded], ?hy204017⟩) (by assumption) ?rest204017
      case hy204017 => (intro W hW; obtain ⟨⟨⟨f1, f2, f3⟩, ⟨f4, f5, f6⟩⟩, f7, f8⟩ := HCP.out _ hW; go_simp; try with_reducible rfl)
      simp only [Act.put, List.setIfInBounds_toArray, List.set_cons_zero, List.set_cons_succ]
      refine' wpAnyH_take (i := 21) (oi := { dst := some 55, op := Op.binOp BinOp.eql 25 (Operand.tmp 53) (Operand.tmp 54) 25, type := 4, pos := "law.go:96", after := #[{ on := 19, ground := Ground.data }, { on := 20, ground := Ground.data }, { on := 18, ground := Ground.guard }], guard := some (18, true) }) (v := ?v204018) rfl (by kernel_rfl) (by kernel_rfl) (by kernel_rfl) (fun _ _ _ h => h) (.inl ⟨by first | rfl | simp [Region.wanted, yielded], ?hy204018⟩) (by assumption) ?rest204018
      case hy204018 => (intro W hW; obtain ⟨⟨⟨f1, f2, f3⟩, ⟨f4, f5, f6⟩⟩, f7, f8⟩ := HCP.out _ hW; go_simp; try with_reducible rfl)
      simp only [Act.put, List.setIfInBounds_toArray, List.set_cons_zero, List.set_cons_succ]
      refine' wpAnyH_take (i := 22) (oi := { dst := some 56, op := Op.move (Operand.tmp 7), type := 9, pos := "law.go:96", after := #[{ on := 18, ground := Ground.guard }], guard := some (18, true) }) (v := ?v204019) rfl (by kernel_rfl) (by kernel_rfl) (by kernel_rfl) (fun _ _ _ h => h) (.inl ⟨by first | rfl | simp [Region.wanted, yielded], ?hy204019⟩) (by assumption) ?rest204019
      case hy204019 => (intro W hW; obtain ⟨⟨⟨f1, f2, f3⟩, ⟨f4, f5, f6⟩⟩, f7, f8⟩ := HCP.out _ hW; go_simp; try with_reducible rfl)
      simp only [Act.put, List.setIfInBounds_toArray, List.set_cons_zero, List.set_cons_succ]
      refine' wpAnyH_take (i := 23) (oi := { dst := some 57, op := Op.move (Operand.tmp 9), type := 9, pos := "law.go:96", after := #[{ on := 18, ground := Ground.guard }], guard := some (18, true) }) (v := ?v204020) rfl (by kernel_rfl) (by kernel_rfl) (by kernel_rfl) (fun _ _ _ h => h) (.inl ⟨by first | rfl | simp [Region.wanted, yielded], ?hy204020⟩) (by assumption) ?rest204020
      case hy204020 => (intro W hW; obtain ⟨⟨⟨f1, f2, f3⟩, ⟨f4, f5, f6⟩⟩, f7, f8⟩ := HCP.out _ hW; go_simp; try with_reducible rfl)
      simp only [Act.put, List.setIfInBounds_toArray, List.set_cons_zero, List.set_cons_succ]
      refine' wpAnyH_take (i := 24) (oi := { dst := some 58, op := Op.binOp BinOp.eql 9 (Operand.tmp 56) (Operand.tmp 57) 9, type := 4, pos := "law.go:96", after := #[{ on := 22, ground := Ground.data }, { on := 23, ground := Ground.data }, { on := 18, ground := Ground.guard }], guard := some (18, true) }) (v := ?v204021) rfl (by kernel_rfl) (by kernel_rfl) (by kernel_rfl) (fun _ _ _ h => h) (.inl ⟨by first | rfl | simp [Region.wanted, yielded], ?hy204021⟩) (by assumption) ?rest204021
      case hy204021 => (intro W hW; obtain ⟨⟨⟨f1, f2, f3⟩, ⟨f4, f5, f6⟩⟩, f7, f8⟩ := HCP.out _ hW; go_simp; try with_reducible rfl)
      simp only [Act.put, List.setIfInBounds_toArray, List.set_cons_zero, List.set_cons_succ]
      refine' wpAnyH_take (i := 25) (oi := { dst := some 59, op := Op.binOp BinOp.eql 4 (Operand.tmp 55) (Operand.tmp 58) 4, type := 4, pos := "law.go:96", after := #[{ on := 21, ground := Ground.data }, { on := 24, ground := Ground.data }, { on := 18, ground := Ground.guard }], guard := some (18, true) }) (v := ?v204022) rfl (by kernel_rfl) (by kernel_rfl) (by kernel_rfl) (fun _ _ _ h => h) (.inl ⟨by first | rfl | simp [Region.wanted, yielded], ?hy204022⟩) (by assumption) ?rest204022
      case hy204022 => (intro W hW; obtain ⟨⟨⟨f1, f2, f3⟩, ⟨f4, f5, f6⟩⟩, f7, f8⟩ := HCP.out _ hW; go_simp; try with_reducible rfl)
      simp only [Act.put, List.setIfInBounds_toArray, List.set_cons_zero, List.set_cons_succ]
      refine' wpAnyH_take (i := 26) (oi := { dst := some 60, op := Op.pick (Operand.tmp 52) (Operand.tmp 59) (Operand.const (Value.bool false)), type := 4, pos := "law.go:96", after := #[{ on := 18, ground := Ground.data }, { on := 25, ground := Ground.data }], guard := none }) (v := ?v204023) rfl (by kernel_rfl) (by kernel_rfl) (by kernel_rfl) (fun _ _ _ h => h) (.inl ⟨by first | rfl | simp [Region.wanted, yielded], ?hy204023⟩) (by assumption) ?rest204023
      case hy204023 => (intro W hW; obtain ⟨⟨⟨f1, f2, f3⟩, ⟨f4, f5, f6⟩⟩, f7, f8⟩ := HCP.out _ hW; go_simp; try with_reducible rfl)
      simp only [Act.put, List.setIfInBounds_toArray, List.set_cons_zero, List.set_cons_succ]
      refine' wpAnyH_take (i := 27) (oi := { dst := some 61, op := Op.move (Operand.tmp 60), type := 4, pos := "law.go:96", after := #[{ on := 26, ground := Ground.data }, { on := 18, ground := Ground.chain }], guard := none }) (v := ?v204024) rfl (by kernel_rfl) (by kernel_rfl) (by kernel_rfl) (fun _ _ _ h => h) (.inl ⟨by first | rfl | simp [Region.wanted, yielded], ?hy204024⟩) (by assumption) ?rest204024
      case hy204024 => (intro W hW; obtain ⟨⟨⟨f1, f2, f3⟩, ⟨f4, f5, f6⟩⟩, f7, f8⟩ := HCP.out _ hW; go_simp; try with_reducible rfl)
      simp only [Act.put, List.setIfInBounds_toArray, List.set_cons_zero, List.set_cons_succ]
      refine' wpAnyH_take (i := 28) (oi := { dst := some 62, op := Op.move (Operand.tmp 0), type := 9, pos := "law.go:96", after := #[{ on := 27, ground := Ground.guard }], guard := some (27, true) }) (v := ?v204025) rfl (by kernel_rfl) (by kernel_rfl) (by kernel_rfl) (fun _ _ _ h => h) (.inl ⟨by first | rfl | simp [Region.wanted, yielded], ?hy204025⟩) (by assumption) ?rest204025
      case hy204025 => (intro W hW; obtain ⟨⟨⟨f1, f2, f3⟩, ⟨f4, f5, f6⟩⟩, f7, f8⟩ := HCP.out _ hW; go_simp; try with_reducible rfl)
      simp only [Act.put, List.setIfInBounds_toArray, List.set_cons_zero, List.set_cons_succ]
      refine' wpAnyH_take (i := 29) (oi := { dst := some 63, op := Op.move (Operand.tmp 1), type := 9, pos := "law.go:96", after := #[{ on := 27, ground := Ground.guard }], guard := some (27, true) }) (v := ?v204026) rfl (by kernel_rfl) (by kernel_rfl) (by kernel_rfl) (fun _ _ _ h => h) (.inl ⟨by first | rfl | simp [Region.wanted, yielded], ?hy204026⟩) (by assumption) ?rest204026
      case hy204026 => (intro W hW; obtain ⟨⟨⟨f1, f2, f3⟩, ⟨f4, f5, f6⟩⟩, f7, f8⟩ := HCP.out _ hW; go_simp; try with_reducible rfl)
      simp only [Act.put, List.setIfInBounds_toArray, List.set_cons_zero, List.set_cons_succ]
      refine' wpAnyH_take (i := 30) (oi := { dst := some 64, op := Op.binOp BinOp.neq 9 (Operand.tmp 62) (Operand.tmp 63) 9, type := 4, pos := "law.go:96", after := #[{ on := 28, ground := Ground.data }, { on := 29, ground := Ground.data }, { on := 27, ground := Ground.guard }], guard := some (27, true) }) (v := ?v204027) rfl (by kernel_rfl) (by kernel_rfl) (by kernel_rfl) (fun _ _ _ h => h) (.inl ⟨by first | rfl | simp [Region.wanted, yielded], ?hy204027⟩) (by assumption) ?rest204027
      case hy204027 => (intro W hW; obtain ⟨⟨⟨f1, f2, f3⟩, ⟨f4, f5, f6⟩⟩, f7, f8⟩ := HCP.out _ hW; go_simp; try with_reducible rfl)
      simp only [Act.put, List.setIfInBounds_toArray, List.set_cons_zero, List.set_cons_succ]
      refine' wpAnyH_take (i := 31) (oi := { dst := some 65, op := Op.move (Operand.tmp 64), type := 4, pos := "law.go:96", after := #[{ on := 30, ground := Ground.data }, { on := 27, ground := Ground.chain }, { on := 27, ground := Ground.guard }], guard := some (27, true) }) (v := ?v204028) rfl (by kernel_rfl) (by kernel_rfl) (by kernel_rfl) (fun _ _ _ h => h) (.inl ⟨by first | rfl | simp [Region.wanted, yielded], ?hy204028⟩) (by assumption) ?rest204028
      case hy204028 => (intro W hW; obtain ⟨⟨⟨f1, f2, f3⟩, ⟨f4, f5, f6⟩⟩, f7, f8⟩ := HCP.out _ hW; go_simp; try with_reducible rfl)
      simp only [Act.put, List.setIfInBounds_toArray, List.set_cons_zero, List.set_cons_succ]
      refine' wpAnyH_take (i := 32) (oi := { dst := some 66, op := Op.load 25 (Operand.tmp 5), type := 25, pos := "law.go:96", after := #[{ on := 31, ground := Ground.guard }], guard := some (31, false) }) (v := undef) rfl (by kernel_rfl) (by kernel_rfl) (by kernel_rfl) (fun _ _ _ h => h) (.inr ⟨by first | rfl | simp [Region.wanted, yielded], rfl⟩) (by assumption) ?rest204029
      simp only [Act.put, List.setIfInBounds_toArray, List.set_cons_zero, List.set_cons_succ]
      refine' wpAnyH_take (i := 33) (oi := { dst := some 67, op := Op.load 25 (Operand.tmp 6), type := 25, pos := "law.go:96", after := #[{ on := 31, ground := Ground.guard }], guard := some (31, false) }) (v := undef) rfl (by kernel_rfl) (by kernel_rfl) (by kernel_rfl) (fun _ _ _ h => h) (.inr ⟨by first | rfl | simp [Region.wanted, yielded], rfl⟩) (by assumption) ?rest204030
      simp only [Act.put, List.setIfInBounds_toArray, List.set_cons_zero, List.set_cons_succ]
      refine' wpAnyH_take (i := 34) (oi := { dst := some 68, op := Op.binOp BinOp.eql 25 (Operand.tmp 66) (Operand.tmp 67) 25, type := 4, pos := "law.go:96", after := #[{ on := 32, ground := Ground.data }, { on := 33, ground := Ground.data }, { on := 31, ground := Ground.guard }], guard := some (31, false) }) (v := undef) rfl (by kernel_rfl) (by kernel_rfl) (by kernel_rfl) (fun _ _ _ h => h) (.inr ⟨by first | rfl | simp [Region.wanted, yielded], rfl⟩) (by assumption) ?rest204031
      simp only [Act.put, List.setIfInBounds_toArray, List.set_cons_zero, List.set_cons_succ]
      refine' wpAnyH_take (i := 35) (oi := { dst := some 69, op := Op.pick (Operand.tmp 65) (Operand.const (Value.bool true)) (Operand.tmp 68), type := 4, pos := "law.go:96", after := #[{ on := 31, ground := Ground.data }, { on := 34, ground := Ground.data }, { on := 27, ground := Ground.guard }], guard := some (27, true) }) (v := ?v204032) rfl (by kernel_rfl) (by kernel_rfl) (by kernel_rfl) (fun _ _ _ h => h) (.inl ⟨by first | rfl | simp [Region.wanted, yielded], ?hy204032⟩) (by assumption) ?rest204032
      case hy204032 => (intro W hW; obtain ⟨⟨⟨f1, f2, f3⟩, ⟨f4, f5, f6⟩⟩, f7, f8⟩ := HCP.out _ hW; go_simp; try with_reducible rfl)
      simp only [Act.put, List.setIfInBounds_toArray, List.set_cons_zero, List.set_cons_succ]
      refine' wpAnyH_take (i := 36) (oi := { dst := some 70, op := Op.pick (Operand.tmp 61) (Operand.tmp 69) (Operand.const (Value.bool false)), type := 4, pos := "law.go:96", after := #[{ on := 27, ground := Ground.data }, { on := 35, ground := Ground.data }], guard := none }) (v := ?v204033) rfl (by kernel_rfl) (by kernel_rfl) (by kernel_rfl) (fun _ _ _ h => h) (.inl ⟨by first | rfl | simp [Region.wanted, yielded], ?hy204033⟩) (by assumption) ?rest204033
      case hy204033 => (intro W hW; obtain ⟨⟨⟨f1, f2, f3⟩, ⟨f4, f5, f6⟩⟩, f7, f8⟩ := HCP.out _ hW; go_simp; try with_reducible rfl)
      simp only [Act.put, List.setIfInBounds_toArray, List.set_cons_zero, List.set_cons_succ]
      refine' wpAnyH_take (i := 37) (oi := { dst := some 71, op := Op.move (Operand.tmp 70), type := 4, pos := "law.go:96", after := #[{ on := 36, ground := Ground.data }, { on := 31, ground := Ground.chain }], guard := none }) (v := ?v204034) rfl (by kernel_rfl) (by kernel_rfl) (by kernel_rfl) (fun _ _ _ h => h) (.inl ⟨by first | rfl | simp [Region.wanted, yielded], ?hy204034⟩) (by assumption) ?rest204034
      case hy204034 => (intro W hW; obtain ⟨⟨⟨f1, f2, f3⟩, ⟨f4, f5, f6⟩⟩, f7, f8⟩ := HCP.out _ hW; go_simp; try with_reducible rfl)
      simp only [Act.put, List.setIfInBounds_toArray, List.set_cons_zero, List.set_cons_succ]
      refine wpAnyH_ready (rs := [38]) (by kernel_rfl) (by simp) ?_
      refine AllReadyH.cons (o := { dst := some 72, op := Op.call { callee := Callee.value (Operand.func 7), args := #[], argTypes := #[] }, type := 4, pos := "law.go:96", after := #[{ on := 37, ground := Ground.chain }, { on := 37, ground := Ground.guard }], guard := some (37, true) }) rfl (fun K hK => ?_) (AllReadyH.nil)
      try simp only [List.getElem_toArray, List.getElem_cons_succ, List.getElem_cons_zero]
      go_simp
      refine (HWk.out _).mono ?_
      rintro e z21 ⟨rfl, hz21⟩
      have HB21 := hHeld.trans (hz21.mono hHeld.size)
      refine hK.out _ _ HB21 (fun hHeld => ?_)
      clear hK K
      try simp only [Act.put, List.setIfInBounds_toArray, List.set_cons_zero, List.set_cons_succ]
      refine' wpAnyH_take (i := 39) (oi := { dst := some 73, op := Op.pick (Operand.tmp 71) (Operand.tmp 72) (Operand.const (Value.bool false)), type := 4, pos := "law.go:96", after := #[{ on := 37, ground := Ground.data }, { on := 38, ground := Ground.data }], guard := none }) (v := ?v204035) rfl (by kernel_rfl) (by kernel_rfl) (by kernel_rfl) (fun _ _ _ h => h) (.inl ⟨by first | rfl | simp [Region.wanted, yielded], ?hy204035⟩) (by assumption) ?rest204035
      case hy204035 => (intro W hW; obtain ⟨⟨⟨f1, f2, f3⟩, ⟨f4, f5, f6⟩⟩, f7, f8⟩ := HCP.out _ hW; go_simp; try with_reducible rfl)
      simp only [Act.put, List.setIfInBounds_toArray, List.set_cons_zero, List.set_cons_succ]
      refine' wpAnyH_take (i := 40) (oi := { dst := some 4, op := Op.assign (Operand.tmp 73), type := 4, pos := "law.go:96", after := #[{ on := 39, ground := Ground.data }, { on := 38, ground := Ground.chain }, { on := 0, ground := Ground.phase }, { on := 1, ground := Ground.phase }, { on := 2, ground := Ground.phase }, { on := 3, ground := Ground.phase }, { on := 4, ground := Ground.phase }, { on := 5, ground := Ground.phase }, { on := 6, ground := Ground.phase }, { on := 7, ground := Ground.phase }, { on := 8, ground := Ground.phase }, { on := 9, ground := Ground.phase }, { on := 10, ground := Ground.phase }, { on := 11, ground := Ground.phase }, { on := 12, ground := Ground.phase }, { on := 13, ground := Ground.phase }, { on := 14, ground := Ground.phase }, { on := 15, ground := Ground.phase }, { on := 16, ground := Ground.phase }, { on := 17, ground := Ground.phase }, { on := 18, ground := Ground.phase }, { on := 19, ground := Ground.phase }, { on := 20, ground := Ground.phase }, { on := 21, ground := Ground.phase }, { on := 22, ground := Ground.phase }, { on := 23, ground := Ground.phase }, { on := 24, ground := Ground.phase }, { on := 25, ground := Ground.phase }, { on := 26, ground := Ground.phase }, { on := 27, ground := Ground.phase }, { on := 28, ground := Ground.phase }, { on := 29, ground := Ground.phase }, { on := 30, ground := Ground.phase }, { on := 31, ground := Ground.phase }, { on := 32, ground := Ground.phase }, { on := 33, ground := Ground.phase }, { on := 34, ground := Ground.phase }, { on := 35, ground := Ground.phase }, { on := 36, ground := Ground.phase }, { on := 37, ground := Ground.phase }, { on := 38, ground := Ground.phase }, { on := 39, ground := Ground.phase }], guard := none }) (v := ?v204036) rfl (by kernel_rfl) (by kernel_rfl) (by kernel_rfl) (fun _ _ _ h => h) (.inl ⟨by first | rfl | simp [Region.wanted, yielded], ?hy204036⟩) (by assumption) ?rest204036
      case hy204036 => (intro W hW; obtain ⟨⟨⟨f1, f2, f3⟩, ⟨f4, f5, f6⟩⟩, f7, f8⟩ := HCP.out _ hW; go_simp; try with_reducible rfl)
      simp only [Act.put, List.setIfInBounds_toArray, List.set_cons_zero, List.set_cons_succ]
      refine wpAnyH_done (by kernel_rfl) ?_ _
      have HBe := Lib.hid (B1.out.trans (hHeld.mono B1.out.size))
      go_wp2
      go_ret
      exact ⟨rfl, HBe.out⟩
end Go.Proofs.Ytfnojmkiajdoaaa
