/-
  FieldLine, walked.
-/
import Derived.Test.YtfnojmkiajdoaaaR
namespace Go.Proofs.Ytfnojmkiajdoaaa
open Go.RowKit
set_option linter.unusedVariables false
set_option linter.unusedSimpArgs false
attribute [local go_sem high] neq25 eql25

/-- A Kind's name. -/
def nameB (k : Int) : ByteArray := if k = 1 then ⟨#[101, 110, 100]⟩ else if k = 2 then ⟨#[99, 111, 109, 109, 101, 110, 116]⟩ else if k = 3 then ⟨#[100, 97, 116, 97]⟩ else if k = 4 then ⟨#[101, 118, 101, 110, 116]⟩ else if k = 5 then ⟨#[105, 100]⟩ else if k = 6 then ⟨#[114, 101, 116, 114, 121]⟩ else if k = 7 then ⟨#[111, 116, 104, 101, 114]⟩ else ⟨#[]⟩
def namesA : Array Value := #[.string ⟨#[]⟩, .string ⟨#[101, 110, 100]⟩, .string ⟨#[99, 111, 109, 109, 101, 110, 116]⟩, .string ⟨#[100, 97, 116, 97]⟩, .string ⟨#[101, 118, 101, 110, 116]⟩, .string ⟨#[105, 100]⟩, .string ⟨#[114, 101, 116, 114, 121]⟩, .string ⟨#[111, 116, 104, 101, 114]⟩]
theorem names30 (w : World) : Calls Try.prog 30 #[] w fun e w' => e = .returned (.agg namesA) ∧ Below w.heap.size w w' := by
  go_enter Try.func30, Try.ntmps30
  go_wp2
  exact bodyPost_ret (v := .agg namesA) (by simp [results, Try.results30, go_sem, namesA]) rfl ⟨rfl, (Below.refl _ w).alloc (Nat.le_refl _) _⟩
set_option maxHeartbeats 1600000 in
theorem Name17 (k : Int) (w : World) : Calls Try.prog 17 #[.int .i64 k] w fun e w' => e = .returned (.string (nameB k)) ∧ Below w.heap.size w w' := by
  have HN := Lib.hid (names30 w)
  by_cases hk : 1 ≤ k ∧ k ≤ 7
  · have hc : k = 1 ∨ k = 2 ∨ k = 3 ∨ k = 4 ∨ k = 5 ∨ k = 6 ∨ k = 7 := by omega
    clear hk
    rcases hc with rfl | rfl | rfl | rfl | rfl | rfl | rfl <;>
    · unfold nameB
      go_enter Try.func17, Try.ntmps17
      go_wp2_with (go_at_call 30; fail)
      refine HN.out.mono ?_
      rintro e w1 ⟨rfl, hb⟩
      have HB := Lib.hid (hb.alloc hb.size (.cells namesA 62))
      unfold namesA
      clear hb
      go_wp2
      go_ret
      exact ⟨rfl, HB.out⟩
  · have e : nameB k = ⟨#[]⟩ := by
      unfold nameB
      rw [if_neg (by omega)]
      rw [if_neg (by omega)]
      rw [if_neg (by omega)]
      rw [if_neg (by omega)]
      rw [if_neg (by omega)]
      rw [if_neg (by omega)]
      rw [if_neg (by omega)]
    rw [e]
    obtain ⟨b1, hb1⟩ : ∃ b, decide (0 < k) = b := ⟨_, rfl⟩
    obtain ⟨b2, hb2⟩ : ∃ b, decide (k < 8) = b := ⟨_, rfl⟩
    have hb : b1 = false ∨ (b1 = true ∧ b2 = false) := by
      rw [← hb1, ← hb2]
      simp only [decide_eq_false_iff_not, decide_eq_true_eq]
      omega
    clear e hk
    rcases hb with rfl | ⟨rfl, rfl⟩ <;>
    · go_enter Try.func17, Try.ntmps17
      go_wp2_with (go_at_call 30; fail)
      refine HN.out.mono ?_
      rintro e w1 ⟨rfl, hb⟩
      have HB := Lib.hid (hb.alloc hb.size (.cells namesA 62))
      unfold namesA
      clear hb
      go_wp2
      go_ret
      exact ⟨rfl, HB.out⟩
set_option maxHeartbeats 1600000 in
theorem refName18 (k : Int) (w : World) : Calls Try.prog 18 #[.int .i64 k] w fun e w' => e = .returned (.string (nameB k)) ∧ Below w.heap.size w w' := by
  by_cases hk : 1 ≤ k ∧ k ≤ 7
  · have hc : k = 1 ∨ k = 2 ∨ k = 3 ∨ k = 4 ∨ k = 5 ∨ k = 6 ∨ k = 7 := by omega
    clear hk
    have HB := Lib.hid (fun o => (Below.refl _ w).alloc (Nat.le_refl _) o)
    rcases hc with rfl | rfl | rfl | rfl | rfl | rfl | rfl <;>
    · unfold nameB
      go_enter Try.func18, Try.ntmps18
      go_wp2
      go_ret
      exact ⟨rfl, HB.out _⟩
  · have e : nameB k = ⟨#[]⟩ := by
      unfold nameB
      rw [if_neg (by omega)]
      rw [if_neg (by omega)]
      rw [if_neg (by omega)]
      rw [if_neg (by omega)]
      rw [if_neg (by omega)]
      rw [if_neg (by omega)]
      rw [if_neg (by omega)]
    rw [e]
    obtain ⟨b1, hb1⟩ : ∃ b, decide (k < 1) = b := ⟨_, rfl⟩
    obtain ⟨b2, hb2⟩ : ∃ b, decide (7 < k) = b := ⟨_, rfl⟩
    have hb : b1 = true ∨ (b1 = false ∧ b2 = true) := by
      rw [← hb1, ← hb2]
      simp only [decide_eq_false_iff_not, decide_eq_true_eq]
      omega
    clear e hk
    rcases hb with rfl | ⟨rfl, rfl⟩ <;>
    · go_enter Try.func18, Try.ntmps18
      go_wp2
      go_ret
      exact ⟨rfl, Below.refl _ _⟩
set_option maxHeartbeats 6400000 in
set_option maxRecDepth 100000 in
theorem line_any (k : Int) (hk0 : -9223372036854775808 ≤ k) (hk1 : k ≤ 9223372036854775807) (N V : ByteArray) (hN : N.size ≤ 1000000000000000) (hV : V.size ≤ 1000000000000000) (w : World) : Calls Try.prog 5 #[.agg #[.int .i64 k, .string N, .string V]] w fun e w' => e = .returned (.bool true) ∧ Below w.heap.size w w' := by
  have HWk := Lib.hid works_true
  have HNum := Lib.hid num16
  obtain ⟨w1, hw1⟩ : ∃ W, W = w.alloc (.cells #[.int .i64 k, .string N, .string V] 25) := ⟨_, rfl⟩
  have b1 : Below w.heap.size w w1 := by rw [hw1]; exact (Below.refl _ w).alloc (Nat.le_refl _) _
  have k1 : w1.heap[w.heap.size]? = some (.cells #[.int .i64 k, .string N, .string V] 25 (0, 0)) := by rw [hw1]; exact alloc_blk_new _ _
  have HCP : Hid (∀ W, Below w1.heap.size w1 W → (W.cell? ⟨w.heap.size, 0, none⟩ = some (.int .i64 k) ∧ W.cell? ⟨w.heap.size, 1, none⟩ = some (.string N) ∧ W.cell? ⟨w.heap.size, 2, none⟩ = some (.string V)) ∧ w.heap.size < W.heap.size) := Lib.hid fun W hW => by
    have q := (hW.block _ (blk_lt k1)).trans k1
    exact ⟨⟨cell_blk q 0 _ rfl, cell_blk q 1 _ rfl, cell_blk q 2 _ rfl⟩, blk_lt q⟩
  have E1 := Lib.hid hw1
  have B1 := Lib.hid b1
  have hwr : IntKind.i64.wrap ((N.size : Int) + V.size) = (N.size : Int) + V.size := by rw [IntKind.wrap_i64]; omega
  by_cases hbig : 600 < N.size + V.size
  · have d1 : decide ((600 : Int) < (N.size : Int) + V.size) = true := by simp; omega
    clear hbig hw1 b1 k1
    go_enter Try.func5, Try.ntmps5
    go_wp2_with (go_at_call 7; fail)
    rw [← E1.out]
    refine (HWk.out _).mono ?_
    rintro e w2 ⟨rfl, hb⟩
    have HB := Lib.hid (B1.out.trans (hb.mono B1.out.size))
    clear hb
    go_wp2
    go_ret
    exact ⟨rfl, HB.out⟩
  have d1 : decide ((600 : Int) < (N.size : Int) + V.size) = false := by simp; omega
  obtain ⟨f, hf⟩ : ∃ f : Fd, f = ⟨k, nums N, nums V⟩ := ⟨_, rfl⟩
  have hok : f.Ok := by
    rw [hf]
    exact ⟨nums_byt N, nums_byt V, by simp only [nums_len]; omega, hk0, hk1⟩
  have eF : fdV f = .agg #[.int .i64 k, .string N, .string V] := by rw [hf]; unfold fdV; simp only [str_nums]
  obtain ⟨c, hc⟩ : ∃ c, c = countsF f := ⟨_, rfl⟩
  obtain ⟨r1, hr1⟩ : ∃ c, c = (retryF f).1 := ⟨_, rfl⟩
  obtain ⟨r2, hr2⟩ : ∃ c, c = (retryF f).2 := ⟨_, rfl⟩
  obtain ⟨r, hr⟩ : ∃ c, c = rightF f := ⟨_, rfl⟩
  obtain ⟨Lx, hLx⟩ : ∃ c, c = strOfNums (lineF f) := ⟨_, rfl⟩
  obtain ⟨L, hL⟩ : ∃ c, c = strOfNums (if rightF f = true then lineF f else []) := ⟨_, rfl⟩
  obtain ⟨er, her⟩ : ∃ c : Int, c = (if rightF f = true then 0 else 2) := ⟨_, rfl⟩
  have hLr : (r = true → L = Lx ∧ er = 0) ∧ (r = false → L = ⟨#[]⟩ ∧ er = 2) := by
    rw [hL, her, hLx, hr]
    constructor <;> intro e <;> rw [e] <;> simp
    exact str_nil
  obtain ⟨M, hM⟩ : ∃ M, M = nameB k := ⟨_, rfl⟩
  have z0 : ((⟨#[]⟩ : ByteArray).toList == []) = true := str_isnil (a := []) true (by simp)
  have HA : Hid (∀ W, Calls Try.prog 12 #[.agg #[.int .i64 k, .string N, .string V]] W fun e w' => e = .returned (.tuple #[.string L, .int .i64 er]) ∧ Below W.heap.size W w') := Lib.hid fun W => by
    rw [← eF, hL, her]; exact Line12 f hok W
  have HC : Hid (∀ W, Calls Try.prog 10 #[.agg #[.int .i64 k, .string N, .string V]] W fun e w' => e = .returned (.tuple #[.int .u64 r1, .bool r2]) ∧ Below W.heap.size W w') := Lib.hid fun W => by
    rw [← eF, hr1, hr2]; exact Retry10 f hok W
  have HD : Hid (∀ W, Calls Try.prog 11 #[.agg #[.int .i64 k, .string N, .string V]] W fun e w' => e = .returned (.tuple #[.int .u64 r1, .bool r2]) ∧ Below W.heap.size W w') := Lib.hid fun W => by
    rw [← eF, hr1, hr2]; exact refRetry11 f hok W
  have HF : Hid (∀ W, Calls Try.prog 13 #[.agg #[.int .i64 k, .string N, .string V]] W fun e w' => e = .returned (.bool c) ∧ Below W.heap.size W w') := Lib.hid fun W => by
    rw [← eF, hc]; exact Counts13 f hok W
  have HG : Hid (∀ W, Calls Try.prog 14 #[.agg #[.int .i64 k, .string N, .string V]] W fun e w' => e = .returned (.bool c) ∧ Below W.heap.size W w') := Lib.hid fun W => by
    rw [← eF, hc]; exact refCounts14 f hok W
  have HH : Hid (∀ W, Calls Try.prog 15 #[.agg #[.int .i64 k, .string N, .string V]] W fun e w' => e = .returned (.string Lx) ∧ Below W.heap.size W w') := Lib.hid fun W => by
    rw [← eF, hLx]; exact refLine15 f hok W
  have HR : Hid (∀ W, Calls Try.prog 19 #[.agg #[.int .i64 k, .string N, .string V]] W fun e w' => e = .returned (.bool r) ∧ Below W.heap.size W w') := Lib.hid fun W => by
    rw [← eF, hr]; exact refRight19 f hok W
  have HP : Hid (∀ W, Calls Try.prog 17 #[.int .i64 k] W fun e w' => e = .returned (.string M) ∧ Below W.heap.size W w') := Lib.hid fun W => by
    rw [hM]; exact Name17 k W
  have HQ : Hid (∀ W, Calls Try.prog 18 #[.int .i64 k] W fun e w' => e = .returned (.string M) ∧ Below W.heap.size W w') := Lib.hid fun W => by
    rw [hM]; exact refName18 k W
  obtain ⟨⟨c0, c1, c2⟩, cl⟩ := HCP.out w1 (Below.refl _ _)
  have HLr := Lib.hid hLr
  clear hbig hw1 b1 k1 hf hok eF hc hr1 hr2 hr hLx hL her hM hLr hN hV hk0 hk1
  go_enter Try.func5, Try.ntmps5
  go_upto_region 3 with fail
  rw [← E1.out]
  go_wp2_with (go_at_call 12; fail)
  refine (HA.out _).mono ?_
  rintro e y1 ⟨rfl, hb⟩
  have By1 := Lib.hid hb
  clear hb c0 c1 c2 cl
  obtain ⟨⟨c0, c1, c2⟩, cl⟩ := HCP.out _ By1.out
  go_wp2_with (go_at_call 10; fail)
  refine (HC.out _).mono ?_
  rintro e y2 ⟨rfl, hb⟩
  have By2 := Lib.hid (By1.out.trans (hb.mono By1.out.size))
  clear hb c0 c1 c2 cl
  obtain ⟨⟨c0, c1, c2⟩, cl⟩ := HCP.out _ By2.out
  go_wp2_with (go_at_call 11; fail)
  refine (HD.out _).mono ?_
  rintro e y3 ⟨rfl, hb⟩
  have By3 := Lib.hid (By2.out.trans (hb.mono By2.out.size))
  clear hb c0 c1 c2 cl
  obtain ⟨⟨c0, c1, c2⟩, cl⟩ := HCP.out _ By3.out
  go_upto_region 6 with fail
  refine wp_region_held_drew (S := fun W => Below w1.heap.size w1 W) (by kernel_rfl) (By3.out.trans ((Below.drewN' y3 1).mono By3.out.size)) (fun hHeld => ?_)
  generalize y3.drew = wd at hHeld ⊢
  refine' wpAnyH_take (i := 0) (oi := { dst := some 33, op := Op.fieldAddr 25 (Operand.tmp 1) 0, type := 0, pos := "law.go:43", after := #[], guard := none }) (v := ?v401001) rfl (by kernel_rfl) (by kernel_rfl) (by kernel_rfl) (fun _ _ _ h => h) (.inl ⟨by first | rfl | simp [Region.wanted, yielded], ?hy401001⟩) (by assumption) ?rest401001
  case hy401001 => (intro W hW; obtain ⟨⟨f1, f2, f3⟩, f4⟩ := HCP.out _ hW; go_simp; try with_reducible rfl)
  simp only [Act.put, List.setIfInBounds_toArray, List.set_cons_zero, List.set_cons_succ]
  refine' wpAnyH_take (i := 1) (oi := { dst := some 34, op := Op.load 23 (Operand.tmp 33), type := 23, pos := "law.go:43", after := #[{ on := 0, ground := Ground.data }], guard := none }) (v := ?v401002) rfl (by kernel_rfl) (by kernel_rfl) (by kernel_rfl) (fun _ _ _ h => h) (.inl ⟨by first | rfl | simp [Region.wanted, yielded], ?hy401002⟩) (by assumption) ?rest401002
  case hy401002 => (intro W hW; obtain ⟨⟨f1, f2, f3⟩, f4⟩ := HCP.out _ hW; go_simp; try with_reducible rfl)
  simp only [Act.put, List.setIfInBounds_toArray, List.set_cons_zero, List.set_cons_succ]
  refine' wpAnyH_take (i := 3) (oi := { dst := some 36, op := Op.fieldAddr 25 (Operand.tmp 1) 0, type := 0, pos := "law.go:43", after := #[], guard := none }) (v := ?v401003) rfl (by kernel_rfl) (by kernel_rfl) (by kernel_rfl) (fun _ _ _ h => h) (.inl ⟨by first | rfl | simp [Region.wanted, yielded], ?hy401003⟩) (by assumption) ?rest401003
  case hy401003 => (intro W hW; obtain ⟨⟨f1, f2, f3⟩, f4⟩ := HCP.out _ hW; go_simp; try with_reducible rfl)
  simp only [Act.put, List.setIfInBounds_toArray, List.set_cons_zero, List.set_cons_succ]
  refine' wpAnyH_take (i := 4) (oi := { dst := some 37, op := Op.load 23 (Operand.tmp 36), type := 23, pos := "law.go:43", after := #[{ on := 3, ground := Ground.data }], guard := none }) (v := ?v401004) rfl (by kernel_rfl) (by kernel_rfl) (by kernel_rfl) (fun _ _ _ h => h) (.inl ⟨by first | rfl | simp [Region.wanted, yielded], ?hy401004⟩) (by assumption) ?rest401004
  case hy401004 => (intro W hW; obtain ⟨⟨f1, f2, f3⟩, f4⟩ := HCP.out _ hW; go_simp; try with_reducible rfl)
  simp only [Act.put, List.setIfInBounds_toArray, List.set_cons_zero, List.set_cons_succ]
  refine wpAnyH_ready (rs := [2]) (by kernel_rfl) (by simp) ?_
  refine AllReadyH.cons (o := { dst := some 35, op := Op.call { callee := Callee.value (Operand.func 17), args := #[Operand.tmp 34], argTypes := #[23] }, type := 9, pos := "law.go:43", after := #[{ on := 1, ground := Ground.data }], guard := none }) rfl (fun K hK => ?_) (AllReadyH.nil)
  try simp only [List.getElem_toArray, List.getElem_cons_succ, List.getElem_cons_zero]
  go_simp
  refine (HP.out _).mono ?_
  rintro e z1 ⟨rfl, hz1⟩
  have HB1 := hHeld.trans (hz1.mono hHeld.size)
  refine hK.out _ _ HB1 (fun hHeld => ?_)
  clear hK K
  try simp only [Act.put, List.setIfInBounds_toArray, List.set_cons_zero, List.set_cons_succ]
  refine wpAnyH_ready (rs := [5]) (by kernel_rfl) (by simp) ?_
  refine AllReadyH.cons (o := { dst := some 38, op := Op.call { callee := Callee.value (Operand.func 18), args := #[Operand.tmp 37], argTypes := #[3] }, type := 9, pos := "law.go:43", after := #[{ on := 4, ground := Ground.data }, { on := 2, ground := Ground.chain }], guard := none }) rfl (fun K hK => ?_) (AllReadyH.nil)
  try simp only [List.getElem_toArray, List.getElem_cons_succ, List.getElem_cons_zero]
  go_simp
  refine (HQ.out _).mono ?_
  rintro e z2 ⟨rfl, hz2⟩
  have HB2 := hHeld.trans (hz2.mono hHeld.size)
  refine hK.out _ _ HB2 (fun hHeld => ?_)
  clear hK K
  try simp only [Act.put, List.setIfInBounds_toArray, List.set_cons_zero, List.set_cons_succ]
  refine' wpAnyH_take (i := 6) (oi := { dst := some 39, op := Op.binOp BinOp.neq 9 (Operand.tmp 35) (Operand.tmp 38) 9, type := 4, pos := "law.go:43", after := #[{ on := 2, ground := Ground.data }, { on := 5, ground := Ground.data }], guard := none }) (v := ?v401005) rfl (by kernel_rfl) (by kernel_rfl) (by kernel_rfl) (fun _ _ _ h => h) (.inl ⟨by first | rfl | simp [Region.wanted, yielded], ?hy401005⟩) (by assumption) ?rest401005
  case hy401005 => (intro W hW; obtain ⟨⟨f1, f2, f3⟩, f4⟩ := HCP.out _ hW; go_simp; try with_reducible rfl)
  simp only [Act.put, List.setIfInBounds_toArray, List.set_cons_zero, List.set_cons_succ]
  refine' wpAnyH_take (i := 7) (oi := { dst := some 40, op := Op.move (Operand.tmp 39), type := 4, pos := "law.go:43", after := #[{ on := 6, ground := Ground.data }, { on := 5, ground := Ground.chain }], guard := none }) (v := ?v401006) rfl (by kernel_rfl) (by kernel_rfl) (by kernel_rfl) (fun _ _ _ h => h) (.inl ⟨by first | rfl | simp [Region.wanted, yielded], ?hy401006⟩) (by assumption) ?rest401006
  case hy401006 => (intro W hW; obtain ⟨⟨f1, f2, f3⟩, f4⟩ := HCP.out _ hW; go_simp; try with_reducible rfl)
  simp only [Act.put, List.setIfInBounds_toArray, List.set_cons_zero, List.set_cons_succ]
  refine' wpAnyH_take (i := 8) (oi := { dst := some 41, op := Op.load 25 (Operand.tmp 1), type := 25, pos := "law.go:43", after := #[{ on := 7, ground := Ground.guard }], guard := some (7, false) }) (v := ?v401007) rfl (by kernel_rfl) (by kernel_rfl) (by kernel_rfl) (fun _ _ _ h => h) (.inl ⟨by first | rfl | simp [Region.wanted, yielded], ?hy401007⟩) (by assumption) ?rest401007
  case hy401007 => (intro W hW; obtain ⟨⟨f1, f2, f3⟩, f4⟩ := HCP.out _ hW; go_simp; try with_reducible rfl)
  simp only [Act.put, List.setIfInBounds_toArray, List.set_cons_zero, List.set_cons_succ]
  refine' wpAnyH_take (i := 10) (oi := { dst := some 43, op := Op.load 25 (Operand.tmp 1), type := 25, pos := "law.go:43", after := #[{ on := 7, ground := Ground.guard }], guard := some (7, false) }) (v := ?v401008) rfl (by kernel_rfl) (by kernel_rfl) (by kernel_rfl) (fun _ _ _ h => h) (.inl ⟨by first | rfl | simp [Region.wanted, yielded], ?hy401008⟩) (by assumption) ?rest401008
  case hy401008 => (intro W hW; obtain ⟨⟨f1, f2, f3⟩, f4⟩ := HCP.out _ hW; go_simp; try with_reducible rfl)
  simp only [Act.put, List.setIfInBounds_toArray, List.set_cons_zero, List.set_cons_succ]
  refine wpAnyH_ready (rs := [9]) (by kernel_rfl) (by simp) ?_
  refine AllReadyH.cons (o := { dst := some 42, op := Op.call { callee := Callee.value (Operand.func 13), args := #[Operand.tmp 41], argTypes := #[25] }, type := 4, pos := "law.go:43", after := #[{ on := 8, ground := Ground.data }, { on := 7, ground := Ground.chain }, { on := 7, ground := Ground.guard }], guard := some (7, false) }) rfl (fun K hK => ?_) (AllReadyH.nil)
  try simp only [List.getElem_toArray, List.getElem_cons_succ, List.getElem_cons_zero]
  go_simp
  refine (HF.out _).mono ?_
  rintro e z3 ⟨rfl, hz3⟩
  have HB3 := hHeld.trans (hz3.mono hHeld.size)
  refine hK.out _ _ HB3 (fun hHeld => ?_)
  clear hK K
  try simp only [Act.put, List.setIfInBounds_toArray, List.set_cons_zero, List.set_cons_succ]
  refine wpAnyH_ready (rs := [11]) (by kernel_rfl) (by simp) ?_
  refine AllReadyH.cons (o := { dst := some 44, op := Op.call { callee := Callee.value (Operand.func 14), args := #[Operand.tmp 43], argTypes := #[25] }, type := 4, pos := "law.go:43", after := #[{ on := 10, ground := Ground.data }, { on := 9, ground := Ground.chain }, { on := 7, ground := Ground.guard }], guard := some (7, false) }) rfl (fun K hK => ?_) (AllReadyH.nil)
  try simp only [List.getElem_toArray, List.getElem_cons_succ, List.getElem_cons_zero]
  go_simp
  refine (HG.out _).mono ?_
  rintro e z4 ⟨rfl, hz4⟩
  have HB4 := hHeld.trans (hz4.mono hHeld.size)
  refine hK.out _ _ HB4 (fun hHeld => ?_)
  clear hK K
  try simp only [Act.put, List.setIfInBounds_toArray, List.set_cons_zero, List.set_cons_succ]
  refine' wpAnyH_take (i := 12) (oi := { dst := some 45, op := Op.binOp BinOp.neq 4 (Operand.tmp 42) (Operand.tmp 44) 4, type := 4, pos := "law.go:43", after := #[{ on := 9, ground := Ground.data }, { on := 11, ground := Ground.data }, { on := 7, ground := Ground.guard }], guard := some (7, false) }) (v := ?v401009) rfl (by kernel_rfl) (by kernel_rfl) (by kernel_rfl) (fun _ _ _ h => h) (.inl ⟨by first | rfl | simp [Region.wanted, yielded], ?hy401009⟩) (by assumption) ?rest401009
  case hy401009 => (intro W hW; obtain ⟨⟨f1, f2, f3⟩, f4⟩ := HCP.out _ hW; go_simp; try with_reducible rfl)
  simp only [Act.put, List.setIfInBounds_toArray, List.set_cons_zero, List.set_cons_succ]
  refine' wpAnyH_take (i := 13) (oi := { dst := some 46, op := Op.pick (Operand.tmp 40) (Operand.const (Value.bool true)) (Operand.tmp 45), type := 4, pos := "law.go:43", after := #[{ on := 7, ground := Ground.data }, { on := 12, ground := Ground.data }], guard := none }) (v := ?v401010) rfl (by kernel_rfl) (by kernel_rfl) (by kernel_rfl) (fun _ _ _ h => h) (.inl ⟨by first | rfl | simp [Region.wanted, yielded], ?hy401010⟩) (by assumption) ?rest401010
  case hy401010 => (intro W hW; obtain ⟨⟨f1, f2, f3⟩, f4⟩ := HCP.out _ hW; go_simp; try with_reducible rfl)
  simp only [Act.put, List.setIfInBounds_toArray, List.set_cons_zero, List.set_cons_succ]
  refine' wpAnyH_take (i := 14) (oi := { dst := some 47, op := Op.move (Operand.tmp 46), type := 4, pos := "law.go:43", after := #[{ on := 13, ground := Ground.data }, { on := 11, ground := Ground.chain }], guard := none }) (v := ?v401011) rfl (by kernel_rfl) (by kernel_rfl) (by kernel_rfl) (fun _ _ _ h => h) (.inl ⟨by first | rfl | simp [Region.wanted, yielded], ?hy401011⟩) (by assumption) ?rest401011
  case hy401011 => (intro W hW; obtain ⟨⟨f1, f2, f3⟩, f4⟩ := HCP.out _ hW; go_simp; try with_reducible rfl)
  simp only [Act.put, List.setIfInBounds_toArray, List.set_cons_zero, List.set_cons_succ]
  refine' wpAnyH_take (i := 15) (oi := { dst := some 48, op := Op.move (Operand.tmp 5), type := 27, pos := "law.go:43", after := #[{ on := 14, ground := Ground.guard }], guard := some (14, false) }) (v := ?v401012) rfl (by kernel_rfl) (by kernel_rfl) (by kernel_rfl) (fun _ _ _ h => h) (.inl ⟨by first | rfl | simp [Region.wanted, yielded], ?hy401012⟩) (by assumption) ?rest401012
  case hy401012 => (intro W hW; obtain ⟨⟨f1, f2, f3⟩, f4⟩ := HCP.out _ hW; go_simp; try with_reducible rfl)
  simp only [Act.put, List.setIfInBounds_toArray, List.set_cons_zero, List.set_cons_succ]
  refine' wpAnyH_take (i := 16) (oi := { dst := some 49, op := Op.move (Operand.tmp 7), type := 27, pos := "law.go:43", after := #[{ on := 14, ground := Ground.guard }], guard := some (14, false) }) (v := ?v401013) rfl (by kernel_rfl) (by kernel_rfl) (by kernel_rfl) (fun _ _ _ h => h) (.inl ⟨by first | rfl | simp [Region.wanted, yielded], ?hy401013⟩) (by assumption) ?rest401013
  case hy401013 => (intro W hW; obtain ⟨⟨f1, f2, f3⟩, f4⟩ := HCP.out _ hW; go_simp; try with_reducible rfl)
  simp only [Act.put, List.setIfInBounds_toArray, List.set_cons_zero, List.set_cons_succ]
  refine' wpAnyH_take (i := 17) (oi := { dst := some 50, op := Op.binOp BinOp.neq 27 (Operand.tmp 48) (Operand.tmp 49) 27, type := 4, pos := "law.go:43", after := #[{ on := 15, ground := Ground.data }, { on := 16, ground := Ground.data }, { on := 14, ground := Ground.guard }], guard := some (14, false) }) (v := ?v401014) rfl (by kernel_rfl) (by kernel_rfl) (by kernel_rfl) (fun _ _ _ h => h) (.inl ⟨by first | rfl | simp [Region.wanted, yielded], ?hy401014⟩) (by assumption) ?rest401014
  case hy401014 => (intro W hW; obtain ⟨⟨f1, f2, f3⟩, f4⟩ := HCP.out _ hW; go_simp; try with_reducible rfl)
  simp only [Act.put, List.setIfInBounds_toArray, List.set_cons_zero, List.set_cons_succ]
  refine' wpAnyH_take (i := 18) (oi := { dst := some 51, op := Op.pick (Operand.tmp 47) (Operand.const (Value.bool true)) (Operand.tmp 50), type := 4, pos := "law.go:43", after := #[{ on := 14, ground := Ground.data }, { on := 17, ground := Ground.data }], guard := none }) (v := ?v401015) rfl (by kernel_rfl) (by kernel_rfl) (by kernel_rfl) (fun _ _ _ h => h) (.inl ⟨by first | rfl | simp [Region.wanted, yielded], ?hy401015⟩) (by assumption) ?rest401015
  case hy401015 => (intro W hW; obtain ⟨⟨f1, f2, f3⟩, f4⟩ := HCP.out _ hW; go_simp; try with_reducible rfl)
  simp only [Act.put, List.setIfInBounds_toArray, List.set_cons_zero, List.set_cons_succ]
  refine' wpAnyH_take (i := 19) (oi := { dst := some 52, op := Op.move (Operand.tmp 51), type := 4, pos := "law.go:43", after := #[{ on := 18, ground := Ground.data }, { on := 14, ground := Ground.chain }], guard := none }) (v := ?v401016) rfl (by kernel_rfl) (by kernel_rfl) (by kernel_rfl) (fun _ _ _ h => h) (.inl ⟨by first | rfl | simp [Region.wanted, yielded], ?hy401016⟩) (by assumption) ?rest401016
  case hy401016 => (intro W hW; obtain ⟨⟨f1, f2, f3⟩, f4⟩ := HCP.out _ hW; go_simp; try with_reducible rfl)
  simp only [Act.put, List.setIfInBounds_toArray, List.set_cons_zero, List.set_cons_succ]
  refine' wpAnyH_take (i := 20) (oi := { dst := some 53, op := Op.move (Operand.tmp 6), type := 4, pos := "law.go:43", after := #[{ on := 19, ground := Ground.guard }], guard := some (19, false) }) (v := ?v401017) rfl (by kernel_rfl) (by kernel_rfl) (by kernel_rfl) (fun _ _ _ h => h) (.inl ⟨by first | rfl | simp [Region.wanted, yielded], ?hy401017⟩) (by assumption) ?rest401017
  case hy401017 => (intro W hW; obtain ⟨⟨f1, f2, f3⟩, f4⟩ := HCP.out _ hW; go_simp; try with_reducible rfl)
  simp only [Act.put, List.setIfInBounds_toArray, List.set_cons_zero, List.set_cons_succ]
  refine' wpAnyH_take (i := 21) (oi := { dst := some 54, op := Op.move (Operand.tmp 8), type := 4, pos := "law.go:43", after := #[{ on := 19, ground := Ground.guard }], guard := some (19, false) }) (v := ?v401018) rfl (by kernel_rfl) (by kernel_rfl) (by kernel_rfl) (fun _ _ _ h => h) (.inl ⟨by first | rfl | simp [Region.wanted, yielded], ?hy401018⟩) (by assumption) ?rest401018
  case hy401018 => (intro W hW; obtain ⟨⟨f1, f2, f3⟩, f4⟩ := HCP.out _ hW; go_simp; try with_reducible rfl)
  simp only [Act.put, List.setIfInBounds_toArray, List.set_cons_zero, List.set_cons_succ]
  refine' wpAnyH_take (i := 22) (oi := { dst := some 55, op := Op.binOp BinOp.neq 4 (Operand.tmp 53) (Operand.tmp 54) 4, type := 4, pos := "law.go:43", after := #[{ on := 20, ground := Ground.data }, { on := 21, ground := Ground.data }, { on := 19, ground := Ground.guard }], guard := some (19, false) }) (v := ?v401019) rfl (by kernel_rfl) (by kernel_rfl) (by kernel_rfl) (fun _ _ _ h => h) (.inl ⟨by first | rfl | simp [Region.wanted, yielded], ?hy401019⟩) (by assumption) ?rest401019
  case hy401019 => (intro W hW; obtain ⟨⟨f1, f2, f3⟩, f4⟩ := HCP.out _ hW; go_simp; try with_reducible rfl)
  simp only [Act.put, List.setIfInBounds_toArray, List.set_cons_zero, List.set_cons_succ]
  refine' wpAnyH_take (i := 23) (oi := { dst := some 56, op := Op.pick (Operand.tmp 52) (Operand.const (Value.bool true)) (Operand.tmp 55), type := 4, pos := "law.go:43", after := #[{ on := 19, ground := Ground.data }, { on := 22, ground := Ground.data }], guard := none }) (v := ?v401020) rfl (by kernel_rfl) (by kernel_rfl) (by kernel_rfl) (fun _ _ _ h => h) (.inl ⟨by first | rfl | simp [Region.wanted, yielded], ?hy401020⟩) (by assumption) ?rest401020
  case hy401020 => (intro W hW; obtain ⟨⟨f1, f2, f3⟩, f4⟩ := HCP.out _ hW; go_simp; try with_reducible rfl)
  simp only [Act.put, List.setIfInBounds_toArray, List.set_cons_zero, List.set_cons_succ]
  refine wpAnyH_done (by kernel_rfl) ?_ _
  have HBe := Lib.hid hHeld
  obtain ⟨⟨g0, g1, g2⟩, gl⟩ := HCP.out _ hHeld
  clear c0 c1 c2 cl
  go_wp2_with (go_at_call 19; fail)
  refine (HR.out _).mono ?_
  rintro e x1 ⟨rfl, hb⟩
  have HX1 := Lib.hid (HBe.out.trans (hb.mono HBe.out.size))
  clear hb g0 g1 g2 gl
  obtain ⟨⟨g0, g1, g2⟩, gl⟩ := HCP.out _ HX1.out
  cases r with
  | true =>
    obtain ⟨rfl, rfl⟩ := HLr.out.1 rfl
    go_wp2_with (go_at_call 15; fail)
    refine (HH.out _).mono ?_
    rintro e x2 ⟨rfl, hb⟩
    have HX2 := Lib.hid (HX1.out.trans (hb.mono HX1.out.size))
    clear hb
    go_wp2_with (first | (go_at_call 16; refine (HNum.out _ _).mono ?_; rintro e w' ⟨rfl, rfl⟩) | (go_at_call 7; fail))
    refine (HWk.out _).mono ?_
    rintro e x3 ⟨rfl, hb⟩
    have HX3 := Lib.hid (B1.out.trans ((HX2.out.trans (hb.mono HX2.out.size)).mono B1.out.size))
    clear hb
    go_wp2
    go_ret
    exact ⟨rfl, HX3.out⟩
  | false =>
    obtain ⟨rfl, rfl⟩ := HLr.out.2 rfl
    go_wp2_with (first | (go_at_call 16; refine (HNum.out _ _).mono ?_; rintro e w' ⟨rfl, rfl⟩) | (go_at_call 7; fail))
    refine (HWk.out _).mono ?_
    rintro e x2 ⟨rfl, hb⟩
    have HX2 := Lib.hid (B1.out.trans ((HX1.out.trans (hb.mono HX1.out.size)).mono B1.out.size))
    clear hb
    go_wp2
    go_ret
    exact ⟨rfl, HX2.out⟩
end Go.Proofs.Ytfnojmkiajdoaaa
