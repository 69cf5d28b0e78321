/-
  A splitter: put.
-/
import Derived.Test.YtfkfooclapogjaaWe
import Derived.Deep.AppendSrc
import Derived.Deep.Upon
namespace Go.Proofs.Ytfkfooclapogjaa
open Go.RowKit
set_option linter.unusedVariables false
set_option linter.unusedSimpArgs false

theorem byteCells_str {ys : List Int} (h : Byt ys) : byteCells (strOfNums ys) = ys.map (.int .u8) := by
  unfold byteCells
  rw [strOfNums_data, List.map_map]
  apply List.map_congr_left
  intro x hx
  have := h x hx
  simp
  omega
/-- A string's bytes behind bytes without spare room. -/
theorem run_append_str (w : World) (ty : TypeId) (T : Nat → Prop) (ao : Option Addr) (n m : Nat) (xs ys : List Int) (h : Arg T w ao n xs) (ha : ao = none → n = 0) (hy : Byt ys) (hm : ys.length = m) (hl : n + m ≤ 140737488355328) :
    ∃ v w', (Builtin.append_ #[22, 9] ty #[.slice ao n n, .string (strOfNums ys)]).run Try.prog w = .ok v w' ∧ Below w.heap.size w w' ∧
      ((m = 0 ∧ v = .slice ao n n ∧ w' = w) ∨ (0 < m ∧ ∃ G cap, v = .slice (some ⟨G, 0, none⟩) (n + m) cap ∧ n + m ≤ cap ∧ cap ≤ maxLen ∧ w.heap.size ≤ G ∧ Arg (fun k => k = G) w' (some ⟨G, 0, none⟩) (n + m) (xs ++ ys))) := by
  obtain ⟨i0, hi, hz0, hz1, hz2⟩ := info_parts Try.info5
  have hsrc : Src Try.prog i0.size 9 (.string (strOfNums ys)) m (ys.map (.int .u8)) w := by
    have := Src.ofString (P := Try.prog) w (tx := 9) Try.underlying9 (strOfNums ys)
    rw [byteCells_str hy, strOfNums_size, hm] at this
    rw [hz1]
    exact this
  by_cases hm0 : m = 0
  · subst hm0
    obtain rfl : ys = [] := List.eq_nil_of_length_eq_zero hm
    exact ⟨_, w, run_append_nothing w 22 9 ty 5 i0 Try.underlying22 hi ao n n (Nat.le_refl _) _ hsrc, Below.refl _ _, .inl ⟨rfl, rfl, rfl⟩⟩
  · have hold : (Builtin.firstCells i0.size n (.slice ao n n)).run Try.prog w.drew = .ok (xs.map (Value.int .u8)).toArray w.drew := by
      rw [hz1]
      cases ao with
      | none =>
        obtain rfl := ha rfl
        obtain rfl : xs = [] := List.eq_nil_of_length_eq_zero h.1
        exact run_firstCells_none w.drew 1 0 0 0
      | some ad => exact run_firstCells_some w.drew 1 n ad n n _ (by simp [h.1]) (fun j v hj => by have := h.news ad rfl j v hj; simpa using this)
    have hr := run_append_grow_src (P := Try.prog) w 22 9 ty 5 i0 (.int .u8 0) Try.underlying22 hi hz0 ao n n (xs.map (.int .u8)) hold (.string (strOfNums ys)) m (ys.map (.int .u8)) hsrc (by omega) (by omega) (by rw [hz2]; exact growslice_fits (by omega) (by omega))
    have hge := grownCap_ge w (n + m) n 5
    have hle := grownCap_le_maxLen w (n + m) n 5 (by unfold maxLen; omega)
    obtain ⟨cap, hcap⟩ : ∃ cap, cap = grownCap w (n + m) n 5 := ⟨_, rfl⟩
    rw [← hcap] at hr hge hle
    obtain ⟨CC, hCC⟩ : ∃ CC, CC = (xs.map (Value.int .u8) ++ ys.map (Value.int .u8)).toArray ++ Builtin.zeroCells (Value.int .u8 0).cells (cap - (n + m)) := ⟨_, rfl⟩
    rw [← hCC] at hr
    have hblk : (w.drew.alloc (.cells CC 5)).heap[w.heap.size]? = some (.cells CC 5 (0, 0)) := alloc_blk_new w.drew _
    have hb : Below w.heap.size w (w.drew.alloc (.cells CC 5)) := by
      have h1 := (Below.drewN' w 1)
      exact h1.trans ((Below.refl _ w.drew).alloc (Nat.le_refl _) _)
    refine ⟨_, _, hr, hb, .inr ⟨by omega, w.heap.size, cap, rfl, hge, hle, Nat.le_refl _, by rw [List.length_append, h.1, hm], fun _ => ⟨w.heap.size, 0, rfl, blk_lt hblk, rfl, fun j hj => ?_⟩⟩⟩
    rw [Nat.zero_add]
    refine cell_blk hblk j _ ?_
    rw [hCC, ← List.map_append, Array.getElem?_append_left (by simp [h.1, hm]; omega)]
    simp only [List.getElem?_toArray, List.getElem?_map]
    have hjl : j < (xs ++ ys).length := by rw [List.length_append, h.1, hm]; exact hj
    rw [List.getElem?_eq_getElem hjl]
    simp only [Option.map_some, List.getD, List.getElem?_eq_getElem hjl, Option.getD_some]
theorem step_append_str {ops : Array Oper} {o : Oper} {a : Act} {w : World} {K : Act → World → Prop} {Q : Exit → Act → World → Prop} {E : Prop} (hgd : o.guard = none) (s x : Operand) (hop : o.op = Op.call { callee := Callee.builtin Builtin.append, args := #[s, x], argTypes := #[22, 9] })
    (T : Nat → Prop) (ao : Option Addr) (n m : Nat) (xs ys : List Int) (hs : a.eval s = .slice ao n n) (hx : a.eval x = .string (strOfNums ys)) (h : Arg T w ao n xs) (ha : ao = none → n = 0) (hy : Byt ys) (hm : ys.length = m) (hl : n + m ≤ 140737488355328)
    (hK : ∀ v w', Below w.heap.size w w' → ((m = 0 ∧ v = .slice ao n n ∧ w' = w) ∨ (0 < m ∧ ∃ G cap, v = .slice (some ⟨G, 0, none⟩) (n + m) cap ∧ n + m ≤ cap ∧ cap ≤ maxLen ∧ w.heap.size ≤ G ∧ Arg (fun k => k = G) w' (some ⟨G, 0, none⟩) (n + m) (xs ++ ys))) → K (a.put o.dst v) w') :
    if Region.wanted o (yielded ops a.tmps) = true then Oper.wp Try.prog o a w K Q else E := by
  have hw : Region.wanted o (yielded ops a.tmps) = true := by simp [Region.wanted, hgd]
  rw [if_pos hw]
  obtain ⟨v', w', hrun, h2, h3⟩ := run_append_str w o.type T ao n m xs ys h ha hy hm hl
  unfold Oper.wp
  simp [execOp, hop, resolve, invoke, builtin, hs, hx, hrun, Result.andThen]
  exact hK v' w' h2 h3
theorem SpAt.set_line {w : World} {p D : Nat} {most : Int} {a : Option Addr} {n c : Nat} {bg cr : Bool} (h : SpAt w p D most a n c bg cr) (a' : Option Addr) (n' c' : Nat) : SpAt (w.setCell ⟨p, 2, none⟩ (.slice a' n' c')) p D most a' n' c' bg cr := ⟨setCell_blk h.blk 2 _⟩
theorem SpAt.mod {w w' : World} {S : Nat → Prop} {p D : Nat} {most : Int} {a : Option Addr} {n c : Nat} {bg cr : Bool} (h : SpAt w p D most a n c bg cr) (hm : Mod S w w') (hs : ¬ S p) : SpAt w' p D most a n c bg cr := ⟨(hm.block p (blk_lt h.blk) hs).trans h.blk⟩
theorem SpAt.below {w w' : World} {p D : Nat} {most : Int} {a : Option Addr} {n c : Nat} {bg cr : Bool} (h : SpAt w p D most a n c bg cr) (hb : Below w.heap.size w w') : SpAt w' p D most a n c bg cr := ⟨(hb.block p (blk_lt h.blk)).trans h.blk⟩
/-- The line's bytes in memory. -/
structure Ln (T : Nat → Prop) (w : World) (a : Option Addr) (n c : Nat) (zs : List Int) : Prop where
  at_ : Arg T w a n zs
  na : a = none → n = 0 ∧ c = 0
  sp : ∀ ad, a = some ad → ad.spot = none
  nc : n ≤ c
  cm : c ≤ maxLen

set_option maxHeartbeats 3200000 in
set_option maxRecDepth 100000 in
/-- put, of one text. -/
theorem put_one {T : Nat → Prop} (p D most : Nat) (a : Option Addr) (n c : Nat) (bg cr : Bool) (xs ys : List Int) (b tc : Nat) (W0 : World) (h : SpAt W0 p D most a n c bg cr) (hL : Ln T W0 a n c xs) (hT : ∀ k, T k → k ≠ p) (hm : most ≤ 65536) (hn : n ≤ most + 1) (hy : Byt ys) (hyl : ys.length ≤ 1000000) (hb : W0.cell? ⟨b, 0, none⟩ = some (.string (strOfNums ys))) (hbl : b < W0.heap.size) :
    Calls Try.prog 47 #[.pointer (some ⟨p, 0, none⟩), .slice (some ⟨b, 0, none⟩) 1 tc] W0 fun e w' => (∃ v, e = .returned v) ∧ ∃ a' n' c', SpAt w' p D most a' n' c' bg cr ∧ Ln (fun k => (T k ∧ k < W0.heap.size) ∨ W0.heap.size ≤ k) w' a' n' c' (xs ++ ys.take (most + 1 - n)) ∧ Mod (fun k => k = p) W0 w' := by
  obtain ⟨SY, hSY⟩ : ∃ s, s = strOfNums ys := ⟨_, rfl⟩
  obtain ⟨Y, hY⟩ : ∃ n, n = ys.length := ⟨_, rfl⟩
  have zs : SY.size = Y := by rw [hSY, strOfNums_size, hY]
  rw [← hSY] at hb
  rw [← hY] at hyl
  obtain ⟨R, hR⟩ : ∃ R, R = most + 1 - n := ⟨_, rfl⟩
  rw [← hR]
  have hRi : (most : Int) + 1 - n = R := by omega
  have hRw : IntKind.i64.wrap ((most : Int) + 1 - n) = R := by rw [IntKind.wrap_i64]; omega
  have HSP := Lib.hid h
  have HLn := Lib.hid hL
  have HTP := Lib.hid hT
  have HBY := Lib.hid hy
  have HSY := Lib.hid hSY
  have HYL := Lib.hid hY.symm
  have HRR := Lib.hid hR
  obtain ⟨c0, c1, c2, _, _, f, lp⟩ := h.cells
  clear f h hL hT hy hSY hY hR c0
  go_enter Try.func47, Try.ntmps47
  go_wp2
  go_loopg [5, 6, 9] 1 (fun gk v5 v6 v9 wr => ∃ i : Nat, v9 = .int .i64 i ∧ i ≤ 1 ∧ gk = 1 - i ∧ ((i = 0 ∧ wr = W0) ∨ (i = 1 ∧ ∃ a' n' c', SpAt wr p D most a' n' c' bg cr ∧ Arg (fun k => (T k ∧ k < W0.heap.size) ∨ W0.heap.size ≤ k) wr a' n' (xs ++ ys.take R) ∧ (a' = none → n' = 0 ∧ c' = 0) ∧ (∀ ad, a' = some ad → ad.spot = none) ∧ n' ≤ c' ∧ c' ≤ maxLen ∧ Mod (fun k => k = p) W0 wr)))
  case atStart => exact ⟨0, rfl, by omega, rfl, .inl ⟨rfl, rfl⟩⟩
  case round =>
    obtain ⟨i, rfl, hi, hgk, ⟨rfl, hwr⟩ | ⟨rfl, a', n', c', g1, g2, g3, g4, g5, g6, g7⟩⟩ := hrel
    · obtain rfl : W0 = wr := hwr.symm
      have HG := Lib.hid hgk
      clear hgk
      go_wp2_with fail
      go_quiet (fail)
      obtain ⟨wq, hwq⟩ : ∃ W, W = W0.drewN nq := ⟨_, rfl⟩
      rw [← hwq]
      have HBQ : Hid (Below W0.heap.size W0 wq) := Lib.hid (by rw [hwq]; exact Below.drewN' W0 nq)
      have hqs : wq.heap.size = W0.heap.size := by rw [hwq]; rfl
      have lpq : p < wq.heap.size := by rw [hqs]; exact lp
      replace c2 : wq.cell? ⟨p, 2, none⟩ = some (.slice a n c) := by rw [hwq]; exact c2
      clear hwq c1 hb lp
      have hnc := HLn.out.nc
      have hcm := HLn.out.cm
      unfold maxLen at hcm
      cases a with
      | none =>
        have hn0 := HLn.out.na rfl
        obtain ⟨rfl, rfl⟩ := hn0
        rcases Nat.lt_trichotomy R Y with hRY | hRY | hRY
        · have d1 : decide (R < Y) = true := by simpa using hRY
          have d2 : decide ((R : Int) < Y) = true := by simp; omega
          have d3 : ¬ (Y < R) := by omega
          have d4 : ¬ ((Y : Int) < R) := by omega
          have d5 : (R : Int) < Y := by omega
          have d6 : (R : Int) ≤ Y := by omega
          have d7 : R ≤ Y := by omega
          have HTK : Hid ((ys.take R).length = R) := Lib.hid (by rw [List.length_take]; have := HYL.out; omega)
          have ex : SY.extract 0 R = strOfNums (ys.take R) := by rw [HSY.out, str_to]
          have HTT : Hid (ys.take R = ys.take R) := Lib.hid (by first | rfl | (rw [List.take_of_length_le (by have := HYL.out; omega), List.take_of_length_le (by have := HYL.out; omega)]))
          go_upto_region 4 with fail
          refine wp_region_K 25 (fun W => W.cell? ⟨p, 2, none⟩ = some (.slice none 0 0)) (by kernel_rfl) ?_
          obtain ⟨wd, hwd⟩ : ∃ W, W = (wq).drew := ⟨_, rfl⟩
          have HBd : Hid (Below (wq).heap.size (wq) wd) := Lib.hid (by rw [hwd]; exact Below.drewN' (wq) 1)
          have hS0 : (fun W : World => W.cell? ⟨p, 2, none⟩ = some (.slice none 0 0)) wd := by rw [hwd]; exact c2
          rw [← hwd]
          have HBe : Hid (Below W0.heap.size W0 wd) := Lib.hid (HBQ.out.trans (HBd.out.mono HBQ.out.size))
          clear hwd
          refine' wpAnyK_take (i := 0) (oi := { dst := some 24, op := Op.move (Operand.tmp 0), type := 24, pos := "lines.go:56", after := #[], guard := none }) (v := ?v1001) rfl (by kernel_rfl) (by kernel_rfl) (by kernel_rfl) [] (by kernel_rfl) (by decide) (by kernel_rfl) (by kernel_rfl) (fun _ _ _ h => h) hS0 (.inl ⟨by first | rfl | simp [Region.wanted, yielded], ?hy1001⟩) ?rest1001
          case hy1001 => (intro W hW; have f1 := hW; go_simp; try with_reducible rfl)
          simp only [Act.put, List.setIfInBounds_toArray, List.set_cons_zero, List.set_cons_succ]
          refine' wpAnyK_take (i := 1) (oi := { dst := some 25, op := Op.move (Operand.tmp 0), type := 24, pos := "lines.go:56", after := #[], guard := none }) (v := ?v1002) rfl (by kernel_rfl) (by kernel_rfl) (by kernel_rfl) [] (by kernel_rfl) (by decide) (by kernel_rfl) (by kernel_rfl) (fun _ _ _ h => h) hS0 (.inl ⟨by first | rfl | simp [Region.wanted, yielded], ?hy1002⟩) ?rest1002
          case hy1002 => (intro W hW; have f1 := hW; go_simp; try with_reducible rfl)
          simp only [Act.put, List.setIfInBounds_toArray, List.set_cons_zero, List.set_cons_succ]
          refine' wpAnyK_take (i := 2) (oi := { dst := some 26, op := Op.nilCheck (Operand.tmp 25), type := 0, pos := "lines.go:56", after := #[{ on := 1, ground := Ground.data }], guard := none }) (v := ?v1003) rfl (by kernel_rfl) (by kernel_rfl) (by kernel_rfl) [] (by kernel_rfl) (by decide) (by kernel_rfl) (by kernel_rfl) (fun _ _ _ h => h) hS0 (.inl ⟨by first | rfl | simp [Region.wanted, yielded], ?hy1003⟩) ?rest1003
          case hy1003 => (intro W hW; have f1 := hW; go_simp; try with_reducible rfl)
          simp only [Act.put, List.setIfInBounds_toArray, List.set_cons_zero, List.set_cons_succ]
          refine' wpAnyK_take (i := 3) (oi := { dst := some 27, op := Op.fieldAddr 60 (Operand.tmp 26) 2, type := 0, pos := "lines.go:56", after := #[{ on := 2, ground := Ground.data }], guard := none }) (v := ?v1004) rfl (by kernel_rfl) (by kernel_rfl) (by kernel_rfl) [] (by kernel_rfl) (by decide) (by kernel_rfl) (by kernel_rfl) (fun _ _ _ h => h) hS0 (.inl ⟨by first | rfl | simp [Region.wanted, yielded], ?hy1004⟩) ?rest1004
          case hy1004 => (intro W hW; have f1 := hW; go_simp; try with_reducible rfl)
          simp only [Act.put, List.setIfInBounds_toArray, List.set_cons_zero, List.set_cons_succ]
          refine' wpAnyK_take (i := 4) (oi := { dst := some 28, op := Op.load 22 (Operand.tmp 27), type := 22, pos := "lines.go:56", after := #[{ on := 3, ground := Ground.data }], guard := none }) (v := ?v1005) rfl (by kernel_rfl) (by kernel_rfl) (by kernel_rfl) [] (by kernel_rfl) (by decide) (by kernel_rfl) (by kernel_rfl) (fun _ _ _ h => h) hS0 (.inl ⟨by first | rfl | simp [Region.wanted, yielded], ?hy1005⟩) ?rest1005
          case hy1005 => (intro W hW; have f1 := hW; go_simp; try with_reducible rfl)
          simp only [Act.put, List.setIfInBounds_toArray, List.set_cons_zero, List.set_cons_succ]
          refine' wpAnyK_take (i := 5) (oi := { dst := some 29, op := Op.move (Operand.tmp 0), type := 24, pos := "lines.go:56", after := #[], guard := none }) (v := ?v1006) rfl (by kernel_rfl) (by kernel_rfl) (by kernel_rfl) [] (by kernel_rfl) (by decide) (by kernel_rfl) (by kernel_rfl) (fun _ _ _ h => h) hS0 (.inl ⟨by first | rfl | simp [Region.wanted, yielded], ?hy1006⟩) ?rest1006
          case hy1006 => (intro W hW; have f1 := hW; go_simp; try with_reducible rfl)
          simp only [Act.put, List.setIfInBounds_toArray, List.set_cons_zero, List.set_cons_succ]
          refine' wpAnyK_take (i := 6) (oi := { dst := some 30, op := Op.nilCheck (Operand.tmp 29), type := 0, pos := "lines.go:56", after := #[{ on := 5, ground := Ground.data }], guard := none }) (v := ?v1007) rfl (by kernel_rfl) (by kernel_rfl) (by kernel_rfl) [] (by kernel_rfl) (by decide) (by kernel_rfl) (by kernel_rfl) (fun _ _ _ h => h) hS0 (.inl ⟨by first | rfl | simp [Region.wanted, yielded], ?hy1007⟩) ?rest1007
          case hy1007 => (intro W hW; have f1 := hW; go_simp; try with_reducible rfl)
          simp only [Act.put, List.setIfInBounds_toArray, List.set_cons_zero, List.set_cons_succ]
          refine' wpAnyK_take (i := 7) (oi := { dst := some 31, op := Op.fieldAddr 60 (Operand.tmp 30) 2, type := 0, pos := "lines.go:56", after := #[{ on := 6, ground := Ground.data }], guard := none }) (v := ?v1008) rfl (by kernel_rfl) (by kernel_rfl) (by kernel_rfl) [] (by kernel_rfl) (by decide) (by kernel_rfl) (by kernel_rfl) (fun _ _ _ h => h) hS0 (.inl ⟨by first | rfl | simp [Region.wanted, yielded], ?hy1008⟩) ?rest1008
          case hy1008 => (intro W hW; have f1 := hW; go_simp; try with_reducible rfl)
          simp only [Act.put, List.setIfInBounds_toArray, List.set_cons_zero, List.set_cons_succ]
          refine' wpAnyK_take (i := 8) (oi := { dst := some 32, op := Op.load 22 (Operand.tmp 31), type := 22, pos := "lines.go:56", after := #[{ on := 7, ground := Ground.data }], guard := none }) (v := ?v1009) rfl (by kernel_rfl) (by kernel_rfl) (by kernel_rfl) [] (by kernel_rfl) (by decide) (by kernel_rfl) (by kernel_rfl) (fun _ _ _ h => h) hS0 (.inl ⟨by first | rfl | simp [Region.wanted, yielded], ?hy1009⟩) ?rest1009
          case hy1009 => (intro W hW; have f1 := hW; go_simp; try with_reducible rfl)
          simp only [Act.put, List.setIfInBounds_toArray, List.set_cons_zero, List.set_cons_succ]
          refine' wpAnyK_take (i := 9) (oi := { dst := some 33, op := Op.call { callee := Callee.builtin Builtin.len, args := #[Operand.tmp 32], argTypes := #[22] }, type := 3, pos := "lines.go:56", after := #[{ on := 8, ground := Ground.data }], guard := none }) (v := ?v1010) rfl (by kernel_rfl) (by kernel_rfl) (by kernel_rfl) [] (by kernel_rfl) (by decide) (by kernel_rfl) (by kernel_rfl) (fun _ _ _ h => h) hS0 (.inl ⟨by first | rfl | simp [Region.wanted, yielded], ?hy1010⟩) ?rest1010
          case hy1010 => (intro W hW; have f1 := hW; go_simp; try with_reducible rfl)
          simp only [Act.put, List.setIfInBounds_toArray, List.set_cons_zero, List.set_cons_succ]
          refine' wpAnyK_take (i := 10) (oi := { dst := some 34, op := Op.move (Operand.tmp 0), type := 24, pos := "lines.go:56", after := #[], guard := none }) (v := ?v1011) rfl (by kernel_rfl) (by kernel_rfl) (by kernel_rfl) [] (by kernel_rfl) (by decide) (by kernel_rfl) (by kernel_rfl) (fun _ _ _ h => h) hS0 (.inl ⟨by first | rfl | simp [Region.wanted, yielded], ?hy1011⟩) ?rest1011
          case hy1011 => (intro W hW; have f1 := hW; go_simp; try with_reducible rfl)
          simp only [Act.put, List.setIfInBounds_toArray, List.set_cons_zero, List.set_cons_succ]
          refine' wpAnyK_take (i := 11) (oi := { dst := some 35, op := Op.nilCheck (Operand.tmp 34), type := 0, pos := "lines.go:56", after := #[{ on := 10, ground := Ground.data }], guard := none }) (v := ?v1012) rfl (by kernel_rfl) (by kernel_rfl) (by kernel_rfl) [] (by kernel_rfl) (by decide) (by kernel_rfl) (by kernel_rfl) (fun _ _ _ h => h) hS0 (.inl ⟨by first | rfl | simp [Region.wanted, yielded], ?hy1012⟩) ?rest1012
          case hy1012 => (intro W hW; have f1 := hW; go_simp; try with_reducible rfl)
          simp only [Act.put, List.setIfInBounds_toArray, List.set_cons_zero, List.set_cons_succ]
          refine' wpAnyK_take (i := 12) (oi := { dst := some 36, op := Op.fieldAddr 60 (Operand.tmp 35) 2, type := 0, pos := "lines.go:56", after := #[{ on := 11, ground := Ground.data }], guard := none }) (v := ?v1013) rfl (by kernel_rfl) (by kernel_rfl) (by kernel_rfl) [] (by kernel_rfl) (by decide) (by kernel_rfl) (by kernel_rfl) (fun _ _ _ h => h) hS0 (.inl ⟨by first | rfl | simp [Region.wanted, yielded], ?hy1013⟩) ?rest1013
          case hy1013 => (intro W hW; have f1 := hW; go_simp; try with_reducible rfl)
          simp only [Act.put, List.setIfInBounds_toArray, List.set_cons_zero, List.set_cons_succ]
          refine' wpAnyK_take (i := 13) (oi := { dst := some 37, op := Op.load 22 (Operand.tmp 36), type := 22, pos := "lines.go:56", after := #[{ on := 12, ground := Ground.data }], guard := none }) (v := ?v1014) rfl (by kernel_rfl) (by kernel_rfl) (by kernel_rfl) [] (by kernel_rfl) (by decide) (by kernel_rfl) (by kernel_rfl) (fun _ _ _ h => h) hS0 (.inl ⟨by first | rfl | simp [Region.wanted, yielded], ?hy1014⟩) ?rest1014
          case hy1014 => (intro W hW; have f1 := hW; go_simp; try with_reducible rfl)
          simp only [Act.put, List.setIfInBounds_toArray, List.set_cons_zero, List.set_cons_succ]
          refine' wpAnyK_take (i := 14) (oi := { dst := some 38, op := Op.call { callee := Callee.builtin Builtin.len, args := #[Operand.tmp 37], argTypes := #[22] }, type := 3, pos := "lines.go:56", after := #[{ on := 13, ground := Ground.data }], guard := none }) (v := ?v1015) rfl (by kernel_rfl) (by kernel_rfl) (by kernel_rfl) [] (by kernel_rfl) (by decide) (by kernel_rfl) (by kernel_rfl) (fun _ _ _ h => h) hS0 (.inl ⟨by first | rfl | simp [Region.wanted, yielded], ?hy1015⟩) ?rest1015
          case hy1015 => (intro W hW; have f1 := hW; go_simp; try with_reducible rfl)
          simp only [Act.put, List.setIfInBounds_toArray, List.set_cons_zero, List.set_cons_succ]
          refine' wpAnyK_take (i := 15) (oi := { dst := some 39, op := Op.slice 22 (Operand.tmp 28) none (some (Operand.tmp 33)) (some (Operand.tmp 38)), type := 22, pos := "lines.go:56", after := #[{ on := 4, ground := Ground.data }, { on := 9, ground := Ground.data }, { on := 14, ground := Ground.data }], guard := none }) (v := ?v1016) rfl (by kernel_rfl) (by kernel_rfl) (by kernel_rfl) [] (by kernel_rfl) (by decide) (by kernel_rfl) (by kernel_rfl) (fun _ _ _ h => h) hS0 (.inl ⟨by first | rfl | simp [Region.wanted, yielded], ?hy1016⟩) ?rest1016
          case hy1016 => (intro W hW; have f1 := hW; go_simp; try with_reducible rfl)
          simp only [Act.put, List.setIfInBounds_toArray, List.set_cons_zero, List.set_cons_succ]
          refine' wpAnyK_take (i := 16) (oi := { dst := some 40, op := Op.move (Operand.tmp 5), type := 9, pos := "lines.go:56", after := #[], guard := none }) (v := ?v1017) rfl (by kernel_rfl) (by kernel_rfl) (by kernel_rfl) [] (by kernel_rfl) (by decide) (by kernel_rfl) (by kernel_rfl) (fun _ _ _ h => h) hS0 (.inl ⟨by first | rfl | simp [Region.wanted, yielded], ?hy1017⟩) ?rest1017
          case hy1017 => (intro W hW; have f1 := hW; go_simp; try with_reducible rfl)
          simp only [Act.put, List.setIfInBounds_toArray, List.set_cons_zero, List.set_cons_succ]
          refine' wpAnyK_take (i := 17) (oi := { dst := some 41, op := Op.move (Operand.tmp 6), type := 3, pos := "lines.go:56", after := #[], guard := none }) (v := ?v1018) rfl (by kernel_rfl) (by kernel_rfl) (by kernel_rfl) [] (by kernel_rfl) (by decide) (by kernel_rfl) (by kernel_rfl) (fun _ _ _ h => h) hS0 (.inl ⟨by first | rfl | simp [Region.wanted, yielded], ?hy1018⟩) ?rest1018
          case hy1018 => (intro W hW; have f1 := hW; go_simp; try with_reducible rfl)
          simp only [Act.put, List.setIfInBounds_toArray, List.set_cons_zero, List.set_cons_succ]
          refine' wpAnyK_take (i := 18) (oi := { dst := some 42, op := Op.move (Operand.tmp 5), type := 9, pos := "lines.go:56", after := #[], guard := none }) (v := ?v1019) rfl (by kernel_rfl) (by kernel_rfl) (by kernel_rfl) [] (by kernel_rfl) (by decide) (by kernel_rfl) (by kernel_rfl) (fun _ _ _ h => h) hS0 (.inl ⟨by first | rfl | simp [Region.wanted, yielded], ?hy1019⟩) ?rest1019
          case hy1019 => (intro W hW; have f1 := hW; go_simp; try with_reducible rfl)
          simp only [Act.put, List.setIfInBounds_toArray, List.set_cons_zero, List.set_cons_succ]
          refine' wpAnyK_take (i := 19) (oi := { dst := some 43, op := Op.call { callee := Callee.builtin Builtin.len, args := #[Operand.tmp 42], argTypes := #[9] }, type := 3, pos := "lines.go:56", after := #[{ on := 18, ground := Ground.data }], guard := none }) (v := ?v1020) rfl (by kernel_rfl) (by kernel_rfl) (by kernel_rfl) [] (by kernel_rfl) (by decide) (by kernel_rfl) (by kernel_rfl) (fun _ _ _ h => h) hS0 (.inl ⟨by first | rfl | simp [Region.wanted, yielded], ?hy1020⟩) ?rest1020
          case hy1020 => (intro W hW; have f1 := hW; go_simp; try with_reducible rfl)
          simp only [Act.put, List.setIfInBounds_toArray, List.set_cons_zero, List.set_cons_succ]
          refine' wpAnyK_take (i := 20) (oi := { dst := some 44, op := Op.call { callee := Callee.builtin Builtin.min, args := #[Operand.tmp 41, Operand.tmp 43], argTypes := #[3, 3] }, type := 3, pos := "lines.go:56", after := #[{ on := 17, ground := Ground.data }, { on := 19, ground := Ground.data }], guard := none }) (v := ?v1021) rfl (by kernel_rfl) (by kernel_rfl) (by kernel_rfl) [] (by kernel_rfl) (by decide) (by kernel_rfl) (by kernel_rfl) (fun _ _ _ h => h) hS0 (.inl ⟨by first | rfl | simp [Region.wanted, yielded], ?hy1021⟩) ?rest1021
          case hy1021 => (intro W hW; have f1 := hW; go_simp; try with_reducible rfl)
          simp only [Act.put, List.setIfInBounds_toArray, List.set_cons_zero, List.set_cons_succ]
          refine' wpAnyK_take (i := 21) (oi := { dst := some 45, op := Op.slice 9 (Operand.tmp 40) none (some (Operand.tmp 44)) none, type := 9, pos := "lines.go:56", after := #[{ on := 16, ground := Ground.data }, { on := 20, ground := Ground.data }], guard := none }) (v := ?v1022) rfl (by kernel_rfl) (by kernel_rfl) (by kernel_rfl) [] (by kernel_rfl) (by decide) (by kernel_rfl) (by kernel_rfl) (fun _ _ _ h => h) hS0 (.inl ⟨by first | rfl | simp [Region.wanted, yielded], ?hy1022⟩) ?rest1022
          case hy1022 => (intro W hW; have f1 := hW; go_simp; try with_reducible rfl)
          simp only [Act.put, List.setIfInBounds_toArray, List.set_cons_zero, List.set_cons_succ]
          refine wpAnyK_ready (rs := [22]) (by kernel_rfl) (by simp) ?_
          refine AllReadyK.cons (o := { dst := some 46, op := Op.call { callee := Callee.builtin Builtin.append, args := #[Operand.tmp 39, Operand.tmp 45], argTypes := #[22, 9] }, type := 22, pos := "lines.go:56", after := #[{ on := 15, ground := Ground.data }, { on := 21, ground := Ground.data }], guard := none }) rfl (fun KK hK => ?_) (AllReadyK.nil)
          refine step_append_str rfl (.tmp 39) (.tmp 45) rfl T (none) 0 R xs (ys.take R) (by go_simp) (by go_simp) (HLn.out.at_.below HBe.out) (fun e => (HLn.out.na e).1) (HBY.out.take R) HTK.out (by omega) ?_
          intro v w' hbw hcase
          have hb1 := HBe.out.trans (hbw.mono HBe.out.size)
          have HB1 := Lib.hid hb1
          have HCS := Lib.hid hcase
          obtain ⟨a', n', c', rfl, hln⟩ : ∃ a' n' c', v = .slice a' n' c' ∧ Ln (fun k => (T k ∧ k < W0.heap.size) ∨ W0.heap.size ≤ k) w' a' n' c' (xs ++ ys.take R) := by
            have hs := HBe.out.size
            rcases hcase with ⟨h0, rfl, rfl⟩ | ⟨h0, G, cap, rfl, g1, g2, g3, g4⟩
            · have hnil : ys.take R = [] := List.eq_nil_of_length_eq_zero (HTK.out.trans h0)
              refine ⟨_, _, _, rfl, ⟨by rw [hnil, List.append_nil]; exact ((HLn.out.at_.mono (fun k h1 h2 => .inl ⟨h2, h1⟩)).below HBe.out), fun e => ⟨(HLn.out.na e).1, (HLn.out.na e).1⟩, HLn.out.sp, Nat.le_refl _, Nat.le_trans HLn.out.nc HLn.out.cm⟩⟩
            · exact ⟨_, _, _, rfl, ⟨g4.mono (fun k h1 h2 => .inr (by have h3 : k = G := h2; omega)), (fun e => by cases e), (fun ad e => by cases e; rfl), g1, g2⟩⟩
          have HL' := Lib.hid hln
          have hsp := HSP.out.below hb1
          have HSP1 := Lib.hid hsp
          have hS1 : (fun W : World => W.cell? ⟨p, 2, none⟩ = some (.slice none 0 0)) w' := (hsp.cells).2.2.1
          clear hb1 hcase hln hsp hbw
          refine hK.out _ _ (fun _ => hS1) ?_
          clear hK KK
          try simp only [Act.put, List.setIfInBounds_toArray, List.set_cons_zero, List.set_cons_succ]
          refine' wpAnyK_take (i := 23) (oi := { dst := some 47, op := Op.nilCheck (Operand.tmp 24), type := 0, pos := "lines.go:56", after := #[{ on := 0, ground := Ground.data }, { on := 0, ground := Ground.phase }, { on := 1, ground := Ground.phase }, { on := 2, ground := Ground.phase }, { on := 3, ground := Ground.phase }, { on := 4, ground := Ground.phase }, { on := 5, ground := Ground.phase }, { on := 6, ground := Ground.phase }, { on := 7, ground := Ground.phase }, { on := 8, ground := Ground.phase }, { on := 9, ground := Ground.phase }, { on := 10, ground := Ground.phase }, { on := 11, ground := Ground.phase }, { on := 12, ground := Ground.phase }, { on := 13, ground := Ground.phase }, { on := 14, ground := Ground.phase }, { on := 15, ground := Ground.phase }, { on := 16, ground := Ground.phase }, { on := 17, ground := Ground.phase }, { on := 18, ground := Ground.phase }, { on := 19, ground := Ground.phase }, { on := 20, ground := Ground.phase }, { on := 21, ground := Ground.phase }, { on := 22, ground := Ground.phase }], guard := none }) (v := ?v1023) rfl (by kernel_rfl) (by kernel_rfl) (by kernel_rfl) [24] (by kernel_rfl) (by decide) (by kernel_rfl) (by kernel_rfl) (fun _ _ _ h => h) hS1 (.inl ⟨by first | rfl | simp [Region.wanted, yielded], ?hy1023⟩) ?rest1023
          case hy1023 => (intro W hW; have f1 := hW; go_simp; try with_reducible rfl)
          simp only [Act.put, List.setIfInBounds_toArray, List.set_cons_zero, List.set_cons_succ]
          refine' wpAnyK_take (i := 24) (oi := { dst := some 48, op := Op.fieldAddr 60 (Operand.tmp 47) 2, type := 0, pos := "lines.go:56", after := #[{ on := 23, ground := Ground.data }, { on := 0, ground := Ground.phase }, { on := 1, ground := Ground.phase }, { on := 2, ground := Ground.phase }, { on := 3, ground := Ground.phase }, { on := 4, ground := Ground.phase }, { on := 5, ground := Ground.phase }, { on := 6, ground := Ground.phase }, { on := 7, ground := Ground.phase }, { on := 8, ground := Ground.phase }, { on := 9, ground := Ground.phase }, { on := 10, ground := Ground.phase }, { on := 11, ground := Ground.phase }, { on := 12, ground := Ground.phase }, { on := 13, ground := Ground.phase }, { on := 14, ground := Ground.phase }, { on := 15, ground := Ground.phase }, { on := 16, ground := Ground.phase }, { on := 17, ground := Ground.phase }, { on := 18, ground := Ground.phase }, { on := 19, ground := Ground.phase }, { on := 20, ground := Ground.phase }, { on := 21, ground := Ground.phase }, { on := 22, ground := Ground.phase }], guard := none }) (v := ?v1024) rfl (by kernel_rfl) (by kernel_rfl) (by kernel_rfl) [] (by kernel_rfl) (by decide) (by kernel_rfl) (by kernel_rfl) (fun _ _ _ h => h) hS1 (.inl ⟨by first | rfl | simp [Region.wanted, yielded], ?hy1024⟩) ?rest1024
          case hy1024 => (intro W hW; have f1 := hW; go_simp; try with_reducible rfl)
          simp only [Act.put, List.setIfInBounds_toArray, List.set_cons_zero, List.set_cons_succ]
          refine wpAnyK_ready (rs := [25]) (by kernel_rfl) (by simp) ?_
          refine AllReadyK.cons (o := { dst := none, op := Op.store 22 (Operand.tmp 48) (Operand.tmp 46), type := 0, pos := "lines.go:56", after := #[{ on := 24, ground := Ground.data }, { on := 22, ground := Ground.data }, { on := 22, ground := Ground.chain }, { on := 0, ground := Ground.phase }, { on := 1, ground := Ground.phase }, { on := 2, ground := Ground.phase }, { on := 3, ground := Ground.phase }, { on := 4, ground := Ground.phase }, { on := 5, ground := Ground.phase }, { on := 6, ground := Ground.phase }, { on := 7, ground := Ground.phase }, { on := 8, ground := Ground.phase }, { on := 9, ground := Ground.phase }, { on := 10, ground := Ground.phase }, { on := 11, ground := Ground.phase }, { on := 12, ground := Ground.phase }, { on := 13, ground := Ground.phase }, { on := 14, ground := Ground.phase }, { on := 15, ground := Ground.phase }, { on := 16, ground := Ground.phase }, { on := 17, ground := Ground.phase }, { on := 18, ground := Ground.phase }, { on := 19, ground := Ground.phase }, { on := 20, ground := Ground.phase }, { on := 21, ground := Ground.phase }, { on := 22, ground := Ground.phase }], guard := none }) rfl (fun KK hK => ?_) (AllReadyK.nil)
          try simp only [List.getElem_toArray, List.getElem_cons_succ, List.getElem_cons_zero]
          obtain ⟨_, _, s2, _, _, sf, sl⟩ := HSP1.out.cells
          have sf2 := sf 2
          clear sf
          go_simp
          clear s2 sf2
          refine hK.out _ _ (fun h => absurd (show true = false from h) (by decide)) ?_
          clear hK KK
          try simp only [Act.put, List.setIfInBounds_toArray, List.set_cons_zero, List.set_cons_succ]
          refine wpAnyK_done (by kernel_rfl) ?_ _
          go_wp2_with fail
          go_roundg 0
          case measure => have := HG.out; omega
          case rel =>
            have hdis : ∀ k, ((T k ∧ k < W0.heap.size) ∨ W0.heap.size ≤ k) → k ≠ p := fun k hk e => by
              rcases hk with hk | hk
              · exact HTP.out k hk.1 e
              · have := blk_lt HSP.out.blk; omega
            exact ⟨1, rfl, by omega, rfl, .inr ⟨rfl, a', n', c', HSP1.out.set_line a' n' c', (by first | exact HL'.out.at_.mod (S := fun k => k = p) ((Mod.refl (fun k => k = p) w').setCell ⟨p, 2, none⟩ (.inl rfl) (.slice a' n' c')) (fun k hk e => hdis k hk e) | (rw [HTT.out]; exact HL'.out.at_.mod (S := fun k => k = p) ((Mod.refl (fun k => k = p) w').setCell ⟨p, 2, none⟩ (.inl rfl) (.slice a' n' c')) (fun k hk e => hdis k hk e))), HL'.out.na, HL'.out.sp, HL'.out.nc, HL'.out.cm, ((Mod.of_below HB1.out (fun k => k = p)).setCell ⟨p, 2, none⟩ (.inl rfl) _)⟩⟩
        · subst hRY
          have d6 : (R : Int) ≤ R := by omega
          have d7 : R ≤ R := by omega
          have HTK : Hid ((ys.take R).length = R) := Lib.hid (by rw [List.length_take]; have := HYL.out; omega)
          have ex : SY.extract 0 R = strOfNums (ys.take R) := by rw [HSY.out, str_to]
          have HTT : Hid (ys.take R = ys.take R) := Lib.hid (by first | rfl | (rw [List.take_of_length_le (by have := HYL.out; omega), List.take_of_length_le (by have := HYL.out; omega)]))
          go_upto_region 4 with fail
          refine wp_region_K 25 (fun W => W.cell? ⟨p, 2, none⟩ = some (.slice none 0 0)) (by kernel_rfl) ?_
          obtain ⟨wd, hwd⟩ : ∃ W, W = (wq).drew := ⟨_, rfl⟩
          have HBd : Hid (Below (wq).heap.size (wq) wd) := Lib.hid (by rw [hwd]; exact Below.drewN' (wq) 1)
          have hS0 : (fun W : World => W.cell? ⟨p, 2, none⟩ = some (.slice none 0 0)) wd := by rw [hwd]; exact c2
          rw [← hwd]
          have HBe : Hid (Below W0.heap.size W0 wd) := Lib.hid (HBQ.out.trans (HBd.out.mono HBQ.out.size))
          clear hwd
          refine' wpAnyK_take (i := 0) (oi := { dst := some 24, op := Op.move (Operand.tmp 0), type := 24, pos := "lines.go:56", after := #[], guard := none }) (v := ?v2001) rfl (by kernel_rfl) (by kernel_rfl) (by kernel_rfl) [] (by kernel_rfl) (by decide) (by kernel_rfl) (by kernel_rfl) (fun _ _ _ h => h) hS0 (.inl ⟨by first | rfl | simp [Region.wanted, yielded], ?hy2001⟩) ?rest2001
          case hy2001 => (intro W hW; have f1 := hW; go_simp; try with_reducible rfl)
          simp only [Act.put, List.setIfInBounds_toArray, List.set_cons_zero, List.set_cons_succ]
          refine' wpAnyK_take (i := 1) (oi := { dst := some 25, op := Op.move (Operand.tmp 0), type := 24, pos := "lines.go:56", after := #[], guard := none }) (v := ?v2002) rfl (by kernel_rfl) (by kernel_rfl) (by kernel_rfl) [] (by kernel_rfl) (by decide) (by kernel_rfl) (by kernel_rfl) (fun _ _ _ h => h) hS0 (.inl ⟨by first | rfl | simp [Region.wanted, yielded], ?hy2002⟩) ?rest2002
          case hy2002 => (intro W hW; have f1 := hW; go_simp; try with_reducible rfl)
          simp only [Act.put, List.setIfInBounds_toArray, List.set_cons_zero, List.set_cons_succ]
          refine' wpAnyK_take (i := 2) (oi := { dst := some 26, op := Op.nilCheck (Operand.tmp 25), type := 0, pos := "lines.go:56", after := #[{ on := 1, ground := Ground.data }], guard := none }) (v := ?v2003) rfl (by kernel_rfl) (by kernel_rfl) (by kernel_rfl) [] (by kernel_rfl) (by decide) (by kernel_rfl) (by kernel_rfl) (fun _ _ _ h => h) hS0 (.inl ⟨by first | rfl | simp [Region.wanted, yielded], ?hy2003⟩) ?rest2003
          case hy2003 => (intro W hW; have f1 := hW; go_simp; try with_reducible rfl)
          simp only [Act.put, List.setIfInBounds_toArray, List.set_cons_zero, List.set_cons_succ]
          refine' wpAnyK_take (i := 3) (oi := { dst := some 27, op := Op.fieldAddr 60 (Operand.tmp 26) 2, type := 0, pos := "lines.go:56", after := #[{ on := 2, ground := Ground.data }], guard := none }) (v := ?v2004) rfl (by kernel_rfl) (by kernel_rfl) (by kernel_rfl) [] (by kernel_rfl) (by decide) (by kernel_rfl) (by kernel_rfl) (fun _ _ _ h => h) hS0 (.inl ⟨by first | rfl | simp [Region.wanted, yielded], ?hy2004⟩) ?rest2004
          case hy2004 => (intro W hW; have f1 := hW; go_simp; try with_reducible rfl)
          simp only [Act.put, List.setIfInBounds_toArray, List.set_cons_zero, List.set_cons_succ]
          refine' wpAnyK_take (i := 4) (oi := { dst := some 28, op := Op.load 22 (Operand.tmp 27), type := 22, pos := "lines.go:56", after := #[{ on := 3, ground := Ground.data }], guard := none }) (v := ?v2005) rfl (by kernel_rfl) (by kernel_rfl) (by kernel_rfl) [] (by kernel_rfl) (by decide) (by kernel_rfl) (by kernel_rfl) (fun _ _ _ h => h) hS0 (.inl ⟨by first | rfl | simp [Region.wanted, yielded], ?hy2005⟩) ?rest2005
          case hy2005 => (intro W hW; have f1 := hW; go_simp; try with_reducible rfl)
          simp only [Act.put, List.setIfInBounds_toArray, List.set_cons_zero, List.set_cons_succ]
          refine' wpAnyK_take (i := 5) (oi := { dst := some 29, op := Op.move (Operand.tmp 0), type := 24, pos := "lines.go:56", after := #[], guard := none }) (v := ?v2006) rfl (by kernel_rfl) (by kernel_rfl) (by kernel_rfl) [] (by kernel_rfl) (by decide) (by kernel_rfl) (by kernel_rfl) (fun _ _ _ h => h) hS0 (.inl ⟨by first | rfl | simp [Region.wanted, yielded], ?hy2006⟩) ?rest2006
          case hy2006 => (intro W hW; have f1 := hW; go_simp; try with_reducible rfl)
          simp only [Act.put, List.setIfInBounds_toArray, List.set_cons_zero, List.set_cons_succ]
          refine' wpAnyK_take (i := 6) (oi := { dst := some 30, op := Op.nilCheck (Operand.tmp 29), type := 0, pos := "lines.go:56", after := #[{ on := 5, ground := Ground.data }], guard := none }) (v := ?v2007) rfl (by kernel_rfl) (by kernel_rfl) (by kernel_rfl) [] (by kernel_rfl) (by decide) (by kernel_rfl) (by kernel_rfl) (fun _ _ _ h => h) hS0 (.inl ⟨by first | rfl | simp [Region.wanted, yielded], ?hy2007⟩) ?rest2007
          case hy2007 => (intro W hW; have f1 := hW; go_simp; try with_reducible rfl)
          simp only [Act.put, List.setIfInBounds_toArray, List.set_cons_zero, List.set_cons_succ]
          refine' wpAnyK_take (i := 7) (oi := { dst := some 31, op := Op.fieldAddr 60 (Operand.tmp 30) 2, type := 0, pos := "lines.go:56", after := #[{ on := 6, ground := Ground.data }], guard := none }) (v := ?v2008) rfl (by kernel_rfl) (by kernel_rfl) (by kernel_rfl) [] (by kernel_rfl) (by decide) (by kernel_rfl) (by kernel_rfl) (fun _ _ _ h => h) hS0 (.inl ⟨by first | rfl | simp [Region.wanted, yielded], ?hy2008⟩) ?rest2008
          case hy2008 => (intro W hW; have f1 := hW; go_simp; try with_reducible rfl)
          simp only [Act.put, List.setIfInBounds_toArray, List.set_cons_zero, List.set_cons_succ]
          refine' wpAnyK_take (i := 8) (oi := { dst := some 32, op := Op.load 22 (Operand.tmp 31), type := 22, pos := "lines.go:56", after := #[{ on := 7, ground := Ground.data }], guard := none }) (v := ?v2009) rfl (by kernel_rfl) (by kernel_rfl) (by kernel_rfl) [] (by kernel_rfl) (by decide) (by kernel_rfl) (by kernel_rfl) (fun _ _ _ h => h) hS0 (.inl ⟨by first | rfl | simp [Region.wanted, yielded], ?hy2009⟩) ?rest2009
          case hy2009 => (intro W hW; have f1 := hW; go_simp; try with_reducible rfl)
          simp only [Act.put, List.setIfInBounds_toArray, List.set_cons_zero, List.set_cons_succ]
          refine' wpAnyK_take (i := 9) (oi := { dst := some 33, op := Op.call { callee := Callee.builtin Builtin.len, args := #[Operand.tmp 32], argTypes := #[22] }, type := 3, pos := "lines.go:56", after := #[{ on := 8, ground := Ground.data }], guard := none }) (v := ?v2010) rfl (by kernel_rfl) (by kernel_rfl) (by kernel_rfl) [] (by kernel_rfl) (by decide) (by kernel_rfl) (by kernel_rfl) (fun _ _ _ h => h) hS0 (.inl ⟨by first | rfl | simp [Region.wanted, yielded], ?hy2010⟩) ?rest2010
          case hy2010 => (intro W hW; have f1 := hW; go_simp; try with_reducible rfl)
          simp only [Act.put, List.setIfInBounds_toArray, List.set_cons_zero, List.set_cons_succ]
          refine' wpAnyK_take (i := 10) (oi := { dst := some 34, op := Op.move (Operand.tmp 0), type := 24, pos := "lines.go:56", after := #[], guard := none }) (v := ?v2011) rfl (by kernel_rfl) (by kernel_rfl) (by kernel_rfl) [] (by kernel_rfl) (by decide) (by kernel_rfl) (by kernel_rfl) (fun _ _ _ h => h) hS0 (.inl ⟨by first | rfl | simp [Region.wanted, yielded], ?hy2011⟩) ?rest2011
          case hy2011 => (intro W hW; have f1 := hW; go_simp; try with_reducible rfl)
          simp only [Act.put, List.setIfInBounds_toArray, List.set_cons_zero, List.set_cons_succ]
          refine' wpAnyK_take (i := 11) (oi := { dst := some 35, op := Op.nilCheck (Operand.tmp 34), type := 0, pos := "lines.go:56", after := #[{ on := 10, ground := Ground.data }], guard := none }) (v := ?v2012) rfl (by kernel_rfl) (by kernel_rfl) (by kernel_rfl) [] (by kernel_rfl) (by decide) (by kernel_rfl) (by kernel_rfl) (fun _ _ _ h => h) hS0 (.inl ⟨by first | rfl | simp [Region.wanted, yielded], ?hy2012⟩) ?rest2012
          case hy2012 => (intro W hW; have f1 := hW; go_simp; try with_reducible rfl)
          simp only [Act.put, List.setIfInBounds_toArray, List.set_cons_zero, List.set_cons_succ]
          refine' wpAnyK_take (i := 12) (oi := { dst := some 36, op := Op.fieldAddr 60 (Operand.tmp 35) 2, type := 0, pos := "lines.go:56", after := #[{ on := 11, ground := Ground.data }], guard := none }) (v := ?v2013) rfl (by kernel_rfl) (by kernel_rfl) (by kernel_rfl) [] (by kernel_rfl) (by decide) (by kernel_rfl) (by kernel_rfl) (fun _ _ _ h => h) hS0 (.inl ⟨by first | rfl | simp [Region.wanted, yielded], ?hy2013⟩) ?rest2013
          case hy2013 => (intro W hW; have f1 := hW; go_simp; try with_reducible rfl)
          simp only [Act.put, List.setIfInBounds_toArray, List.set_cons_zero, List.set_cons_succ]
          refine' wpAnyK_take (i := 13) (oi := { dst := some 37, op := Op.load 22 (Operand.tmp 36), type := 22, pos := "lines.go:56", after := #[{ on := 12, ground := Ground.data }], guard := none }) (v := ?v2014) rfl (by kernel_rfl) (by kernel_rfl) (by kernel_rfl) [] (by kernel_rfl) (by decide) (by kernel_rfl) (by kernel_rfl) (fun _ _ _ h => h) hS0 (.inl ⟨by first | rfl | simp [Region.wanted, yielded], ?hy2014⟩) ?rest2014
          case hy2014 => (intro W hW; have f1 := hW; go_simp; try with_reducible rfl)
          simp only [Act.put, List.setIfInBounds_toArray, List.set_cons_zero, List.set_cons_succ]
          refine' wpAnyK_take (i := 14) (oi := { dst := some 38, op := Op.call { callee := Callee.builtin Builtin.len, args := #[Operand.tmp 37], argTypes := #[22] }, type := 3, pos := "lines.go:56", after := #[{ on := 13, ground := Ground.data }], guard := none }) (v := ?v2015) rfl (by kernel_rfl) (by kernel_rfl) (by kernel_rfl) [] (by kernel_rfl) (by decide) (by kernel_rfl) (by kernel_rfl) (fun _ _ _ h => h) hS0 (.inl ⟨by first | rfl | simp [Region.wanted, yielded], ?hy2015⟩) ?rest2015
          case hy2015 => (intro W hW; have f1 := hW; go_simp; try with_reducible rfl)
          simp only [Act.put, List.setIfInBounds_toArray, List.set_cons_zero, List.set_cons_succ]
          refine' wpAnyK_take (i := 15) (oi := { dst := some 39, op := Op.slice 22 (Operand.tmp 28) none (some (Operand.tmp 33)) (some (Operand.tmp 38)), type := 22, pos := "lines.go:56", after := #[{ on := 4, ground := Ground.data }, { on := 9, ground := Ground.data }, { on := 14, ground := Ground.data }], guard := none }) (v := ?v2016) rfl (by kernel_rfl) (by kernel_rfl) (by kernel_rfl) [] (by kernel_rfl) (by decide) (by kernel_rfl) (by kernel_rfl) (fun _ _ _ h => h) hS0 (.inl ⟨by first | rfl | simp [Region.wanted, yielded], ?hy2016⟩) ?rest2016
          case hy2016 => (intro W hW; have f1 := hW; go_simp; try with_reducible rfl)
          simp only [Act.put, List.setIfInBounds_toArray, List.set_cons_zero, List.set_cons_succ]
          refine' wpAnyK_take (i := 16) (oi := { dst := some 40, op := Op.move (Operand.tmp 5), type := 9, pos := "lines.go:56", after := #[], guard := none }) (v := ?v2017) rfl (by kernel_rfl) (by kernel_rfl) (by kernel_rfl) [] (by kernel_rfl) (by decide) (by kernel_rfl) (by kernel_rfl) (fun _ _ _ h => h) hS0 (.inl ⟨by first | rfl | simp [Region.wanted, yielded], ?hy2017⟩) ?rest2017
          case hy2017 => (intro W hW; have f1 := hW; go_simp; try with_reducible rfl)
          simp only [Act.put, List.setIfInBounds_toArray, List.set_cons_zero, List.set_cons_succ]
          refine' wpAnyK_take (i := 17) (oi := { dst := some 41, op := Op.move (Operand.tmp 6), type := 3, pos := "lines.go:56", after := #[], guard := none }) (v := ?v2018) rfl (by kernel_rfl) (by kernel_rfl) (by kernel_rfl) [] (by kernel_rfl) (by decide) (by kernel_rfl) (by kernel_rfl) (fun _ _ _ h => h) hS0 (.inl ⟨by first | rfl | simp [Region.wanted, yielded], ?hy2018⟩) ?rest2018
          case hy2018 => (intro W hW; have f1 := hW; go_simp; try with_reducible rfl)
          simp only [Act.put, List.setIfInBounds_toArray, List.set_cons_zero, List.set_cons_succ]
          refine' wpAnyK_take (i := 18) (oi := { dst := some 42, op := Op.move (Operand.tmp 5), type := 9, pos := "lines.go:56", after := #[], guard := none }) (v := ?v2019) rfl (by kernel_rfl) (by kernel_rfl) (by kernel_rfl) [] (by kernel_rfl) (by decide) (by kernel_rfl) (by kernel_rfl) (fun _ _ _ h => h) hS0 (.inl ⟨by first | rfl | simp [Region.wanted, yielded], ?hy2019⟩) ?rest2019
          case hy2019 => (intro W hW; have f1 := hW; go_simp; try with_reducible rfl)
          simp only [Act.put, List.setIfInBounds_toArray, List.set_cons_zero, List.set_cons_succ]
          refine' wpAnyK_take (i := 19) (oi := { dst := some 43, op := Op.call { callee := Callee.builtin Builtin.len, args := #[Operand.tmp 42], argTypes := #[9] }, type := 3, pos := "lines.go:56", after := #[{ on := 18, ground := Ground.data }], guard := none }) (v := ?v2020) rfl (by kernel_rfl) (by kernel_rfl) (by kernel_rfl) [] (by kernel_rfl) (by decide) (by kernel_rfl) (by kernel_rfl) (fun _ _ _ h => h) hS0 (.inl ⟨by first | rfl | simp [Region.wanted, yielded], ?hy2020⟩) ?rest2020
          case hy2020 => (intro W hW; have f1 := hW; go_simp; try with_reducible rfl)
          simp only [Act.put, List.setIfInBounds_toArray, List.set_cons_zero, List.set_cons_succ]
          refine' wpAnyK_take (i := 20) (oi := { dst := some 44, op := Op.call { callee := Callee.builtin Builtin.min, args := #[Operand.tmp 41, Operand.tmp 43], argTypes := #[3, 3] }, type := 3, pos := "lines.go:56", after := #[{ on := 17, ground := Ground.data }, { on := 19, ground := Ground.data }], guard := none }) (v := ?v2021) rfl (by kernel_rfl) (by kernel_rfl) (by kernel_rfl) [] (by kernel_rfl) (by decide) (by kernel_rfl) (by kernel_rfl) (fun _ _ _ h => h) hS0 (.inl ⟨by first | rfl | simp [Region.wanted, yielded], ?hy2021⟩) ?rest2021
          case hy2021 => (intro W hW; have f1 := hW; go_simp; try with_reducible rfl)
          simp only [Act.put, List.setIfInBounds_toArray, List.set_cons_zero, List.set_cons_succ]
          refine' wpAnyK_take (i := 21) (oi := { dst := some 45, op := Op.slice 9 (Operand.tmp 40) none (some (Operand.tmp 44)) none, type := 9, pos := "lines.go:56", after := #[{ on := 16, ground := Ground.data }, { on := 20, ground := Ground.data }], guard := none }) (v := ?v2022) rfl (by kernel_rfl) (by kernel_rfl) (by kernel_rfl) [] (by kernel_rfl) (by decide) (by kernel_rfl) (by kernel_rfl) (fun _ _ _ h => h) hS0 (.inl ⟨by first | rfl | simp [Region.wanted, yielded], ?hy2022⟩) ?rest2022
          case hy2022 => (intro W hW; have f1 := hW; go_simp; try with_reducible rfl)
          simp only [Act.put, List.setIfInBounds_toArray, List.set_cons_zero, List.set_cons_succ]
          refine wpAnyK_ready (rs := [22]) (by kernel_rfl) (by simp) ?_
          refine AllReadyK.cons (o := { dst := some 46, op := Op.call { callee := Callee.builtin Builtin.append, args := #[Operand.tmp 39, Operand.tmp 45], argTypes := #[22, 9] }, type := 22, pos := "lines.go:56", after := #[{ on := 15, ground := Ground.data }, { on := 21, ground := Ground.data }], guard := none }) rfl (fun KK hK => ?_) (AllReadyK.nil)
          refine step_append_str rfl (.tmp 39) (.tmp 45) rfl T (none) 0 R xs (ys.take R) (by go_simp) (by go_simp) (HLn.out.at_.below HBe.out) (fun e => (HLn.out.na e).1) (HBY.out.take R) HTK.out (by omega) ?_
          intro v w' hbw hcase
          have hb1 := HBe.out.trans (hbw.mono HBe.out.size)
          have HB1 := Lib.hid hb1
          have HCS := Lib.hid hcase
          obtain ⟨a', n', c', rfl, hln⟩ : ∃ a' n' c', v = .slice a' n' c' ∧ Ln (fun k => (T k ∧ k < W0.heap.size) ∨ W0.heap.size ≤ k) w' a' n' c' (xs ++ ys.take R) := by
            have hs := HBe.out.size
            rcases hcase with ⟨h0, rfl, rfl⟩ | ⟨h0, G, cap, rfl, g1, g2, g3, g4⟩
            · have hnil : ys.take R = [] := List.eq_nil_of_length_eq_zero (HTK.out.trans h0)
              refine ⟨_, _, _, rfl, ⟨by rw [hnil, List.append_nil]; exact ((HLn.out.at_.mono (fun k h1 h2 => .inl ⟨h2, h1⟩)).below HBe.out), fun e => ⟨(HLn.out.na e).1, (HLn.out.na e).1⟩, HLn.out.sp, Nat.le_refl _, Nat.le_trans HLn.out.nc HLn.out.cm⟩⟩
            · exact ⟨_, _, _, rfl, ⟨g4.mono (fun k h1 h2 => .inr (by have h3 : k = G := h2; omega)), (fun e => by cases e), (fun ad e => by cases e; rfl), g1, g2⟩⟩
          have HL' := Lib.hid hln
          have hsp := HSP.out.below hb1
          have HSP1 := Lib.hid hsp
          have hS1 : (fun W : World => W.cell? ⟨p, 2, none⟩ = some (.slice none 0 0)) w' := (hsp.cells).2.2.1
          clear hb1 hcase hln hsp hbw
          refine hK.out _ _ (fun _ => hS1) ?_
          clear hK KK
          try simp only [Act.put, List.setIfInBounds_toArray, List.set_cons_zero, List.set_cons_succ]
          refine' wpAnyK_take (i := 23) (oi := { dst := some 47, op := Op.nilCheck (Operand.tmp 24), type := 0, pos := "lines.go:56", after := #[{ on := 0, ground := Ground.data }, { on := 0, ground := Ground.phase }, { on := 1, ground := Ground.phase }, { on := 2, ground := Ground.phase }, { on := 3, ground := Ground.phase }, { on := 4, ground := Ground.phase }, { on := 5, ground := Ground.phase }, { on := 6, ground := Ground.phase }, { on := 7, ground := Ground.phase }, { on := 8, ground := Ground.phase }, { on := 9, ground := Ground.phase }, { on := 10, ground := Ground.phase }, { on := 11, ground := Ground.phase }, { on := 12, ground := Ground.phase }, { on := 13, ground := Ground.phase }, { on := 14, ground := Ground.phase }, { on := 15, ground := Ground.phase }, { on := 16, ground := Ground.phase }, { on := 17, ground := Ground.phase }, { on := 18, ground := Ground.phase }, { on := 19, ground := Ground.phase }, { on := 20, ground := Ground.phase }, { on := 21, ground := Ground.phase }, { on := 22, ground := Ground.phase }], guard := none }) (v := ?v2023) rfl (by kernel_rfl) (by kernel_rfl) (by kernel_rfl) [24] (by kernel_rfl) (by decide) (by kernel_rfl) (by kernel_rfl) (fun _ _ _ h => h) hS1 (.inl ⟨by first | rfl | simp [Region.wanted, yielded], ?hy2023⟩) ?rest2023
          case hy2023 => (intro W hW; have f1 := hW; go_simp; try with_reducible rfl)
          simp only [Act.put, List.setIfInBounds_toArray, List.set_cons_zero, List.set_cons_succ]
          refine' wpAnyK_take (i := 24) (oi := { dst := some 48, op := Op.fieldAddr 60 (Operand.tmp 47) 2, type := 0, pos := "lines.go:56", after := #[{ on := 23, ground := Ground.data }, { on := 0, ground := Ground.phase }, { on := 1, ground := Ground.phase }, { on := 2, ground := Ground.phase }, { on := 3, ground := Ground.phase }, { on := 4, ground := Ground.phase }, { on := 5, ground := Ground.phase }, { on := 6, ground := Ground.phase }, { on := 7, ground := Ground.phase }, { on := 8, ground := Ground.phase }, { on := 9, ground := Ground.phase }, { on := 10, ground := Ground.phase }, { on := 11, ground := Ground.phase }, { on := 12, ground := Ground.phase }, { on := 13, ground := Ground.phase }, { on := 14, ground := Ground.phase }, { on := 15, ground := Ground.phase }, { on := 16, ground := Ground.phase }, { on := 17, ground := Ground.phase }, { on := 18, ground := Ground.phase }, { on := 19, ground := Ground.phase }, { on := 20, ground := Ground.phase }, { on := 21, ground := Ground.phase }, { on := 22, ground := Ground.phase }], guard := none }) (v := ?v2024) rfl (by kernel_rfl) (by kernel_rfl) (by kernel_rfl) [] (by kernel_rfl) (by decide) (by kernel_rfl) (by kernel_rfl) (fun _ _ _ h => h) hS1 (.inl ⟨by first | rfl | simp [Region.wanted, yielded], ?hy2024⟩) ?rest2024
          case hy2024 => (intro W hW; have f1 := hW; go_simp; try with_reducible rfl)
          simp only [Act.put, List.setIfInBounds_toArray, List.set_cons_zero, List.set_cons_succ]
          refine wpAnyK_ready (rs := [25]) (by kernel_rfl) (by simp) ?_
          refine AllReadyK.cons (o := { dst := none, op := Op.store 22 (Operand.tmp 48) (Operand.tmp 46), type := 0, pos := "lines.go:56", after := #[{ on := 24, ground := Ground.data }, { on := 22, ground := Ground.data }, { on := 22, ground := Ground.chain }, { on := 0, ground := Ground.phase }, { on := 1, ground := Ground.phase }, { on := 2, ground := Ground.phase }, { on := 3, ground := Ground.phase }, { on := 4, ground := Ground.phase }, { on := 5, ground := Ground.phase }, { on := 6, ground := Ground.phase }, { on := 7, ground := Ground.phase }, { on := 8, ground := Ground.phase }, { on := 9, ground := Ground.phase }, { on := 10, ground := Ground.phase }, { on := 11, ground := Ground.phase }, { on := 12, ground := Ground.phase }, { on := 13, ground := Ground.phase }, { on := 14, ground := Ground.phase }, { on := 15, ground := Ground.phase }, { on := 16, ground := Ground.phase }, { on := 17, ground := Ground.phase }, { on := 18, ground := Ground.phase }, { on := 19, ground := Ground.phase }, { on := 20, ground := Ground.phase }, { on := 21, ground := Ground.phase }, { on := 22, ground := Ground.phase }], guard := none }) rfl (fun KK hK => ?_) (AllReadyK.nil)
          try simp only [List.getElem_toArray, List.getElem_cons_succ, List.getElem_cons_zero]
          obtain ⟨_, _, s2, _, _, sf, sl⟩ := HSP1.out.cells
          have sf2 := sf 2
          clear sf
          go_simp
          clear s2 sf2
          refine hK.out _ _ (fun h => absurd (show true = false from h) (by decide)) ?_
          clear hK KK
          try simp only [Act.put, List.setIfInBounds_toArray, List.set_cons_zero, List.set_cons_succ]
          refine wpAnyK_done (by kernel_rfl) ?_ _
          go_wp2_with fail
          go_roundg 0
          case measure => have := HG.out; omega
          case rel =>
            have hdis : ∀ k, ((T k ∧ k < W0.heap.size) ∨ W0.heap.size ≤ k) → k ≠ p := fun k hk e => by
              rcases hk with hk | hk
              · exact HTP.out k hk.1 e
              · have := blk_lt HSP.out.blk; omega
            exact ⟨1, rfl, by omega, rfl, .inr ⟨rfl, a', n', c', HSP1.out.set_line a' n' c', (by first | exact HL'.out.at_.mod (S := fun k => k = p) ((Mod.refl (fun k => k = p) w').setCell ⟨p, 2, none⟩ (.inl rfl) (.slice a' n' c')) (fun k hk e => hdis k hk e) | (rw [HTT.out]; exact HL'.out.at_.mod (S := fun k => k = p) ((Mod.refl (fun k => k = p) w').setCell ⟨p, 2, none⟩ (.inl rfl) (.slice a' n' c')) (fun k hk e => hdis k hk e))), HL'.out.na, HL'.out.sp, HL'.out.nc, HL'.out.cm, ((Mod.of_below HB1.out (fun k => k = p)).setCell ⟨p, 2, none⟩ (.inl rfl) _)⟩⟩
        · have d1 : decide (R < Y) = false := by simp; omega
          have d2 : decide ((R : Int) < Y) = false := by simp; omega
          have d3 : ¬ (R < Y) := by omega
          have d4 : ¬ ((R : Int) < Y) := by omega
          have d5 : (Y : Int) < R := by omega
          have d6 : (Y : Int) ≤ Y := by omega
          have d7 : Y ≤ Y := by omega
          have HTK : Hid ((ys.take Y).length = Y) := Lib.hid (by rw [List.length_take]; have := HYL.out; omega)
          have ex : SY.extract 0 Y = strOfNums (ys.take Y) := by rw [HSY.out, str_to]
          have HTT : Hid (ys.take R = ys.take Y) := Lib.hid (by first | rfl | (rw [List.take_of_length_le (by have := HYL.out; omega), List.take_of_length_le (by have := HYL.out; omega)]))
          go_upto_region 4 with fail
          refine wp_region_K 25 (fun W => W.cell? ⟨p, 2, none⟩ = some (.slice none 0 0)) (by kernel_rfl) ?_
          obtain ⟨wd, hwd⟩ : ∃ W, W = (wq).drew := ⟨_, rfl⟩
          have HBd : Hid (Below (wq).heap.size (wq) wd) := Lib.hid (by rw [hwd]; exact Below.drewN' (wq) 1)
          have hS0 : (fun W : World => W.cell? ⟨p, 2, none⟩ = some (.slice none 0 0)) wd := by rw [hwd]; exact c2
          rw [← hwd]
          have HBe : Hid (Below W0.heap.size W0 wd) := Lib.hid (HBQ.out.trans (HBd.out.mono HBQ.out.size))
          clear hwd
          refine' wpAnyK_take (i := 0) (oi := { dst := some 24, op := Op.move (Operand.tmp 0), type := 24, pos := "lines.go:56", after := #[], guard := none }) (v := ?v3001) rfl (by kernel_rfl) (by kernel_rfl) (by kernel_rfl) [] (by kernel_rfl) (by decide) (by kernel_rfl) (by kernel_rfl) (fun _ _ _ h => h) hS0 (.inl ⟨by first | rfl | simp [Region.wanted, yielded], ?hy3001⟩) ?rest3001
          case hy3001 => (intro W hW; have f1 := hW; go_simp; try with_reducible rfl)
          simp only [Act.put, List.setIfInBounds_toArray, List.set_cons_zero, List.set_cons_succ]
          refine' wpAnyK_take (i := 1) (oi := { dst := some 25, op := Op.move (Operand.tmp 0), type := 24, pos := "lines.go:56", after := #[], guard := none }) (v := ?v3002) rfl (by kernel_rfl) (by kernel_rfl) (by kernel_rfl) [] (by kernel_rfl) (by decide) (by kernel_rfl) (by kernel_rfl) (fun _ _ _ h => h) hS0 (.inl ⟨by first | rfl | simp [Region.wanted, yielded], ?hy3002⟩) ?rest3002
          case hy3002 => (intro W hW; have f1 := hW; go_simp; try with_reducible rfl)
          simp only [Act.put, List.setIfInBounds_toArray, List.set_cons_zero, List.set_cons_succ]
          refine' wpAnyK_take (i := 2) (oi := { dst := some 26, op := Op.nilCheck (Operand.tmp 25), type := 0, pos := "lines.go:56", after := #[{ on := 1, ground := Ground.data }], guard := none }) (v := ?v3003) rfl (by kernel_rfl) (by kernel_rfl) (by kernel_rfl) [] (by kernel_rfl) (by decide) (by kernel_rfl) (by kernel_rfl) (fun _ _ _ h => h) hS0 (.inl ⟨by first | rfl | simp [Region.wanted, yielded], ?hy3003⟩) ?rest3003
          case hy3003 => (intro W hW; have f1 := hW; go_simp; try with_reducible rfl)
          simp only [Act.put, List.setIfInBounds_toArray, List.set_cons_zero, List.set_cons_succ]
          refine' wpAnyK_take (i := 3) (oi := { dst := some 27, op := Op.fieldAddr 60 (Operand.tmp 26) 2, type := 0, pos := "lines.go:56", after := #[{ on := 2, ground := Ground.data }], guard := none }) (v := ?v3004) rfl (by kernel_rfl) (by kernel_rfl) (by kernel_rfl) [] (by kernel_rfl) (by decide) (by kernel_rfl) (by kernel_rfl) (fun _ _ _ h => h) hS0 (.inl ⟨by first | rfl | simp [Region.wanted, yielded], ?hy3004⟩) ?rest3004
          case hy3004 => (intro W hW; have f1 := hW; go_simp; try with_reducible rfl)
          simp only [Act.put, List.setIfInBounds_toArray, List.set_cons_zero, List.set_cons_succ]
          refine' wpAnyK_take (i := 4) (oi := { dst := some 28, op := Op.load 22 (Operand.tmp 27), type := 22, pos := "lines.go:56", after := #[{ on := 3, ground := Ground.data }], guard := none }) (v := ?v3005) rfl (by kernel_rfl) (by kernel_rfl) (by kernel_rfl) [] (by kernel_rfl) (by decide) (by kernel_rfl) (by kernel_rfl) (fun _ _ _ h => h) hS0 (.inl ⟨by first | rfl | simp [Region.wanted, yielded], ?hy3005⟩) ?rest3005
          case hy3005 => (intro W hW; have f1 := hW; go_simp; try with_reducible rfl)
          simp only [Act.put, List.setIfInBounds_toArray, List.set_cons_zero, List.set_cons_succ]
          refine' wpAnyK_take (i := 5) (oi := { dst := some 29, op := Op.move (Operand.tmp 0), type := 24, pos := "lines.go:56", after := #[], guard := none }) (v := ?v3006) rfl (by kernel_rfl) (by kernel_rfl) (by kernel_rfl) [] (by kernel_rfl) (by decide) (by kernel_rfl) (by kernel_rfl) (fun _ _ _ h => h) hS0 (.inl ⟨by first | rfl | simp [Region.wanted, yielded], ?hy3006⟩) ?rest3006
          case hy3006 => (intro W hW; have f1 := hW; go_simp; try with_reducible rfl)
          simp only [Act.put, List.setIfInBounds_toArray, List.set_cons_zero, List.set_cons_succ]
          refine' wpAnyK_take (i := 6) (oi := { dst := some 30, op := Op.nilCheck (Operand.tmp 29), type := 0, pos := "lines.go:56", after := #[{ on := 5, ground := Ground.data }], guard := none }) (v := ?v3007) rfl (by kernel_rfl) (by kernel_rfl) (by kernel_rfl) [] (by kernel_rfl) (by decide) (by kernel_rfl) (by kernel_rfl) (fun _ _ _ h => h) hS0 (.inl ⟨by first | rfl | simp [Region.wanted, yielded], ?hy3007⟩) ?rest3007
          case hy3007 => (intro W hW; have f1 := hW; go_simp; try with_reducible rfl)
          simp only [Act.put, List.setIfInBounds_toArray, List.set_cons_zero, List.set_cons_succ]
          refine' wpAnyK_take (i := 7) (oi := { dst := some 31, op := Op.fieldAddr 60 (Operand.tmp 30) 2, type := 0, pos := "lines.go:56", after := #[{ on := 6, ground := Ground.data }], guard := none }) (v := ?v3008) rfl (by kernel_rfl) (by kernel_rfl) (by kernel_rfl) [] (by kernel_rfl) (by decide) (by kernel_rfl) (by kernel_rfl) (fun _ _ _ h => h) hS0 (.inl ⟨by first | rfl | simp [Region.wanted, yielded], ?hy3008⟩) ?rest3008
          case hy3008 => (intro W hW; have f1 := hW; go_simp; try with_reducible rfl)
          simp only [Act.put, List.setIfInBounds_toArray, List.set_cons_zero, List.set_cons_succ]
          refine' wpAnyK_take (i := 8) (oi := { dst := some 32, op := Op.load 22 (Operand.tmp 31), type := 22, pos := "lines.go:56", after := #[{ on := 7, ground := Ground.data }], guard := none }) (v := ?v3009) rfl (by kernel_rfl) (by kernel_rfl) (by kernel_rfl) [] (by kernel_rfl) (by decide) (by kernel_rfl) (by kernel_rfl) (fun _ _ _ h => h) hS0 (.inl ⟨by first | rfl | simp [Region.wanted, yielded], ?hy3009⟩) ?rest3009
          case hy3009 => (intro W hW; have f1 := hW; go_simp; try with_reducible rfl)
          simp only [Act.put, List.setIfInBounds_toArray, List.set_cons_zero, List.set_cons_succ]
          refine' wpAnyK_take (i := 9) (oi := { dst := some 33, op := Op.call { callee := Callee.builtin Builtin.len, args := #[Operand.tmp 32], argTypes := #[22] }, type := 3, pos := "lines.go:56", after := #[{ on := 8, ground := Ground.data }], guard := none }) (v := ?v3010) rfl (by kernel_rfl) (by kernel_rfl) (by kernel_rfl) [] (by kernel_rfl) (by decide) (by kernel_rfl) (by kernel_rfl) (fun _ _ _ h => h) hS0 (.inl ⟨by first | rfl | simp [Region.wanted, yielded], ?hy3010⟩) ?rest3010
          case hy3010 => (intro W hW; have f1 := hW; go_simp; try with_reducible rfl)
          simp only [Act.put, List.setIfInBounds_toArray, List.set_cons_zero, List.set_cons_succ]
          refine' wpAnyK_take (i := 10) (oi := { dst := some 34, op := Op.move (Operand.tmp 0), type := 24, pos := "lines.go:56", after := #[], guard := none }) (v := ?v3011) rfl (by kernel_rfl) (by kernel_rfl) (by kernel_rfl) [] (by kernel_rfl) (by decide) (by kernel_rfl) (by kernel_rfl) (fun _ _ _ h => h) hS0 (.inl ⟨by first | rfl | simp [Region.wanted, yielded], ?hy3011⟩) ?rest3011
          case hy3011 => (intro W hW; have f1 := hW; go_simp; try with_reducible rfl)
          simp only [Act.put, List.setIfInBounds_toArray, List.set_cons_zero, List.set_cons_succ]
          refine' wpAnyK_take (i := 11) (oi := { dst := some 35, op := Op.nilCheck (Operand.tmp 34), type := 0, pos := "lines.go:56", after := #[{ on := 10, ground := Ground.data }], guard := none }) (v := ?v3012) rfl (by kernel_rfl) (by kernel_rfl) (by kernel_rfl) [] (by kernel_rfl) (by decide) (by kernel_rfl) (by kernel_rfl) (fun _ _ _ h => h) hS0 (.inl ⟨by first | rfl | simp [Region.wanted, yielded], ?hy3012⟩) ?rest3012
          case hy3012 => (intro W hW; have f1 := hW; go_simp; try with_reducible rfl)
          simp only [Act.put, List.setIfInBounds_toArray, List.set_cons_zero, List.set_cons_succ]
          refine' wpAnyK_take (i := 12) (oi := { dst := some 36, op := Op.fieldAddr 60 (Operand.tmp 35) 2, type := 0, pos := "lines.go:56", after := #[{ on := 11, ground := Ground.data }], guard := none }) (v := ?v3013) rfl (by kernel_rfl) (by kernel_rfl) (by kernel_rfl) [] (by kernel_rfl) (by decide) (by kernel_rfl) (by kernel_rfl) (fun _ _ _ h => h) hS0 (.inl ⟨by first | rfl | simp [Region.wanted, yielded], ?hy3013⟩) ?rest3013
          case hy3013 => (intro W hW; have f1 := hW; go_simp; try with_reducible rfl)
          simp only [Act.put, List.setIfInBounds_toArray, List.set_cons_zero, List.set_cons_succ]
          refine' wpAnyK_take (i := 13) (oi := { dst := some 37, op := Op.load 22 (Operand.tmp 36), type := 22, pos := "lines.go:56", after := #[{ on := 12, ground := Ground.data }], guard := none }) (v := ?v3014) rfl (by kernel_rfl) (by kernel_rfl) (by kernel_rfl) [] (by kernel_rfl) (by decide) (by kernel_rfl) (by kernel_rfl) (fun _ _ _ h => h) hS0 (.inl ⟨by first | rfl | simp [Region.wanted, yielded], ?hy3014⟩) ?rest3014
          case hy3014 => (intro W hW; have f1 := hW; go_simp; try with_reducible rfl)
          simp only [Act.put, List.setIfInBounds_toArray, List.set_cons_zero, List.set_cons_succ]
          refine' wpAnyK_take (i := 14) (oi := { dst := some 38, op := Op.call { callee := Callee.builtin Builtin.len, args := #[Operand.tmp 37], argTypes := #[22] }, type := 3, pos := "lines.go:56", after := #[{ on := 13, ground := Ground.data }], guard := none }) (v := ?v3015) rfl (by kernel_rfl) (by kernel_rfl) (by kernel_rfl) [] (by kernel_rfl) (by decide) (by kernel_rfl) (by kernel_rfl) (fun _ _ _ h => h) hS0 (.inl ⟨by first | rfl | simp [Region.wanted, yielded], ?hy3015⟩) ?rest3015
          case hy3015 => (intro W hW; have f1 := hW; go_simp; try with_reducible rfl)
          simp only [Act.put, List.setIfInBounds_toArray, List.set_cons_zero, List.set_cons_succ]
          refine' wpAnyK_take (i := 15) (oi := { dst := some 39, op := Op.slice 22 (Operand.tmp 28) none (some (Operand.tmp 33)) (some (Operand.tmp 38)), type := 22, pos := "lines.go:56", after := #[{ on := 4, ground := Ground.data }, { on := 9, ground := Ground.data }, { on := 14, ground := Ground.data }], guard := none }) (v := ?v3016) rfl (by kernel_rfl) (by kernel_rfl) (by kernel_rfl) [] (by kernel_rfl) (by decide) (by kernel_rfl) (by kernel_rfl) (fun _ _ _ h => h) hS0 (.inl ⟨by first | rfl | simp [Region.wanted, yielded], ?hy3016⟩) ?rest3016
          case hy3016 => (intro W hW; have f1 := hW; go_simp; try with_reducible rfl)
          simp only [Act.put, List.setIfInBounds_toArray, List.set_cons_zero, List.set_cons_succ]
          refine' wpAnyK_take (i := 16) (oi := { dst := some 40, op := Op.move (Operand.tmp 5), type := 9, pos := "lines.go:56", after := #[], guard := none }) (v := ?v3017) rfl (by kernel_rfl) (by kernel_rfl) (by kernel_rfl) [] (by kernel_rfl) (by decide) (by kernel_rfl) (by kernel_rfl) (fun _ _ _ h => h) hS0 (.inl ⟨by first | rfl | simp [Region.wanted, yielded], ?hy3017⟩) ?rest3017
          case hy3017 => (intro W hW; have f1 := hW; go_simp; try with_reducible rfl)
          simp only [Act.put, List.setIfInBounds_toArray, List.set_cons_zero, List.set_cons_succ]
          refine' wpAnyK_take (i := 17) (oi := { dst := some 41, op := Op.move (Operand.tmp 6), type := 3, pos := "lines.go:56", after := #[], guard := none }) (v := ?v3018) rfl (by kernel_rfl) (by kernel_rfl) (by kernel_rfl) [] (by kernel_rfl) (by decide) (by kernel_rfl) (by kernel_rfl) (fun _ _ _ h => h) hS0 (.inl ⟨by first | rfl | simp [Region.wanted, yielded], ?hy3018⟩) ?rest3018
          case hy3018 => (intro W hW; have f1 := hW; go_simp; try with_reducible rfl)
          simp only [Act.put, List.setIfInBounds_toArray, List.set_cons_zero, List.set_cons_succ]
          refine' wpAnyK_take (i := 18) (oi := { dst := some 42, op := Op.move (Operand.tmp 5), type := 9, pos := "lines.go:56", after := #[], guard := none }) (v := ?v3019) rfl (by kernel_rfl) (by kernel_rfl) (by kernel_rfl) [] (by kernel_rfl) (by decide) (by kernel_rfl) (by kernel_rfl) (fun _ _ _ h => h) hS0 (.inl ⟨by first | rfl | simp [Region.wanted, yielded], ?hy3019⟩) ?rest3019
          case hy3019 => (intro W hW; have f1 := hW; go_simp; try with_reducible rfl)
          simp only [Act.put, List.setIfInBounds_toArray, List.set_cons_zero, List.set_cons_succ]
          refine' wpAnyK_take (i := 19) (oi := { dst := some 43, op := Op.call { callee := Callee.builtin Builtin.len, args := #[Operand.tmp 42], argTypes := #[9] }, type := 3, pos := "lines.go:56", after := #[{ on := 18, ground := Ground.data }], guard := none }) (v := ?v3020) rfl (by kernel_rfl) (by kernel_rfl) (by kernel_rfl) [] (by kernel_rfl) (by decide) (by kernel_rfl) (by kernel_rfl) (fun _ _ _ h => h) hS0 (.inl ⟨by first | rfl | simp [Region.wanted, yielded], ?hy3020⟩) ?rest3020
          case hy3020 => (intro W hW; have f1 := hW; go_simp; try with_reducible rfl)
          simp only [Act.put, List.setIfInBounds_toArray, List.set_cons_zero, List.set_cons_succ]
          refine' wpAnyK_take (i := 20) (oi := { dst := some 44, op := Op.call { callee := Callee.builtin Builtin.min, args := #[Operand.tmp 41, Operand.tmp 43], argTypes := #[3, 3] }, type := 3, pos := "lines.go:56", after := #[{ on := 17, ground := Ground.data }, { on := 19, ground := Ground.data }], guard := none }) (v := ?v3021) rfl (by kernel_rfl) (by kernel_rfl) (by kernel_rfl) [] (by kernel_rfl) (by decide) (by kernel_rfl) (by kernel_rfl) (fun _ _ _ h => h) hS0 (.inl ⟨by first | rfl | simp [Region.wanted, yielded], ?hy3021⟩) ?rest3021
          case hy3021 => (intro W hW; have f1 := hW; go_simp; try with_reducible rfl)
          simp only [Act.put, List.setIfInBounds_toArray, List.set_cons_zero, List.set_cons_succ]
          refine' wpAnyK_take (i := 21) (oi := { dst := some 45, op := Op.slice 9 (Operand.tmp 40) none (some (Operand.tmp 44)) none, type := 9, pos := "lines.go:56", after := #[{ on := 16, ground := Ground.data }, { on := 20, ground := Ground.data }], guard := none }) (v := ?v3022) rfl (by kernel_rfl) (by kernel_rfl) (by kernel_rfl) [] (by kernel_rfl) (by decide) (by kernel_rfl) (by kernel_rfl) (fun _ _ _ h => h) hS0 (.inl ⟨by first | rfl | simp [Region.wanted, yielded], ?hy3022⟩) ?rest3022
          case hy3022 => (intro W hW; have f1 := hW; go_simp; try with_reducible rfl)
          simp only [Act.put, List.setIfInBounds_toArray, List.set_cons_zero, List.set_cons_succ]
          refine wpAnyK_ready (rs := [22]) (by kernel_rfl) (by simp) ?_
          refine AllReadyK.cons (o := { dst := some 46, op := Op.call { callee := Callee.builtin Builtin.append, args := #[Operand.tmp 39, Operand.tmp 45], argTypes := #[22, 9] }, type := 22, pos := "lines.go:56", after := #[{ on := 15, ground := Ground.data }, { on := 21, ground := Ground.data }], guard := none }) rfl (fun KK hK => ?_) (AllReadyK.nil)
          refine step_append_str rfl (.tmp 39) (.tmp 45) rfl T (none) 0 Y xs (ys.take Y) (by go_simp) (by go_simp) (HLn.out.at_.below HBe.out) (fun e => (HLn.out.na e).1) (HBY.out.take Y) HTK.out (by omega) ?_
          intro v w' hbw hcase
          have hb1 := HBe.out.trans (hbw.mono HBe.out.size)
          have HB1 := Lib.hid hb1
          have HCS := Lib.hid hcase
          obtain ⟨a', n', c', rfl, hln⟩ : ∃ a' n' c', v = .slice a' n' c' ∧ Ln (fun k => (T k ∧ k < W0.heap.size) ∨ W0.heap.size ≤ k) w' a' n' c' (xs ++ ys.take Y) := by
            have hs := HBe.out.size
            rcases hcase with ⟨h0, rfl, rfl⟩ | ⟨h0, G, cap, rfl, g1, g2, g3, g4⟩
            · have hnil : ys.take Y = [] := List.eq_nil_of_length_eq_zero (HTK.out.trans h0)
              refine ⟨_, _, _, rfl, ⟨by rw [hnil, List.append_nil]; exact ((HLn.out.at_.mono (fun k h1 h2 => .inl ⟨h2, h1⟩)).below HBe.out), fun e => ⟨(HLn.out.na e).1, (HLn.out.na e).1⟩, HLn.out.sp, Nat.le_refl _, Nat.le_trans HLn.out.nc HLn.out.cm⟩⟩
            · exact ⟨_, _, _, rfl, ⟨g4.mono (fun k h1 h2 => .inr (by have h3 : k = G := h2; omega)), (fun e => by cases e), (fun ad e => by cases e; rfl), g1, g2⟩⟩
          have HL' := Lib.hid hln
          have hsp := HSP.out.below hb1
          have HSP1 := Lib.hid hsp
          have hS1 : (fun W : World => W.cell? ⟨p, 2, none⟩ = some (.slice none 0 0)) w' := (hsp.cells).2.2.1
          clear hb1 hcase hln hsp hbw
          refine hK.out _ _ (fun _ => hS1) ?_
          clear hK KK
          try simp only [Act.put, List.setIfInBounds_toArray, List.set_cons_zero, List.set_cons_succ]
          refine' wpAnyK_take (i := 23) (oi := { dst := some 47, op := Op.nilCheck (Operand.tmp 24), type := 0, pos := "lines.go:56", after := #[{ on := 0, ground := Ground.data }, { on := 0, ground := Ground.phase }, { on := 1, ground := Ground.phase }, { on := 2, ground := Ground.phase }, { on := 3, ground := Ground.phase }, { on := 4, ground := Ground.phase }, { on := 5, ground := Ground.phase }, { on := 6, ground := Ground.phase }, { on := 7, ground := Ground.phase }, { on := 8, ground := Ground.phase }, { on := 9, ground := Ground.phase }, { on := 10, ground := Ground.phase }, { on := 11, ground := Ground.phase }, { on := 12, ground := Ground.phase }, { on := 13, ground := Ground.phase }, { on := 14, ground := Ground.phase }, { on := 15, ground := Ground.phase }, { on := 16, ground := Ground.phase }, { on := 17, ground := Ground.phase }, { on := 18, ground := Ground.phase }, { on := 19, ground := Ground.phase }, { on := 20, ground := Ground.phase }, { on := 21, ground := Ground.phase }, { on := 22, ground := Ground.phase }], guard := none }) (v := ?v3023) rfl (by kernel_rfl) (by kernel_rfl) (by kernel_rfl) [24] (by kernel_rfl) (by decide) (by kernel_rfl) (by kernel_rfl) (fun _ _ _ h => h) hS1 (.inl ⟨by first | rfl | simp [Region.wanted, yielded], ?hy3023⟩) ?rest3023
          case hy3023 => (intro W hW; have f1 := hW; go_simp; try with_reducible rfl)
          simp only [Act.put, List.setIfInBounds_toArray, List.set_cons_zero, List.set_cons_succ]
          refine' wpAnyK_take (i := 24) (oi := { dst := some 48, op := Op.fieldAddr 60 (Operand.tmp 47) 2, type := 0, pos := "lines.go:56", after := #[{ on := 23, ground := Ground.data }, { on := 0, ground := Ground.phase }, { on := 1, ground := Ground.phase }, { on := 2, ground := Ground.phase }, { on := 3, ground := Ground.phase }, { on := 4, ground := Ground.phase }, { on := 5, ground := Ground.phase }, { on := 6, ground := Ground.phase }, { on := 7, ground := Ground.phase }, { on := 8, ground := Ground.phase }, { on := 9, ground := Ground.phase }, { on := 10, ground := Ground.phase }, { on := 11, ground := Ground.phase }, { on := 12, ground := Ground.phase }, { on := 13, ground := Ground.phase }, { on := 14, ground := Ground.phase }, { on := 15, ground := Ground.phase }, { on := 16, ground := Ground.phase }, { on := 17, ground := Ground.phase }, { on := 18, ground := Ground.phase }, { on := 19, ground := Ground.phase }, { on := 20, ground := Ground.phase }, { on := 21, ground := Ground.phase }, { on := 22, ground := Ground.phase }], guard := none }) (v := ?v3024) rfl (by kernel_rfl) (by kernel_rfl) (by kernel_rfl) [] (by kernel_rfl) (by decide) (by kernel_rfl) (by kernel_rfl) (fun _ _ _ h => h) hS1 (.inl ⟨by first | rfl | simp [Region.wanted, yielded], ?hy3024⟩) ?rest3024
          case hy3024 => (intro W hW; have f1 := hW; go_simp; try with_reducible rfl)
          simp only [Act.put, List.setIfInBounds_toArray, List.set_cons_zero, List.set_cons_succ]
          refine wpAnyK_ready (rs := [25]) (by kernel_rfl) (by simp) ?_
          refine AllReadyK.cons (o := { dst := none, op := Op.store 22 (Operand.tmp 48) (Operand.tmp 46), type := 0, pos := "lines.go:56", after := #[{ on := 24, ground := Ground.data }, { on := 22, ground := Ground.data }, { on := 22, ground := Ground.chain }, { on := 0, ground := Ground.phase }, { on := 1, ground := Ground.phase }, { on := 2, ground := Ground.phase }, { on := 3, ground := Ground.phase }, { on := 4, ground := Ground.phase }, { on := 5, ground := Ground.phase }, { on := 6, ground := Ground.phase }, { on := 7, ground := Ground.phase }, { on := 8, ground := Ground.phase }, { on := 9, ground := Ground.phase }, { on := 10, ground := Ground.phase }, { on := 11, ground := Ground.phase }, { on := 12, ground := Ground.phase }, { on := 13, ground := Ground.phase }, { on := 14, ground := Ground.phase }, { on := 15, ground := Ground.phase }, { on := 16, ground := Ground.phase }, { on := 17, ground := Ground.phase }, { on := 18, ground := Ground.phase }, { on := 19, ground := Ground.phase }, { on := 20, ground := Ground.phase }, { on := 21, ground := Ground.phase }, { on := 22, ground := Ground.phase }], guard := none }) rfl (fun KK hK => ?_) (AllReadyK.nil)
          try simp only [List.getElem_toArray, List.getElem_cons_succ, List.getElem_cons_zero]
          obtain ⟨_, _, s2, _, _, sf, sl⟩ := HSP1.out.cells
          have sf2 := sf 2
          clear sf
          go_simp
          clear s2 sf2
          refine hK.out _ _ (fun h => absurd (show true = false from h) (by decide)) ?_
          clear hK KK
          try simp only [Act.put, List.setIfInBounds_toArray, List.set_cons_zero, List.set_cons_succ]
          refine wpAnyK_done (by kernel_rfl) ?_ _
          go_wp2_with fail
          go_roundg 0
          case measure => have := HG.out; omega
          case rel =>
            have hdis : ∀ k, ((T k ∧ k < W0.heap.size) ∨ W0.heap.size ≤ k) → k ≠ p := fun k hk e => by
              rcases hk with hk | hk
              · exact HTP.out k hk.1 e
              · have := blk_lt HSP.out.blk; omega
            exact ⟨1, rfl, by omega, rfl, .inr ⟨rfl, a', n', c', HSP1.out.set_line a' n' c', (by first | exact HL'.out.at_.mod (S := fun k => k = p) ((Mod.refl (fun k => k = p) w').setCell ⟨p, 2, none⟩ (.inl rfl) (.slice a' n' c')) (fun k hk e => hdis k hk e) | (rw [HTT.out]; exact HL'.out.at_.mod (S := fun k => k = p) ((Mod.refl (fun k => k = p) w').setCell ⟨p, 2, none⟩ (.inl rfl) (.slice a' n' c')) (fun k hk e => hdis k hk e))), HL'.out.na, HL'.out.sp, HL'.out.nc, HL'.out.cm, ((Mod.of_below HB1.out (fun k => k = p)).setCell ⟨p, 2, none⟩ (.inl rfl) _)⟩⟩
      | some ad =>
        obtain ⟨b0, off0, spot⟩ := ad
        obtain rfl : spot = none := HLn.out.sp _ rfl
        rcases Nat.lt_trichotomy R Y with hRY | hRY | hRY
        · have d1 : decide (R < Y) = true := by simpa using hRY
          have d2 : decide ((R : Int) < Y) = true := by simp; omega
          have d3 : ¬ (Y < R) := by omega
          have d4 : ¬ ((Y : Int) < R) := by omega
          have d5 : (R : Int) < Y := by omega
          have d6 : (R : Int) ≤ Y := by omega
          have d7 : R ≤ Y := by omega
          have HTK : Hid ((ys.take R).length = R) := Lib.hid (by rw [List.length_take]; have := HYL.out; omega)
          have ex : SY.extract 0 R = strOfNums (ys.take R) := by rw [HSY.out, str_to]
          have HTT : Hid (ys.take R = ys.take R) := Lib.hid (by first | rfl | (rw [List.take_of_length_le (by have := HYL.out; omega), List.take_of_length_le (by have := HYL.out; omega)]))
          go_upto_region 4 with fail
          refine wp_region_K 25 (fun W => W.cell? ⟨p, 2, none⟩ = some (.slice (some ⟨b0, off0, none⟩) n c)) (by kernel_rfl) ?_
          obtain ⟨wd, hwd⟩ : ∃ W, W = (wq).drew := ⟨_, rfl⟩
          have HBd : Hid (Below (wq).heap.size (wq) wd) := Lib.hid (by rw [hwd]; exact Below.drewN' (wq) 1)
          have hS0 : (fun W : World => W.cell? ⟨p, 2, none⟩ = some (.slice (some ⟨b0, off0, none⟩) n c)) wd := by rw [hwd]; exact c2
          rw [← hwd]
          have HBe : Hid (Below W0.heap.size W0 wd) := Lib.hid (HBQ.out.trans (HBd.out.mono HBQ.out.size))
          clear hwd
          refine' wpAnyK_take (i := 0) (oi := { dst := some 24, op := Op.move (Operand.tmp 0), type := 24, pos := "lines.go:56", after := #[], guard := none }) (v := ?v4001) rfl (by kernel_rfl) (by kernel_rfl) (by kernel_rfl) [] (by kernel_rfl) (by decide) (by kernel_rfl) (by kernel_rfl) (fun _ _ _ h => h) hS0 (.inl ⟨by first | rfl | simp [Region.wanted, yielded], ?hy4001⟩) ?rest4001
          case hy4001 => (intro W hW; have f1 := hW; go_simp; try with_reducible rfl)
          simp only [Act.put, List.setIfInBounds_toArray, List.set_cons_zero, List.set_cons_succ]
          refine' wpAnyK_take (i := 1) (oi := { dst := some 25, op := Op.move (Operand.tmp 0), type := 24, pos := "lines.go:56", after := #[], guard := none }) (v := ?v4002) rfl (by kernel_rfl) (by kernel_rfl) (by kernel_rfl) [] (by kernel_rfl) (by decide) (by kernel_rfl) (by kernel_rfl) (fun _ _ _ h => h) hS0 (.inl ⟨by first | rfl | simp [Region.wanted, yielded], ?hy4002⟩) ?rest4002
          case hy4002 => (intro W hW; have f1 := hW; go_simp; try with_reducible rfl)
          simp only [Act.put, List.setIfInBounds_toArray, List.set_cons_zero, List.set_cons_succ]
          refine' wpAnyK_take (i := 2) (oi := { dst := some 26, op := Op.nilCheck (Operand.tmp 25), type := 0, pos := "lines.go:56", after := #[{ on := 1, ground := Ground.data }], guard := none }) (v := ?v4003) rfl (by kernel_rfl) (by kernel_rfl) (by kernel_rfl) [] (by kernel_rfl) (by decide) (by kernel_rfl) (by kernel_rfl) (fun _ _ _ h => h) hS0 (.inl ⟨by first | rfl | simp [Region.wanted, yielded], ?hy4003⟩) ?rest4003
          case hy4003 => (intro W hW; have f1 := hW; go_simp; try with_reducible rfl)
          simp only [Act.put, List.setIfInBounds_toArray, List.set_cons_zero, List.set_cons_succ]
          refine' wpAnyK_take (i := 3) (oi := { dst := some 27, op := Op.fieldAddr 60 (Operand.tmp 26) 2, type := 0, pos := "lines.go:56", after := #[{ on := 2, ground := Ground.data }], guard := none }) (v := ?v4004) rfl (by kernel_rfl) (by kernel_rfl) (by kernel_rfl) [] (by kernel_rfl) (by decide) (by kernel_rfl) (by kernel_rfl) (fun _ _ _ h => h) hS0 (.inl ⟨by first | rfl | simp [Region.wanted, yielded], ?hy4004⟩) ?rest4004
          case hy4004 => (intro W hW; have f1 := hW; go_simp; try with_reducible rfl)
          simp only [Act.put, List.setIfInBounds_toArray, List.set_cons_zero, List.set_cons_succ]
          refine' wpAnyK_take (i := 4) (oi := { dst := some 28, op := Op.load 22 (Operand.tmp 27), type := 22, pos := "lines.go:56", after := #[{ on := 3, ground := Ground.data }], guard := none }) (v := ?v4005) rfl (by kernel_rfl) (by kernel_rfl) (by kernel_rfl) [] (by kernel_rfl) (by decide) (by kernel_rfl) (by kernel_rfl) (fun _ _ _ h => h) hS0 (.inl ⟨by first | rfl | simp [Region.wanted, yielded], ?hy4005⟩) ?rest4005
          case hy4005 => (intro W hW; have f1 := hW; go_simp; try with_reducible rfl)
          simp only [Act.put, List.setIfInBounds_toArray, List.set_cons_zero, List.set_cons_succ]
          refine' wpAnyK_take (i := 5) (oi := { dst := some 29, op := Op.move (Operand.tmp 0), type := 24, pos := "lines.go:56", after := #[], guard := none }) (v := ?v4006) rfl (by kernel_rfl) (by kernel_rfl) (by kernel_rfl) [] (by kernel_rfl) (by decide) (by kernel_rfl) (by kernel_rfl) (fun _ _ _ h => h) hS0 (.inl ⟨by first | rfl | simp [Region.wanted, yielded], ?hy4006⟩) ?rest4006
          case hy4006 => (intro W hW; have f1 := hW; go_simp; try with_reducible rfl)
          simp only [Act.put, List.setIfInBounds_toArray, List.set_cons_zero, List.set_cons_succ]
          refine' wpAnyK_take (i := 6) (oi := { dst := some 30, op := Op.nilCheck (Operand.tmp 29), type := 0, pos := "lines.go:56", after := #[{ on := 5, ground := Ground.data }], guard := none }) (v := ?v4007) rfl (by kernel_rfl) (by kernel_rfl) (by kernel_rfl) [] (by kernel_rfl) (by decide) (by kernel_rfl) (by kernel_rfl) (fun _ _ _ h => h) hS0 (.inl ⟨by first | rfl | simp [Region.wanted, yielded], ?hy4007⟩) ?rest4007
          case hy4007 => (intro W hW; have f1 := hW; go_simp; try with_reducible rfl)
          simp only [Act.put, List.setIfInBounds_toArray, List.set_cons_zero, List.set_cons_succ]
          refine' wpAnyK_take (i := 7) (oi := { dst := some 31, op := Op.fieldAddr 60 (Operand.tmp 30) 2, type := 0, pos := "lines.go:56", after := #[{ on := 6, ground := Ground.data }], guard := none }) (v := ?v4008) rfl (by kernel_rfl) (by kernel_rfl) (by kernel_rfl) [] (by kernel_rfl) (by decide) (by kernel_rfl) (by kernel_rfl) (fun _ _ _ h => h) hS0 (.inl ⟨by first | rfl | simp [Region.wanted, yielded], ?hy4008⟩) ?rest4008
          case hy4008 => (intro W hW; have f1 := hW; go_simp; try with_reducible rfl)
          simp only [Act.put, List.setIfInBounds_toArray, List.set_cons_zero, List.set_cons_succ]
          refine' wpAnyK_take (i := 8) (oi := { dst := some 32, op := Op.load 22 (Operand.tmp 31), type := 22, pos := "lines.go:56", after := #[{ on := 7, ground := Ground.data }], guard := none }) (v := ?v4009) rfl (by kernel_rfl) (by kernel_rfl) (by kernel_rfl) [] (by kernel_rfl) (by decide) (by kernel_rfl) (by kernel_rfl) (fun _ _ _ h => h) hS0 (.inl ⟨by first | rfl | simp [Region.wanted, yielded], ?hy4009⟩) ?rest4009
          case hy4009 => (intro W hW; have f1 := hW; go_simp; try with_reducible rfl)
          simp only [Act.put, List.setIfInBounds_toArray, List.set_cons_zero, List.set_cons_succ]
          refine' wpAnyK_take (i := 9) (oi := { dst := some 33, op := Op.call { callee := Callee.builtin Builtin.len, args := #[Operand.tmp 32], argTypes := #[22] }, type := 3, pos := "lines.go:56", after := #[{ on := 8, ground := Ground.data }], guard := none }) (v := ?v4010) rfl (by kernel_rfl) (by kernel_rfl) (by kernel_rfl) [] (by kernel_rfl) (by decide) (by kernel_rfl) (by kernel_rfl) (fun _ _ _ h => h) hS0 (.inl ⟨by first | rfl | simp [Region.wanted, yielded], ?hy4010⟩) ?rest4010
          case hy4010 => (intro W hW; have f1 := hW; go_simp; try with_reducible rfl)
          simp only [Act.put, List.setIfInBounds_toArray, List.set_cons_zero, List.set_cons_succ]
          refine' wpAnyK_take (i := 10) (oi := { dst := some 34, op := Op.move (Operand.tmp 0), type := 24, pos := "lines.go:56", after := #[], guard := none }) (v := ?v4011) rfl (by kernel_rfl) (by kernel_rfl) (by kernel_rfl) [] (by kernel_rfl) (by decide) (by kernel_rfl) (by kernel_rfl) (fun _ _ _ h => h) hS0 (.inl ⟨by first | rfl | simp [Region.wanted, yielded], ?hy4011⟩) ?rest4011
          case hy4011 => (intro W hW; have f1 := hW; go_simp; try with_reducible rfl)
          simp only [Act.put, List.setIfInBounds_toArray, List.set_cons_zero, List.set_cons_succ]
          refine' wpAnyK_take (i := 11) (oi := { dst := some 35, op := Op.nilCheck (Operand.tmp 34), type := 0, pos := "lines.go:56", after := #[{ on := 10, ground := Ground.data }], guard := none }) (v := ?v4012) rfl (by kernel_rfl) (by kernel_rfl) (by kernel_rfl) [] (by kernel_rfl) (by decide) (by kernel_rfl) (by kernel_rfl) (fun _ _ _ h => h) hS0 (.inl ⟨by first | rfl | simp [Region.wanted, yielded], ?hy4012⟩) ?rest4012
          case hy4012 => (intro W hW; have f1 := hW; go_simp; try with_reducible rfl)
          simp only [Act.put, List.setIfInBounds_toArray, List.set_cons_zero, List.set_cons_succ]
          refine' wpAnyK_take (i := 12) (oi := { dst := some 36, op := Op.fieldAddr 60 (Operand.tmp 35) 2, type := 0, pos := "lines.go:56", after := #[{ on := 11, ground := Ground.data }], guard := none }) (v := ?v4013) rfl (by kernel_rfl) (by kernel_rfl) (by kernel_rfl) [] (by kernel_rfl) (by decide) (by kernel_rfl) (by kernel_rfl) (fun _ _ _ h => h) hS0 (.inl ⟨by first | rfl | simp [Region.wanted, yielded], ?hy4013⟩) ?rest4013
          case hy4013 => (intro W hW; have f1 := hW; go_simp; try with_reducible rfl)
          simp only [Act.put, List.setIfInBounds_toArray, List.set_cons_zero, List.set_cons_succ]
          refine' wpAnyK_take (i := 13) (oi := { dst := some 37, op := Op.load 22 (Operand.tmp 36), type := 22, pos := "lines.go:56", after := #[{ on := 12, ground := Ground.data }], guard := none }) (v := ?v4014) rfl (by kernel_rfl) (by kernel_rfl) (by kernel_rfl) [] (by kernel_rfl) (by decide) (by kernel_rfl) (by kernel_rfl) (fun _ _ _ h => h) hS0 (.inl ⟨by first | rfl | simp [Region.wanted, yielded], ?hy4014⟩) ?rest4014
          case hy4014 => (intro W hW; have f1 := hW; go_simp; try with_reducible rfl)
          simp only [Act.put, List.setIfInBounds_toArray, List.set_cons_zero, List.set_cons_succ]
          refine' wpAnyK_take (i := 14) (oi := { dst := some 38, op := Op.call { callee := Callee.builtin Builtin.len, args := #[Operand.tmp 37], argTypes := #[22] }, type := 3, pos := "lines.go:56", after := #[{ on := 13, ground := Ground.data }], guard := none }) (v := ?v4015) rfl (by kernel_rfl) (by kernel_rfl) (by kernel_rfl) [] (by kernel_rfl) (by decide) (by kernel_rfl) (by kernel_rfl) (fun _ _ _ h => h) hS0 (.inl ⟨by first | rfl | simp [Region.wanted, yielded], ?hy4015⟩) ?rest4015
          case hy4015 => (intro W hW; have f1 := hW; go_simp; try with_reducible rfl)
          simp only [Act.put, List.setIfInBounds_toArray, List.set_cons_zero, List.set_cons_succ]
          refine' wpAnyK_take (i := 15) (oi := { dst := some 39, op := Op.slice 22 (Operand.tmp 28) none (some (Operand.tmp 33)) (some (Operand.tmp 38)), type := 22, pos := "lines.go:56", after := #[{ on := 4, ground := Ground.data }, { on := 9, ground := Ground.data }, { on := 14, ground := Ground.data }], guard := none }) (v := ?v4016) rfl (by kernel_rfl) (by kernel_rfl) (by kernel_rfl) [] (by kernel_rfl) (by decide) (by kernel_rfl) (by kernel_rfl) (fun _ _ _ h => h) hS0 (.inl ⟨by first | rfl | simp [Region.wanted, yielded], ?hy4016⟩) ?rest4016
          case hy4016 => (intro W hW; have f1 := hW; go_simp; try with_reducible rfl)
          simp only [Act.put, List.setIfInBounds_toArray, List.set_cons_zero, List.set_cons_succ]
          refine' wpAnyK_take (i := 16) (oi := { dst := some 40, op := Op.move (Operand.tmp 5), type := 9, pos := "lines.go:56", after := #[], guard := none }) (v := ?v4017) rfl (by kernel_rfl) (by kernel_rfl) (by kernel_rfl) [] (by kernel_rfl) (by decide) (by kernel_rfl) (by kernel_rfl) (fun _ _ _ h => h) hS0 (.inl ⟨by first | rfl | simp [Region.wanted, yielded], ?hy4017⟩) ?rest4017
          case hy4017 => (intro W hW; have f1 := hW; go_simp; try with_reducible rfl)
          simp only [Act.put, List.setIfInBounds_toArray, List.set_cons_zero, List.set_cons_succ]
          refine' wpAnyK_take (i := 17) (oi := { dst := some 41, op := Op.move (Operand.tmp 6), type := 3, pos := "lines.go:56", after := #[], guard := none }) (v := ?v4018) rfl (by kernel_rfl) (by kernel_rfl) (by kernel_rfl) [] (by kernel_rfl) (by decide) (by kernel_rfl) (by kernel_rfl) (fun _ _ _ h => h) hS0 (.inl ⟨by first | rfl | simp [Region.wanted, yielded], ?hy4018⟩) ?rest4018
          case hy4018 => (intro W hW; have f1 := hW; go_simp; try with_reducible rfl)
          simp only [Act.put, List.setIfInBounds_toArray, List.set_cons_zero, List.set_cons_succ]
          refine' wpAnyK_take (i := 18) (oi := { dst := some 42, op := Op.move (Operand.tmp 5), type := 9, pos := "lines.go:56", after := #[], guard := none }) (v := ?v4019) rfl (by kernel_rfl) (by kernel_rfl) (by kernel_rfl) [] (by kernel_rfl) (by decide) (by kernel_rfl) (by kernel_rfl) (fun _ _ _ h => h) hS0 (.inl ⟨by first | rfl | simp [Region.wanted, yielded], ?hy4019⟩) ?rest4019
          case hy4019 => (intro W hW; have f1 := hW; go_simp; try with_reducible rfl)
          simp only [Act.put, List.setIfInBounds_toArray, List.set_cons_zero, List.set_cons_succ]
          refine' wpAnyK_take (i := 19) (oi := { dst := some 43, op := Op.call { callee := Callee.builtin Builtin.len, args := #[Operand.tmp 42], argTypes := #[9] }, type := 3, pos := "lines.go:56", after := #[{ on := 18, ground := Ground.data }], guard := none }) (v := ?v4020) rfl (by kernel_rfl) (by kernel_rfl) (by kernel_rfl) [] (by kernel_rfl) (by decide) (by kernel_rfl) (by kernel_rfl) (fun _ _ _ h => h) hS0 (.inl ⟨by first | rfl | simp [Region.wanted, yielded], ?hy4020⟩) ?rest4020
          case hy4020 => (intro W hW; have f1 := hW; go_simp; try with_reducible rfl)
          simp only [Act.put, List.setIfInBounds_toArray, List.set_cons_zero, List.set_cons_succ]
          refine' wpAnyK_take (i := 20) (oi := { dst := some 44, op := Op.call { callee := Callee.builtin Builtin.min, args := #[Operand.tmp 41, Operand.tmp 43], argTypes := #[3, 3] }, type := 3, pos := "lines.go:56", after := #[{ on := 17, ground := Ground.data }, { on := 19, ground := Ground.data }], guard := none }) (v := ?v4021) rfl (by kernel_rfl) (by kernel_rfl) (by kernel_rfl) [] (by kernel_rfl) (by decide) (by kernel_rfl) (by kernel_rfl) (fun _ _ _ h => h) hS0 (.inl ⟨by first | rfl | simp [Region.wanted, yielded], ?hy4021⟩) ?rest4021
          case hy4021 => (intro W hW; have f1 := hW; go_simp; try with_reducible rfl)
          simp only [Act.put, List.setIfInBounds_toArray, List.set_cons_zero, List.set_cons_succ]
          refine' wpAnyK_take (i := 21) (oi := { dst := some 45, op := Op.slice 9 (Operand.tmp 40) none (some (Operand.tmp 44)) none, type := 9, pos := "lines.go:56", after := #[{ on := 16, ground := Ground.data }, { on := 20, ground := Ground.data }], guard := none }) (v := ?v4022) rfl (by kernel_rfl) (by kernel_rfl) (by kernel_rfl) [] (by kernel_rfl) (by decide) (by kernel_rfl) (by kernel_rfl) (fun _ _ _ h => h) hS0 (.inl ⟨by first | rfl | simp [Region.wanted, yielded], ?hy4022⟩) ?rest4022
          case hy4022 => (intro W hW; have f1 := hW; go_simp; try with_reducible rfl)
          simp only [Act.put, List.setIfInBounds_toArray, List.set_cons_zero, List.set_cons_succ]
          refine wpAnyK_ready (rs := [22]) (by kernel_rfl) (by simp) ?_
          refine AllReadyK.cons (o := { dst := some 46, op := Op.call { callee := Callee.builtin Builtin.append, args := #[Operand.tmp 39, Operand.tmp 45], argTypes := #[22, 9] }, type := 22, pos := "lines.go:56", after := #[{ on := 15, ground := Ground.data }, { on := 21, ground := Ground.data }], guard := none }) rfl (fun KK hK => ?_) (AllReadyK.nil)
          refine step_append_str rfl (.tmp 39) (.tmp 45) rfl T ((some ⟨b0, off0, none⟩)) n R xs (ys.take R) (by go_simp) (by go_simp) (HLn.out.at_.below HBe.out) (fun e => (HLn.out.na e).1) (HBY.out.take R) HTK.out (by omega) ?_
          intro v w' hbw hcase
          have hb1 := HBe.out.trans (hbw.mono HBe.out.size)
          have HB1 := Lib.hid hb1
          have HCS := Lib.hid hcase
          obtain ⟨a', n', c', rfl, hln⟩ : ∃ a' n' c', v = .slice a' n' c' ∧ Ln (fun k => (T k ∧ k < W0.heap.size) ∨ W0.heap.size ≤ k) w' a' n' c' (xs ++ ys.take R) := by
            have hs := HBe.out.size
            rcases hcase with ⟨h0, rfl, rfl⟩ | ⟨h0, G, cap, rfl, g1, g2, g3, g4⟩
            · have hnil : ys.take R = [] := List.eq_nil_of_length_eq_zero (HTK.out.trans h0)
              refine ⟨_, _, _, rfl, ⟨by rw [hnil, List.append_nil]; exact ((HLn.out.at_.mono (fun k h1 h2 => .inl ⟨h2, h1⟩)).below HBe.out), fun e => ⟨(HLn.out.na e).1, (HLn.out.na e).1⟩, HLn.out.sp, Nat.le_refl _, Nat.le_trans HLn.out.nc HLn.out.cm⟩⟩
            · exact ⟨_, _, _, rfl, ⟨g4.mono (fun k h1 h2 => .inr (by have h3 : k = G := h2; omega)), (fun e => by cases e), (fun ad e => by cases e; rfl), g1, g2⟩⟩
          have HL' := Lib.hid hln
          have hsp := HSP.out.below hb1
          have HSP1 := Lib.hid hsp
          have hS1 : (fun W : World => W.cell? ⟨p, 2, none⟩ = some (.slice (some ⟨b0, off0, none⟩) n c)) w' := (hsp.cells).2.2.1
          clear hb1 hcase hln hsp hbw
          refine hK.out _ _ (fun _ => hS1) ?_
          clear hK KK
          try simp only [Act.put, List.setIfInBounds_toArray, List.set_cons_zero, List.set_cons_succ]
          refine' wpAnyK_take (i := 23) (oi := { dst := some 47, op := Op.nilCheck (Operand.tmp 24), type := 0, pos := "lines.go:56", after := #[{ on := 0, ground := Ground.data }, { on := 0, ground := Ground.phase }, { on := 1, ground := Ground.phase }, { on := 2, ground := Ground.phase }, { on := 3, ground := Ground.phase }, { on := 4, ground := Ground.phase }, { on := 5, ground := Ground.phase }, { on := 6, ground := Ground.phase }, { on := 7, ground := Ground.phase }, { on := 8, ground := Ground.phase }, { on := 9, ground := Ground.phase }, { on := 10, ground := Ground.phase }, { on := 11, ground := Ground.phase }, { on := 12, ground := Ground.phase }, { on := 13, ground := Ground.phase }, { on := 14, ground := Ground.phase }, { on := 15, ground := Ground.phase }, { on := 16, ground := Ground.phase }, { on := 17, ground := Ground.phase }, { on := 18, ground := Ground.phase }, { on := 19, ground := Ground.phase }, { on := 20, ground := Ground.phase }, { on := 21, ground := Ground.phase }, { on := 22, ground := Ground.phase }], guard := none }) (v := ?v4023) rfl (by kernel_rfl) (by kernel_rfl) (by kernel_rfl) [24] (by kernel_rfl) (by decide) (by kernel_rfl) (by kernel_rfl) (fun _ _ _ h => h) hS1 (.inl ⟨by first | rfl | simp [Region.wanted, yielded], ?hy4023⟩) ?rest4023
          case hy4023 => (intro W hW; have f1 := hW; go_simp; try with_reducible rfl)
          simp only [Act.put, List.setIfInBounds_toArray, List.set_cons_zero, List.set_cons_succ]
          refine' wpAnyK_take (i := 24) (oi := { dst := some 48, op := Op.fieldAddr 60 (Operand.tmp 47) 2, type := 0, pos := "lines.go:56", after := #[{ on := 23, ground := Ground.data }, { on := 0, ground := Ground.phase }, { on := 1, ground := Ground.phase }, { on := 2, ground := Ground.phase }, { on := 3, ground := Ground.phase }, { on := 4, ground := Ground.phase }, { on := 5, ground := Ground.phase }, { on := 6, ground := Ground.phase }, { on := 7, ground := Ground.phase }, { on := 8, ground := Ground.phase }, { on := 9, ground := Ground.phase }, { on := 10, ground := Ground.phase }, { on := 11, ground := Ground.phase }, { on := 12, ground := Ground.phase }, { on := 13, ground := Ground.phase }, { on := 14, ground := Ground.phase }, { on := 15, ground := Ground.phase }, { on := 16, ground := Ground.phase }, { on := 17, ground := Ground.phase }, { on := 18, ground := Ground.phase }, { on := 19, ground := Ground.phase }, { on := 20, ground := Ground.phase }, { on := 21, ground := Ground.phase }, { on := 22, ground := Ground.phase }], guard := none }) (v := ?v4024) rfl (by kernel_rfl) (by kernel_rfl) (by kernel_rfl) [] (by kernel_rfl) (by decide) (by kernel_rfl) (by kernel_rfl) (fun _ _ _ h => h) hS1 (.inl ⟨by first | rfl | simp [Region.wanted, yielded], ?hy4024⟩) ?rest4024
          case hy4024 => (intro W hW; have f1 := hW; go_simp; try with_reducible rfl)
          simp only [Act.put, List.setIfInBounds_toArray, List.set_cons_zero, List.set_cons_succ]
          refine wpAnyK_ready (rs := [25]) (by kernel_rfl) (by simp) ?_
          refine AllReadyK.cons (o := { dst := none, op := Op.store 22 (Operand.tmp 48) (Operand.tmp 46), type := 0, pos := "lines.go:56", after := #[{ on := 24, ground := Ground.data }, { on := 22, ground := Ground.data }, { on := 22, ground := Ground.chain }, { on := 0, ground := Ground.phase }, { on := 1, ground := Ground.phase }, { on := 2, ground := Ground.phase }, { on := 3, ground := Ground.phase }, { on := 4, ground := Ground.phase }, { on := 5, ground := Ground.phase }, { on := 6, ground := Ground.phase }, { on := 7, ground := Ground.phase }, { on := 8, ground := Ground.phase }, { on := 9, ground := Ground.phase }, { on := 10, ground := Ground.phase }, { on := 11, ground := Ground.phase }, { on := 12, ground := Ground.phase }, { on := 13, ground := Ground.phase }, { on := 14, ground := Ground.phase }, { on := 15, ground := Ground.phase }, { on := 16, ground := Ground.phase }, { on := 17, ground := Ground.phase }, { on := 18, ground := Ground.phase }, { on := 19, ground := Ground.phase }, { on := 20, ground := Ground.phase }, { on := 21, ground := Ground.phase }, { on := 22, ground := Ground.phase }], guard := none }) rfl (fun KK hK => ?_) (AllReadyK.nil)
          try simp only [List.getElem_toArray, List.getElem_cons_succ, List.getElem_cons_zero]
          obtain ⟨_, _, s2, _, _, sf, sl⟩ := HSP1.out.cells
          have sf2 := sf 2
          clear sf
          go_simp
          clear s2 sf2
          refine hK.out _ _ (fun h => absurd (show true = false from h) (by decide)) ?_
          clear hK KK
          try simp only [Act.put, List.setIfInBounds_toArray, List.set_cons_zero, List.set_cons_succ]
          refine wpAnyK_done (by kernel_rfl) ?_ _
          go_wp2_with fail
          go_roundg 0
          case measure => have := HG.out; omega
          case rel =>
            have hdis : ∀ k, ((T k ∧ k < W0.heap.size) ∨ W0.heap.size ≤ k) → k ≠ p := fun k hk e => by
              rcases hk with hk | hk
              · exact HTP.out k hk.1 e
              · have := blk_lt HSP.out.blk; omega
            exact ⟨1, rfl, by omega, rfl, .inr ⟨rfl, a', n', c', HSP1.out.set_line a' n' c', (by first | exact HL'.out.at_.mod (S := fun k => k = p) ((Mod.refl (fun k => k = p) w').setCell ⟨p, 2, none⟩ (.inl rfl) (.slice a' n' c')) (fun k hk e => hdis k hk e) | (rw [HTT.out]; exact HL'.out.at_.mod (S := fun k => k = p) ((Mod.refl (fun k => k = p) w').setCell ⟨p, 2, none⟩ (.inl rfl) (.slice a' n' c')) (fun k hk e => hdis k hk e))), HL'.out.na, HL'.out.sp, HL'.out.nc, HL'.out.cm, ((Mod.of_below HB1.out (fun k => k = p)).setCell ⟨p, 2, none⟩ (.inl rfl) _)⟩⟩
        · subst hRY
          have d6 : (R : Int) ≤ R := by omega
          have d7 : R ≤ R := by omega
          have HTK : Hid ((ys.take R).length = R) := Lib.hid (by rw [List.length_take]; have := HYL.out; omega)
          have ex : SY.extract 0 R = strOfNums (ys.take R) := by rw [HSY.out, str_to]
          have HTT : Hid (ys.take R = ys.take R) := Lib.hid (by first | rfl | (rw [List.take_of_length_le (by have := HYL.out; omega), List.take_of_length_le (by have := HYL.out; omega)]))
          go_upto_region 4 with fail
          refine wp_region_K 25 (fun W => W.cell? ⟨p, 2, none⟩ = some (.slice (some ⟨b0, off0, none⟩) n c)) (by kernel_rfl) ?_
          obtain ⟨wd, hwd⟩ : ∃ W, W = (wq).drew := ⟨_, rfl⟩
          have HBd : Hid (Below (wq).heap.size (wq) wd) := Lib.hid (by rw [hwd]; exact Below.drewN' (wq) 1)
          have hS0 : (fun W : World => W.cell? ⟨p, 2, none⟩ = some (.slice (some ⟨b0, off0, none⟩) n c)) wd := by rw [hwd]; exact c2
          rw [← hwd]
          have HBe : Hid (Below W0.heap.size W0 wd) := Lib.hid (HBQ.out.trans (HBd.out.mono HBQ.out.size))
          clear hwd
          refine' wpAnyK_take (i := 0) (oi := { dst := some 24, op := Op.move (Operand.tmp 0), type := 24, pos := "lines.go:56", after := #[], guard := none }) (v := ?v5001) rfl (by kernel_rfl) (by kernel_rfl) (by kernel_rfl) [] (by kernel_rfl) (by decide) (by kernel_rfl) (by kernel_rfl) (fun _ _ _ h => h) hS0 (.inl ⟨by first | rfl | simp [Region.wanted, yielded], ?hy5001⟩) ?rest5001
          case hy5001 => (intro W hW; have f1 := hW; go_simp; try with_reducible rfl)
          simp only [Act.put, List.setIfInBounds_toArray, List.set_cons_zero, List.set_cons_succ]
          refine' wpAnyK_take (i := 1) (oi := { dst := some 25, op := Op.move (Operand.tmp 0), type := 24, pos := "lines.go:56", after := #[], guard := none }) (v := ?v5002) rfl (by kernel_rfl) (by kernel_rfl) (by kernel_rfl) [] (by kernel_rfl) (by decide) (by kernel_rfl) (by kernel_rfl) (fun _ _ _ h => h) hS0 (.inl ⟨by first | rfl | simp [Region.wanted, yielded], ?hy5002⟩) ?rest5002
          case hy5002 => (intro W hW; have f1 := hW; go_simp; try with_reducible rfl)
          simp only [Act.put, List.setIfInBounds_toArray, List.set_cons_zero, List.set_cons_succ]
          refine' wpAnyK_take (i := 2) (oi := { dst := some 26, op := Op.nilCheck (Operand.tmp 25), type := 0, pos := "lines.go:56", after := #[{ on := 1, ground := Ground.data }], guard := none }) (v := ?v5003) rfl (by kernel_rfl) (by kernel_rfl) (by kernel_rfl) [] (by kernel_rfl) (by decide) (by kernel_rfl) (by kernel_rfl) (fun _ _ _ h => h) hS0 (.inl ⟨by first | rfl | simp [Region.wanted, yielded], ?hy5003⟩) ?rest5003
          case hy5003 => (intro W hW; have f1 := hW; go_simp; try with_reducible rfl)
          simp only [Act.put, List.setIfInBounds_toArray, List.set_cons_zero, List.set_cons_succ]
          refine' wpAnyK_take (i := 3) (oi := { dst := some 27, op := Op.fieldAddr 60 (Operand.tmp 26) 2, type := 0, pos := "lines.go:56", after := #[{ on := 2, ground := Ground.data }], guard := none }) (v := ?v5004) rfl (by kernel_rfl) (by kernel_rfl) (by kernel_rfl) [] (by kernel_rfl) (by decide) (by kernel_rfl) (by kernel_rfl) (fun _ _ _ h => h) hS0 (.inl ⟨by first | rfl | simp [Region.wanted, yielded], ?hy5004⟩) ?rest5004
          case hy5004 => (intro W hW; have f1 := hW; go_simp; try with_reducible rfl)
          simp only [Act.put, List.setIfInBounds_toArray, List.set_cons_zero, List.set_cons_succ]
          refine' wpAnyK_take (i := 4) (oi := { dst := some 28, op := Op.load 22 (Operand.tmp 27), type := 22, pos := "lines.go:56", after := #[{ on := 3, ground := Ground.data }], guard := none }) (v := ?v5005) rfl (by kernel_rfl) (by kernel_rfl) (by kernel_rfl) [] (by kernel_rfl) (by decide) (by kernel_rfl) (by kernel_rfl) (fun _ _ _ h => h) hS0 (.inl ⟨by first | rfl | simp [Region.wanted, yielded], ?hy5005⟩) ?rest5005
          case hy5005 => (intro W hW; have f1 := hW; go_simp; try with_reducible rfl)
          simp only [Act.put, List.setIfInBounds_toArray, List.set_cons_zero, List.set_cons_succ]
          refine' wpAnyK_take (i := 5) (oi := { dst := some 29, op := Op.move (Operand.tmp 0), type := 24, pos := "lines.go:56", after := #[], guard := none }) (v := ?v5006) rfl (by kernel_rfl) (by kernel_rfl) (by kernel_rfl) [] (by kernel_rfl) (by decide) (by kernel_rfl) (by kernel_rfl) (fun _ _ _ h => h) hS0 (.inl ⟨by first | rfl | simp [Region.wanted, yielded], ?hy5006⟩) ?rest5006
          case hy5006 => (intro W hW; have f1 := hW; go_simp; try with_reducible rfl)
          simp only [Act.put, List.setIfInBounds_toArray, List.set_cons_zero, List.set_cons_succ]
          refine' wpAnyK_take (i := 6) (oi := { dst := some 30, op := Op.nilCheck (Operand.tmp 29), type := 0, pos := "lines.go:56", after := #[{ on := 5, ground := Ground.data }], guard := none }) (v := ?v5007) rfl (by kernel_rfl) (by kernel_rfl) (by kernel_rfl) [] (by kernel_rfl) (by decide) (by kernel_rfl) (by kernel_rfl) (fun _ _ _ h => h) hS0 (.inl ⟨by first | rfl | simp [Region.wanted, yielded], ?hy5007⟩) ?rest5007
          case hy5007 => (intro W hW; have f1 := hW; go_simp; try with_reducible rfl)
          simp only [Act.put, List.setIfInBounds_toArray, List.set_cons_zero, List.set_cons_succ]
          refine' wpAnyK_take (i := 7) (oi := { dst := some 31, op := Op.fieldAddr 60 (Operand.tmp 30) 2, type := 0, pos := "lines.go:56", after := #[{ on := 6, ground := Ground.data }], guard := none }) (v := ?v5008) rfl (by kernel_rfl) (by kernel_rfl) (by kernel_rfl) [] (by kernel_rfl) (by decide) (by kernel_rfl) (by kernel_rfl) (fun _ _ _ h => h) hS0 (.inl ⟨by first | rfl | simp [Region.wanted, yielded], ?hy5008⟩) ?rest5008
          case hy5008 => (intro W hW; have f1 := hW; go_simp; try with_reducible rfl)
          simp only [Act.put, List.setIfInBounds_toArray, List.set_cons_zero, List.set_cons_succ]
          refine' wpAnyK_take (i := 8) (oi := { dst := some 32, op := Op.load 22 (Operand.tmp 31), type := 22, pos := "lines.go:56", after := #[{ on := 7, ground := Ground.data }], guard := none }) (v := ?v5009) rfl (by kernel_rfl) (by kernel_rfl) (by kernel_rfl) [] (by kernel_rfl) (by decide) (by kernel_rfl) (by kernel_rfl) (fun _ _ _ h => h) hS0 (.inl ⟨by first | rfl | simp [Region.wanted, yielded], ?hy5009⟩) ?rest5009
          case hy5009 => (intro W hW; have f1 := hW; go_simp; try with_reducible rfl)
          simp only [Act.put, List.setIfInBounds_toArray, List.set_cons_zero, List.set_cons_succ]
          refine' wpAnyK_take (i := 9) (oi := { dst := some 33, op := Op.call { callee := Callee.builtin Builtin.len, args := #[Operand.tmp 32], argTypes := #[22] }, type := 3, pos := "lines.go:56", after := #[{ on := 8, ground := Ground.data }], guard := none }) (v := ?v5010) rfl (by kernel_rfl) (by kernel_rfl) (by kernel_rfl) [] (by kernel_rfl) (by decide) (by kernel_rfl) (by kernel_rfl) (fun _ _ _ h => h) hS0 (.inl ⟨by first | rfl | simp [Region.wanted, yielded], ?hy5010⟩) ?rest5010
          case hy5010 => (intro W hW; have f1 := hW; go_simp; try with_reducible rfl)
          simp only [Act.put, List.setIfInBounds_toArray, List.set_cons_zero, List.set_cons_succ]
          refine' wpAnyK_take (i := 10) (oi := { dst := some 34, op := Op.move (Operand.tmp 0), type := 24, pos := "lines.go:56", after := #[], guard := none }) (v := ?v5011) rfl (by kernel_rfl) (by kernel_rfl) (by kernel_rfl) [] (by kernel_rfl) (by decide) (by kernel_rfl) (by kernel_rfl) (fun _ _ _ h => h) hS0 (.inl ⟨by first | rfl | simp [Region.wanted, yielded], ?hy5011⟩) ?rest5011
          case hy5011 => (intro W hW; have f1 := hW; go_simp; try with_reducible rfl)
          simp only [Act.put, List.setIfInBounds_toArray, List.set_cons_zero, List.set_cons_succ]
          refine' wpAnyK_take (i := 11) (oi := { dst := some 35, op := Op.nilCheck (Operand.tmp 34), type := 0, pos := "lines.go:56", after := #[{ on := 10, ground := Ground.data }], guard := none }) (v := ?v5012) rfl (by kernel_rfl) (by kernel_rfl) (by kernel_rfl) [] (by kernel_rfl) (by decide) (by kernel_rfl) (by kernel_rfl) (fun _ _ _ h => h) hS0 (.inl ⟨by first | rfl | simp [Region.wanted, yielded], ?hy5012⟩) ?rest5012
          case hy5012 => (intro W hW; have f1 := hW; go_simp; try with_reducible rfl)
          simp only [Act.put, List.setIfInBounds_toArray, List.set_cons_zero, List.set_cons_succ]
          refine' wpAnyK_take (i := 12) (oi := { dst := some 36, op := Op.fieldAddr 60 (Operand.tmp 35) 2, type := 0, pos := "lines.go:56", after := #[{ on := 11, ground := Ground.data }], guard := none }) (v := ?v5013) rfl (by kernel_rfl) (by kernel_rfl) (by kernel_rfl) [] (by kernel_rfl) (by decide) (by kernel_rfl) (by kernel_rfl) (fun _ _ _ h => h) hS0 (.inl ⟨by first | rfl | simp [Region.wanted, yielded], ?hy5013⟩) ?rest5013
          case hy5013 => (intro W hW; have f1 := hW; go_simp; try with_reducible rfl)
          simp only [Act.put, List.setIfInBounds_toArray, List.set_cons_zero, List.set_cons_succ]
          refine' wpAnyK_take (i := 13) (oi := { dst := some 37, op := Op.load 22 (Operand.tmp 36), type := 22, pos := "lines.go:56", after := #[{ on := 12, ground := Ground.data }], guard := none }) (v := ?v5014) rfl (by kernel_rfl) (by kernel_rfl) (by kernel_rfl) [] (by kernel_rfl) (by decide) (by kernel_rfl) (by kernel_rfl) (fun _ _ _ h => h) hS0 (.inl ⟨by first | rfl | simp [Region.wanted, yielded], ?hy5014⟩) ?rest5014
          case hy5014 => (intro W hW; have f1 := hW; go_simp; try with_reducible rfl)
          simp only [Act.put, List.setIfInBounds_toArray, List.set_cons_zero, List.set_cons_succ]
          refine' wpAnyK_take (i := 14) (oi := { dst := some 38, op := Op.call { callee := Callee.builtin Builtin.len, args := #[Operand.tmp 37], argTypes := #[22] }, type := 3, pos := "lines.go:56", after := #[{ on := 13, ground := Ground.data }], guard := none }) (v := ?v5015) rfl (by kernel_rfl) (by kernel_rfl) (by kernel_rfl) [] (by kernel_rfl) (by decide) (by kernel_rfl) (by kernel_rfl) (fun _ _ _ h => h) hS0 (.inl ⟨by first | rfl | simp [Region.wanted, yielded], ?hy5015⟩) ?rest5015
          case hy5015 => (intro W hW; have f1 := hW; go_simp; try with_reducible rfl)
          simp only [Act.put, List.setIfInBounds_toArray, List.set_cons_zero, List.set_cons_succ]
          refine' wpAnyK_take (i := 15) (oi := { dst := some 39, op := Op.slice 22 (Operand.tmp 28) none (some (Operand.tmp 33)) (some (Operand.tmp 38)), type := 22, pos := "lines.go:56", after := #[{ on := 4, ground := Ground.data }, { on := 9, ground := Ground.data }, { on := 14, ground := Ground.data }], guard := none }) (v := ?v5016) rfl (by kernel_rfl) (by kernel_rfl) (by kernel_rfl) [] (by kernel_rfl) (by decide) (by kernel_rfl) (by kernel_rfl) (fun _ _ _ h => h) hS0 (.inl ⟨by first | rfl | simp [Region.wanted, yielded], ?hy5016⟩) ?rest5016
          case hy5016 => (intro W hW; have f1 := hW; go_simp; try with_reducible rfl)
          simp only [Act.put, List.setIfInBounds_toArray, List.set_cons_zero, List.set_cons_succ]
          refine' wpAnyK_take (i := 16) (oi := { dst := some 40, op := Op.move (Operand.tmp 5), type := 9, pos := "lines.go:56", after := #[], guard := none }) (v := ?v5017) rfl (by kernel_rfl) (by kernel_rfl) (by kernel_rfl) [] (by kernel_rfl) (by decide) (by kernel_rfl) (by kernel_rfl) (fun _ _ _ h => h) hS0 (.inl ⟨by first | rfl | simp [Region.wanted, yielded], ?hy5017⟩) ?rest5017
          case hy5017 => (intro W hW; have f1 := hW; go_simp; try with_reducible rfl)
          simp only [Act.put, List.setIfInBounds_toArray, List.set_cons_zero, List.set_cons_succ]
          refine' wpAnyK_take (i := 17) (oi := { dst := some 41, op := Op.move (Operand.tmp 6), type := 3, pos := "lines.go:56", after := #[], guard := none }) (v := ?v5018) rfl (by kernel_rfl) (by kernel_rfl) (by kernel_rfl) [] (by kernel_rfl) (by decide) (by kernel_rfl) (by kernel_rfl) (fun _ _ _ h => h) hS0 (.inl ⟨by first | rfl | simp [Region.wanted, yielded], ?hy5018⟩) ?rest5018
          case hy5018 => (intro W hW; have f1 := hW; go_simp; try with_reducible rfl)
          simp only [Act.put, List.setIfInBounds_toArray, List.set_cons_zero, List.set_cons_succ]
          refine' wpAnyK_take (i := 18) (oi := { dst := some 42, op := Op.move (Operand.tmp 5), type := 9, pos := "lines.go:56", after := #[], guard := none }) (v := ?v5019) rfl (by kernel_rfl) (by kernel_rfl) (by kernel_rfl) [] (by kernel_rfl) (by decide) (by kernel_rfl) (by kernel_rfl) (fun _ _ _ h => h) hS0 (.inl ⟨by first | rfl | simp [Region.wanted, yielded], ?hy5019⟩) ?rest5019
          case hy5019 => (intro W hW; have f1 := hW; go_simp; try with_reducible rfl)
          simp only [Act.put, List.setIfInBounds_toArray, List.set_cons_zero, List.set_cons_succ]
          refine' wpAnyK_take (i := 19) (oi := { dst := some 43, op := Op.call { callee := Callee.builtin Builtin.len, args := #[Operand.tmp 42], argTypes := #[9] }, type := 3, pos := "lines.go:56", after := #[{ on := 18, ground := Ground.data }], guard := none }) (v := ?v5020) rfl (by kernel_rfl) (by kernel_rfl) (by kernel_rfl) [] (by kernel_rfl) (by decide) (by kernel_rfl) (by kernel_rfl) (fun _ _ _ h => h) hS0 (.inl ⟨by first | rfl | simp [Region.wanted, yielded], ?hy5020⟩) ?rest5020
          case hy5020 => (intro W hW; have f1 := hW; go_simp; try with_reducible rfl)
          simp only [Act.put, List.setIfInBounds_toArray, List.set_cons_zero, List.set_cons_succ]
          refine' wpAnyK_take (i := 20) (oi := { dst := some 44, op := Op.call { callee := Callee.builtin Builtin.min, args := #[Operand.tmp 41, Operand.tmp 43], argTypes := #[3, 3] }, type := 3, pos := "lines.go:56", after := #[{ on := 17, ground := Ground.data }, { on := 19, ground := Ground.data }], guard := none }) (v := ?v5021) rfl (by kernel_rfl) (by kernel_rfl) (by kernel_rfl) [] (by kernel_rfl) (by decide) (by kernel_rfl) (by kernel_rfl) (fun _ _ _ h => h) hS0 (.inl ⟨by first | rfl | simp [Region.wanted, yielded], ?hy5021⟩) ?rest5021
          case hy5021 => (intro W hW; have f1 := hW; go_simp; try with_reducible rfl)
          simp only [Act.put, List.setIfInBounds_toArray, List.set_cons_zero, List.set_cons_succ]
          refine' wpAnyK_take (i := 21) (oi := { dst := some 45, op := Op.slice 9 (Operand.tmp 40) none (some (Operand.tmp 44)) none, type := 9, pos := "lines.go:56", after := #[{ on := 16, ground := Ground.data }, { on := 20, ground := Ground.data }], guard := none }) (v := ?v5022) rfl (by kernel_rfl) (by kernel_rfl) (by kernel_rfl) [] (by kernel_rfl) (by decide) (by kernel_rfl) (by kernel_rfl) (fun _ _ _ h => h) hS0 (.inl ⟨by first | rfl | simp [Region.wanted, yielded], ?hy5022⟩) ?rest5022
          case hy5022 => (intro W hW; have f1 := hW; go_simp; try with_reducible rfl)
          simp only [Act.put, List.setIfInBounds_toArray, List.set_cons_zero, List.set_cons_succ]
          refine wpAnyK_ready (rs := [22]) (by kernel_rfl) (by simp) ?_
          refine AllReadyK.cons (o := { dst := some 46, op := Op.call { callee := Callee.builtin Builtin.append, args := #[Operand.tmp 39, Operand.tmp 45], argTypes := #[22, 9] }, type := 22, pos := "lines.go:56", after := #[{ on := 15, ground := Ground.data }, { on := 21, ground := Ground.data }], guard := none }) rfl (fun KK hK => ?_) (AllReadyK.nil)
          refine step_append_str rfl (.tmp 39) (.tmp 45) rfl T ((some ⟨b0, off0, none⟩)) n R xs (ys.take R) (by go_simp) (by go_simp) (HLn.out.at_.below HBe.out) (fun e => (HLn.out.na e).1) (HBY.out.take R) HTK.out (by omega) ?_
          intro v w' hbw hcase
          have hb1 := HBe.out.trans (hbw.mono HBe.out.size)
          have HB1 := Lib.hid hb1
          have HCS := Lib.hid hcase
          obtain ⟨a', n', c', rfl, hln⟩ : ∃ a' n' c', v = .slice a' n' c' ∧ Ln (fun k => (T k ∧ k < W0.heap.size) ∨ W0.heap.size ≤ k) w' a' n' c' (xs ++ ys.take R) := by
            have hs := HBe.out.size
            rcases hcase with ⟨h0, rfl, rfl⟩ | ⟨h0, G, cap, rfl, g1, g2, g3, g4⟩
            · have hnil : ys.take R = [] := List.eq_nil_of_length_eq_zero (HTK.out.trans h0)
              refine ⟨_, _, _, rfl, ⟨by rw [hnil, List.append_nil]; exact ((HLn.out.at_.mono (fun k h1 h2 => .inl ⟨h2, h1⟩)).below HBe.out), fun e => ⟨(HLn.out.na e).1, (HLn.out.na e).1⟩, HLn.out.sp, Nat.le_refl _, Nat.le_trans HLn.out.nc HLn.out.cm⟩⟩
            · exact ⟨_, _, _, rfl, ⟨g4.mono (fun k h1 h2 => .inr (by have h3 : k = G := h2; omega)), (fun e => by cases e), (fun ad e => by cases e; rfl), g1, g2⟩⟩
          have HL' := Lib.hid hln
          have hsp := HSP.out.below hb1
          have HSP1 := Lib.hid hsp
          have hS1 : (fun W : World => W.cell? ⟨p, 2, none⟩ = some (.slice (some ⟨b0, off0, none⟩) n c)) w' := (hsp.cells).2.2.1
          clear hb1 hcase hln hsp hbw
          refine hK.out _ _ (fun _ => hS1) ?_
          clear hK KK
          try simp only [Act.put, List.setIfInBounds_toArray, List.set_cons_zero, List.set_cons_succ]
          refine' wpAnyK_take (i := 23) (oi := { dst := some 47, op := Op.nilCheck (Operand.tmp 24), type := 0, pos := "lines.go:56", after := #[{ on := 0, ground := Ground.data }, { on := 0, ground := Ground.phase }, { on := 1, ground := Ground.phase }, { on := 2, ground := Ground.phase }, { on := 3, ground := Ground.phase }, { on := 4, ground := Ground.phase }, { on := 5, ground := Ground.phase }, { on := 6, ground := Ground.phase }, { on := 7, ground := Ground.phase }, { on := 8, ground := Ground.phase }, { on := 9, ground := Ground.phase }, { on := 10, ground := Ground.phase }, { on := 11, ground := Ground.phase }, { on := 12, ground := Ground.phase }, { on := 13, ground := Ground.phase }, { on := 14, ground := Ground.phase }, { on := 15, ground := Ground.phase }, { on := 16, ground := Ground.phase }, { on := 17, ground := Ground.phase }, { on := 18, ground := Ground.phase }, { on := 19, ground := Ground.phase }, { on := 20, ground := Ground.phase }, { on := 21, ground := Ground.phase }, { on := 22, ground := Ground.phase }], guard := none }) (v := ?v5023) rfl (by kernel_rfl) (by kernel_rfl) (by kernel_rfl) [24] (by kernel_rfl) (by decide) (by kernel_rfl) (by kernel_rfl) (fun _ _ _ h => h) hS1 (.inl ⟨by first | rfl | simp [Region.wanted, yielded], ?hy5023⟩) ?rest5023
          case hy5023 => (intro W hW; have f1 := hW; go_simp; try with_reducible rfl)
          simp only [Act.put, List.setIfInBounds_toArray, List.set_cons_zero, List.set_cons_succ]
          refine' wpAnyK_take (i := 24) (oi := { dst := some 48, op := Op.fieldAddr 60 (Operand.tmp 47) 2, type := 0, pos := "lines.go:56", after := #[{ on := 23, ground := Ground.data }, { on := 0, ground := Ground.phase }, { on := 1, ground := Ground.phase }, { on := 2, ground := Ground.phase }, { on := 3, ground := Ground.phase }, { on := 4, ground := Ground.phase }, { on := 5, ground := Ground.phase }, { on := 6, ground := Ground.phase }, { on := 7, ground := Ground.phase }, { on := 8, ground := Ground.phase }, { on := 9, ground := Ground.phase }, { on := 10, ground := Ground.phase }, { on := 11, ground := Ground.phase }, { on := 12, ground := Ground.phase }, { on := 13, ground := Ground.phase }, { on := 14, ground := Ground.phase }, { on := 15, ground := Ground.phase }, { on := 16, ground := Ground.phase }, { on := 17, ground := Ground.phase }, { on := 18, ground := Ground.phase }, { on := 19, ground := Ground.phase }, { on := 20, ground := Ground.phase }, { on := 21, ground := Ground.phase }, { on := 22, ground := Ground.phase }], guard := none }) (v := ?v5024) rfl (by kernel_rfl) (by kernel_rfl) (by kernel_rfl) [] (by kernel_rfl) (by decide) (by kernel_rfl) (by kernel_rfl) (fun _ _ _ h => h) hS1 (.inl ⟨by first | rfl | simp [Region.wanted, yielded], ?hy5024⟩) ?rest5024
          case hy5024 => (intro W hW; have f1 := hW; go_simp; try with_reducible rfl)
          simp only [Act.put, List.setIfInBounds_toArray, List.set_cons_zero, List.set_cons_succ]
          refine wpAnyK_ready (rs := [25]) (by kernel_rfl) (by simp) ?_
          refine AllReadyK.cons (o := { dst := none, op := Op.store 22 (Operand.tmp 48) (Operand.tmp 46), type := 0, pos := "lines.go:56", after := #[{ on := 24, ground := Ground.data }, { on := 22, ground := Ground.data }, { on := 22, ground := Ground.chain }, { on := 0, ground := Ground.phase }, { on := 1, ground := Ground.phase }, { on := 2, ground := Ground.phase }, { on := 3, ground := Ground.phase }, { on := 4, ground := Ground.phase }, { on := 5, ground := Ground.phase }, { on := 6, ground := Ground.phase }, { on := 7, ground := Ground.phase }, { on := 8, ground := Ground.phase }, { on := 9, ground := Ground.phase }, { on := 10, ground := Ground.phase }, { on := 11, ground := Ground.phase }, { on := 12, ground := Ground.phase }, { on := 13, ground := Ground.phase }, { on := 14, ground := Ground.phase }, { on := 15, ground := Ground.phase }, { on := 16, ground := Ground.phase }, { on := 17, ground := Ground.phase }, { on := 18, ground := Ground.phase }, { on := 19, ground := Ground.phase }, { on := 20, ground := Ground.phase }, { on := 21, ground := Ground.phase }, { on := 22, ground := Ground.phase }], guard := none }) rfl (fun KK hK => ?_) (AllReadyK.nil)
          try simp only [List.getElem_toArray, List.getElem_cons_succ, List.getElem_cons_zero]
          obtain ⟨_, _, s2, _, _, sf, sl⟩ := HSP1.out.cells
          have sf2 := sf 2
          clear sf
          go_simp
          clear s2 sf2
          refine hK.out _ _ (fun h => absurd (show true = false from h) (by decide)) ?_
          clear hK KK
          try simp only [Act.put, List.setIfInBounds_toArray, List.set_cons_zero, List.set_cons_succ]
          refine wpAnyK_done (by kernel_rfl) ?_ _
          go_wp2_with fail
          go_roundg 0
          case measure => have := HG.out; omega
          case rel =>
            have hdis : ∀ k, ((T k ∧ k < W0.heap.size) ∨ W0.heap.size ≤ k) → k ≠ p := fun k hk e => by
              rcases hk with hk | hk
              · exact HTP.out k hk.1 e
              · have := blk_lt HSP.out.blk; omega
            exact ⟨1, rfl, by omega, rfl, .inr ⟨rfl, a', n', c', HSP1.out.set_line a' n' c', (by first | exact HL'.out.at_.mod (S := fun k => k = p) ((Mod.refl (fun k => k = p) w').setCell ⟨p, 2, none⟩ (.inl rfl) (.slice a' n' c')) (fun k hk e => hdis k hk e) | (rw [HTT.out]; exact HL'.out.at_.mod (S := fun k => k = p) ((Mod.refl (fun k => k = p) w').setCell ⟨p, 2, none⟩ (.inl rfl) (.slice a' n' c')) (fun k hk e => hdis k hk e))), HL'.out.na, HL'.out.sp, HL'.out.nc, HL'.out.cm, ((Mod.of_below HB1.out (fun k => k = p)).setCell ⟨p, 2, none⟩ (.inl rfl) _)⟩⟩
        · have d1 : decide (R < Y) = false := by simp; omega
          have d2 : decide ((R : Int) < Y) = false := by simp; omega
          have d3 : ¬ (R < Y) := by omega
          have d4 : ¬ ((R : Int) < Y) := by omega
          have d5 : (Y : Int) < R := by omega
          have d6 : (Y : Int) ≤ Y := by omega
          have d7 : Y ≤ Y := by omega
          have HTK : Hid ((ys.take Y).length = Y) := Lib.hid (by rw [List.length_take]; have := HYL.out; omega)
          have ex : SY.extract 0 Y = strOfNums (ys.take Y) := by rw [HSY.out, str_to]
          have HTT : Hid (ys.take R = ys.take Y) := Lib.hid (by first | rfl | (rw [List.take_of_length_le (by have := HYL.out; omega), List.take_of_length_le (by have := HYL.out; omega)]))
          go_upto_region 4 with fail
          refine wp_region_K 25 (fun W => W.cell? ⟨p, 2, none⟩ = some (.slice (some ⟨b0, off0, none⟩) n c)) (by kernel_rfl) ?_
          obtain ⟨wd, hwd⟩ : ∃ W, W = (wq).drew := ⟨_, rfl⟩
          have HBd : Hid (Below (wq).heap.size (wq) wd) := Lib.hid (by rw [hwd]; exact Below.drewN' (wq) 1)
          have hS0 : (fun W : World => W.cell? ⟨p, 2, none⟩ = some (.slice (some ⟨b0, off0, none⟩) n c)) wd := by rw [hwd]; exact c2
          rw [← hwd]
          have HBe : Hid (Below W0.heap.size W0 wd) := Lib.hid (HBQ.out.trans (HBd.out.mono HBQ.out.size))
          clear hwd
          refine' wpAnyK_take (i := 0) (oi := { dst := some 24, op := Op.move (Operand.tmp 0), type := 24, pos := "lines.go:56", after := #[], guard := none }) (v := ?v6001) rfl (by kernel_rfl) (by kernel_rfl) (by kernel_rfl) [] (by kernel_rfl) (by decide) (by kernel_rfl) (by kernel_rfl) (fun _ _ _ h => h) hS0 (.inl ⟨by first | rfl | simp [Region.wanted, yielded], ?hy6001⟩) ?rest6001
          case hy6001 => (intro W hW; have f1 := hW; go_simp; try with_reducible rfl)
          simp only [Act.put, List.setIfInBounds_toArray, List.set_cons_zero, List.set_cons_succ]
          refine' wpAnyK_take (i := 1) (oi := { dst := some 25, op := Op.move (Operand.tmp 0), type := 24, pos := "lines.go:56", after := #[], guard := none }) (v := ?v6002) rfl (by kernel_rfl) (by kernel_rfl) (by kernel_rfl) [] (by kernel_rfl) (by decide) (by kernel_rfl) (by kernel_rfl) (fun _ _ _ h => h) hS0 (.inl ⟨by first | rfl | simp [Region.wanted, yielded], ?hy6002⟩) ?rest6002
          case hy6002 => (intro W hW; have f1 := hW; go_simp; try with_reducible rfl)
          simp only [Act.put, List.setIfInBounds_toArray, List.set_cons_zero, List.set_cons_succ]
          refine' wpAnyK_take (i := 2) (oi := { dst := some 26, op := Op.nilCheck (Operand.tmp 25), type := 0, pos := "lines.go:56", after := #[{ on := 1, ground := Ground.data }], guard := none }) (v := ?v6003) rfl (by kernel_rfl) (by kernel_rfl) (by kernel_rfl) [] (by kernel_rfl) (by decide) (by kernel_rfl) (by kernel_rfl) (fun _ _ _ h => h) hS0 (.inl ⟨by first | rfl | simp [Region.wanted, yielded], ?hy6003⟩) ?rest6003
          case hy6003 => (intro W hW; have f1 := hW; go_simp; try with_reducible rfl)
          simp only [Act.put, List.setIfInBounds_toArray, List.set_cons_zero, List.set_cons_succ]
          refine' wpAnyK_take (i := 3) (oi := { dst := some 27, op := Op.fieldAddr 60 (Operand.tmp 26) 2, type := 0, pos := "lines.go:56", after := #[{ on := 2, ground := Ground.data }], guard := none }) (v := ?v6004) rfl (by kernel_rfl) (by kernel_rfl) (by kernel_rfl) [] (by kernel_rfl) (by decide) (by kernel_rfl) (by kernel_rfl) (fun _ _ _ h => h) hS0 (.inl ⟨by first | rfl | simp [Region.wanted, yielded], ?hy6004⟩) ?rest6004
          case hy6004 => (intro W hW; have f1 := hW; go_simp; try with_reducible rfl)
          simp only [Act.put, List.setIfInBounds_toArray, List.set_cons_zero, List.set_cons_succ]
          refine' wpAnyK_take (i := 4) (oi := { dst := some 28, op := Op.load 22 (Operand.tmp 27), type := 22, pos := "lines.go:56", after := #[{ on := 3, ground := Ground.data }], guard := none }) (v := ?v6005) rfl (by kernel_rfl) (by kernel_rfl) (by kernel_rfl) [] (by kernel_rfl) (by decide) (by kernel_rfl) (by kernel_rfl) (fun _ _ _ h => h) hS0 (.inl ⟨by first | rfl | simp [Region.wanted, yielded], ?hy6005⟩) ?rest6005
          case hy6005 => (intro W hW; have f1 := hW; go_simp; try with_reducible rfl)
          simp only [Act.put, List.setIfInBounds_toArray, List.set_cons_zero, List.set_cons_succ]
          refine' wpAnyK_take (i := 5) (oi := { dst := some 29, op := Op.move (Operand.tmp 0), type := 24, pos := "lines.go:56", after := #[], guard := none }) (v := ?v6006) rfl (by kernel_rfl) (by kernel_rfl) (by kernel_rfl) [] (by kernel_rfl) (by decide) (by kernel_rfl) (by kernel_rfl) (fun _ _ _ h => h) hS0 (.inl ⟨by first | rfl | simp [Region.wanted, yielded], ?hy6006⟩) ?rest6006
          case hy6006 => (intro W hW; have f1 := hW; go_simp; try with_reducible rfl)
          simp only [Act.put, List.setIfInBounds_toArray, List.set_cons_zero, List.set_cons_succ]
          refine' wpAnyK_take (i := 6) (oi := { dst := some 30, op := Op.nilCheck (Operand.tmp 29), type := 0, pos := "lines.go:56", after := #[{ on := 5, ground := Ground.data }], guard := none }) (v := ?v6007) rfl (by kernel_rfl) (by kernel_rfl) (by kernel_rfl) [] (by kernel_rfl) (by decide) (by kernel_rfl) (by kernel_rfl) (fun _ _ _ h => h) hS0 (.inl ⟨by first | rfl | simp [Region.wanted, yielded], ?hy6007⟩) ?rest6007
          case hy6007 => (intro W hW; have f1 := hW; go_simp; try with_reducible rfl)
          simp only [Act.put, List.setIfInBounds_toArray, List.set_cons_zero, List.set_cons_succ]
          refine' wpAnyK_take (i := 7) (oi := { dst := some 31, op := Op.fieldAddr 60 (Operand.tmp 30) 2, type := 0, pos := "lines.go:56", after := #[{ on := 6, ground := Ground.data }], guard := none }) (v := ?v6008) rfl (by kernel_rfl) (by kernel_rfl) (by kernel_rfl) [] (by kernel_rfl) (by decide) (by kernel_rfl) (by kernel_rfl) (fun _ _ _ h => h) hS0 (.inl ⟨by first | rfl | simp [Region.wanted, yielded], ?hy6008⟩) ?rest6008
          case hy6008 => (intro W hW; have f1 := hW; go_simp; try with_reducible rfl)
          simp only [Act.put, List.setIfInBounds_toArray, List.set_cons_zero, List.set_cons_succ]
          refine' wpAnyK_take (i := 8) (oi := { dst := some 32, op := Op.load 22 (Operand.tmp 31), type := 22, pos := "lines.go:56", after := #[{ on := 7, ground := Ground.data }], guard := none }) (v := ?v6009) rfl (by kernel_rfl) (by kernel_rfl) (by kernel_rfl) [] (by kernel_rfl) (by decide) (by kernel_rfl) (by kernel_rfl) (fun _ _ _ h => h) hS0 (.inl ⟨by first | rfl | simp [Region.wanted, yielded], ?hy6009⟩) ?rest6009
          case hy6009 => (intro W hW; have f1 := hW; go_simp; try with_reducible rfl)
          simp only [Act.put, List.setIfInBounds_toArray, List.set_cons_zero, List.set_cons_succ]
          refine' wpAnyK_take (i := 9) (oi := { dst := some 33, op := Op.call { callee := Callee.builtin Builtin.len, args := #[Operand.tmp 32], argTypes := #[22] }, type := 3, pos := "lines.go:56", after := #[{ on := 8, ground := Ground.data }], guard := none }) (v := ?v6010) rfl (by kernel_rfl) (by kernel_rfl) (by kernel_rfl) [] (by kernel_rfl) (by decide) (by kernel_rfl) (by kernel_rfl) (fun _ _ _ h => h) hS0 (.inl ⟨by first | rfl | simp [Region.wanted, yielded], ?hy6010⟩) ?rest6010
          case hy6010 => (intro W hW; have f1 := hW; go_simp; try with_reducible rfl)
          simp only [Act.put, List.setIfInBounds_toArray, List.set_cons_zero, List.set_cons_succ]
          refine' wpAnyK_take (i := 10) (oi := { dst := some 34, op := Op.move (Operand.tmp 0), type := 24, pos := "lines.go:56", after := #[], guard := none }) (v := ?v6011) rfl (by kernel_rfl) (by kernel_rfl) (by kernel_rfl) [] (by kernel_rfl) (by decide) (by kernel_rfl) (by kernel_rfl) (fun _ _ _ h => h) hS0 (.inl ⟨by first | rfl | simp [Region.wanted, yielded], ?hy6011⟩) ?rest6011
          case hy6011 => (intro W hW; have f1 := hW; go_simp; try with_reducible rfl)
          simp only [Act.put, List.setIfInBounds_toArray, List.set_cons_zero, List.set_cons_succ]
          refine' wpAnyK_take (i := 11) (oi := { dst := some 35, op := Op.nilCheck (Operand.tmp 34), type := 0, pos := "lines.go:56", after := #[{ on := 10, ground := Ground.data }], guard := none }) (v := ?v6012) rfl (by kernel_rfl) (by kernel_rfl) (by kernel_rfl) [] (by kernel_rfl) (by decide) (by kernel_rfl) (by kernel_rfl) (fun _ _ _ h => h) hS0 (.inl ⟨by first | rfl | simp [Region.wanted, yielded], ?hy6012⟩) ?rest6012
          case hy6012 => (intro W hW; have f1 := hW; go_simp; try with_reducible rfl)
          simp only [Act.put, List.setIfInBounds_toArray, List.set_cons_zero, List.set_cons_succ]
          refine' wpAnyK_take (i := 12) (oi := { dst := some 36, op := Op.fieldAddr 60 (Operand.tmp 35) 2, type := 0, pos := "lines.go:56", after := #[{ on := 11, ground := Ground.data }], guard := none }) (v := ?v6013) rfl (by kernel_rfl) (by kernel_rfl) (by kernel_rfl) [] (by kernel_rfl) (by decide) (by kernel_rfl) (by kernel_rfl) (fun _ _ _ h => h) hS0 (.inl ⟨by first | rfl | simp [Region.wanted, yielded], ?hy6013⟩) ?rest6013
          case hy6013 => (intro W hW; have f1 := hW; go_simp; try with_reducible rfl)
          simp only [Act.put, List.setIfInBounds_toArray, List.set_cons_zero, List.set_cons_succ]
          refine' wpAnyK_take (i := 13) (oi := { dst := some 37, op := Op.load 22 (Operand.tmp 36), type := 22, pos := "lines.go:56", after := #[{ on := 12, ground := Ground.data }], guard := none }) (v := ?v6014) rfl (by kernel_rfl) (by kernel_rfl) (by kernel_rfl) [] (by kernel_rfl) (by decide) (by kernel_rfl) (by kernel_rfl) (fun _ _ _ h => h) hS0 (.inl ⟨by first | rfl | simp [Region.wanted, yielded], ?hy6014⟩) ?rest6014
          case hy6014 => (intro W hW; have f1 := hW; go_simp; try with_reducible rfl)
          simp only [Act.put, List.setIfInBounds_toArray, List.set_cons_zero, List.set_cons_succ]
          refine' wpAnyK_take (i := 14) (oi := { dst := some 38, op := Op.call { callee := Callee.builtin Builtin.len, args := #[Operand.tmp 37], argTypes := #[22] }, type := 3, pos := "lines.go:56", after := #[{ on := 13, ground := Ground.data }], guard := none }) (v := ?v6015) rfl (by kernel_rfl) (by kernel_rfl) (by kernel_rfl) [] (by kernel_rfl) (by decide) (by kernel_rfl) (by kernel_rfl) (fun _ _ _ h => h) hS0 (.inl ⟨by first | rfl | simp [Region.wanted, yielded], ?hy6015⟩) ?rest6015
          case hy6015 => (intro W hW; have f1 := hW; go_simp; try with_reducible rfl)
          simp only [Act.put, List.setIfInBounds_toArray, List.set_cons_zero, List.set_cons_succ]
          refine' wpAnyK_take (i := 15) (oi := { dst := some 39, op := Op.slice 22 (Operand.tmp 28) none (some (Operand.tmp 33)) (some (Operand.tmp 38)), type := 22, pos := "lines.go:56", after := #[{ on := 4, ground := Ground.data }, { on := 9, ground := Ground.data }, { on := 14, ground := Ground.data }], guard := none }) (v := ?v6016) rfl (by kernel_rfl) (by kernel_rfl) (by kernel_rfl) [] (by kernel_rfl) (by decide) (by kernel_rfl) (by kernel_rfl) (fun _ _ _ h => h) hS0 (.inl ⟨by first | rfl | simp [Region.wanted, yielded], ?hy6016⟩) ?rest6016
          case hy6016 => (intro W hW; have f1 := hW; go_simp; try with_reducible rfl)
          simp only [Act.put, List.setIfInBounds_toArray, List.set_cons_zero, List.set_cons_succ]
          refine' wpAnyK_take (i := 16) (oi := { dst := some 40, op := Op.move (Operand.tmp 5), type := 9, pos := "lines.go:56", after := #[], guard := none }) (v := ?v6017) rfl (by kernel_rfl) (by kernel_rfl) (by kernel_rfl) [] (by kernel_rfl) (by decide) (by kernel_rfl) (by kernel_rfl) (fun _ _ _ h => h) hS0 (.inl ⟨by first | rfl | simp [Region.wanted, yielded], ?hy6017⟩) ?rest6017
          case hy6017 => (intro W hW; have f1 := hW; go_simp; try with_reducible rfl)
          simp only [Act.put, List.setIfInBounds_toArray, List.set_cons_zero, List.set_cons_succ]
          refine' wpAnyK_take (i := 17) (oi := { dst := some 41, op := Op.move (Operand.tmp 6), type := 3, pos := "lines.go:56", after := #[], guard := none }) (v := ?v6018) rfl (by kernel_rfl) (by kernel_rfl) (by kernel_rfl) [] (by kernel_rfl) (by decide) (by kernel_rfl) (by kernel_rfl) (fun _ _ _ h => h) hS0 (.inl ⟨by first | rfl | simp [Region.wanted, yielded], ?hy6018⟩) ?rest6018
          case hy6018 => (intro W hW; have f1 := hW; go_simp; try with_reducible rfl)
          simp only [Act.put, List.setIfInBounds_toArray, List.set_cons_zero, List.set_cons_succ]
          refine' wpAnyK_take (i := 18) (oi := { dst := some 42, op := Op.move (Operand.tmp 5), type := 9, pos := "lines.go:56", after := #[], guard := none }) (v := ?v6019) rfl (by kernel_rfl) (by kernel_rfl) (by kernel_rfl) [] (by kernel_rfl) (by decide) (by kernel_rfl) (by kernel_rfl) (fun _ _ _ h => h) hS0 (.inl ⟨by first | rfl | simp [Region.wanted, yielded], ?hy6019⟩) ?rest6019
          case hy6019 => (intro W hW; have f1 := hW; go_simp; try with_reducible rfl)
          simp only [Act.put, List.setIfInBounds_toArray, List.set_cons_zero, List.set_cons_succ]
          refine' wpAnyK_take (i := 19) (oi := { dst := some 43, op := Op.call { callee := Callee.builtin Builtin.len, args := #[Operand.tmp 42], argTypes := #[9] }, type := 3, pos := "lines.go:56", after := #[{ on := 18, ground := Ground.data }], guard := none }) (v := ?v6020) rfl (by kernel_rfl) (by kernel_rfl) (by kernel_rfl) [] (by kernel_rfl) (by decide) (by kernel_rfl) (by kernel_rfl) (fun _ _ _ h => h) hS0 (.inl ⟨by first | rfl | simp [Region.wanted, yielded], ?hy6020⟩) ?rest6020
          case hy6020 => (intro W hW; have f1 := hW; go_simp; try with_reducible rfl)
          simp only [Act.put, List.setIfInBounds_toArray, List.set_cons_zero, List.set_cons_succ]
          refine' wpAnyK_take (i := 20) (oi := { dst := some 44, op := Op.call { callee := Callee.builtin Builtin.min, args := #[Operand.tmp 41, Operand.tmp 43], argTypes := #[3, 3] }, type := 3, pos := "lines.go:56", after := #[{ on := 17, ground := Ground.data }, { on := 19, ground := Ground.data }], guard := none }) (v := ?v6021) rfl (by kernel_rfl) (by kernel_rfl) (by kernel_rfl) [] (by kernel_rfl) (by decide) (by kernel_rfl) (by kernel_rfl) (fun _ _ _ h => h) hS0 (.inl ⟨by first | rfl | simp [Region.wanted, yielded], ?hy6021⟩) ?rest6021
          case hy6021 => (intro W hW; have f1 := hW; go_simp; try with_reducible rfl)
          simp only [Act.put, List.setIfInBounds_toArray, List.set_cons_zero, List.set_cons_succ]
          refine' wpAnyK_take (i := 21) (oi := { dst := some 45, op := Op.slice 9 (Operand.tmp 40) none (some (Operand.tmp 44)) none, type := 9, pos := "lines.go:56", after := #[{ on := 16, ground := Ground.data }, { on := 20, ground := Ground.data }], guard := none }) (v := ?v6022) rfl (by kernel_rfl) (by kernel_rfl) (by kernel_rfl) [] (by kernel_rfl) (by decide) (by kernel_rfl) (by kernel_rfl) (fun _ _ _ h => h) hS0 (.inl ⟨by first | rfl | simp [Region.wanted, yielded], ?hy6022⟩) ?rest6022
          case hy6022 => (intro W hW; have f1 := hW; go_simp; try with_reducible rfl)
          simp only [Act.put, List.setIfInBounds_toArray, List.set_cons_zero, List.set_cons_succ]
          refine wpAnyK_ready (rs := [22]) (by kernel_rfl) (by simp) ?_
          refine AllReadyK.cons (o := { dst := some 46, op := Op.call { callee := Callee.builtin Builtin.append, args := #[Operand.tmp 39, Operand.tmp 45], argTypes := #[22, 9] }, type := 22, pos := "lines.go:56", after := #[{ on := 15, ground := Ground.data }, { on := 21, ground := Ground.data }], guard := none }) rfl (fun KK hK => ?_) (AllReadyK.nil)
          refine step_append_str rfl (.tmp 39) (.tmp 45) rfl T ((some ⟨b0, off0, none⟩)) n Y xs (ys.take Y) (by go_simp) (by go_simp) (HLn.out.at_.below HBe.out) (fun e => (HLn.out.na e).1) (HBY.out.take Y) HTK.out (by omega) ?_
          intro v w' hbw hcase
          have hb1 := HBe.out.trans (hbw.mono HBe.out.size)
          have HB1 := Lib.hid hb1
          have HCS := Lib.hid hcase
          obtain ⟨a', n', c', rfl, hln⟩ : ∃ a' n' c', v = .slice a' n' c' ∧ Ln (fun k => (T k ∧ k < W0.heap.size) ∨ W0.heap.size ≤ k) w' a' n' c' (xs ++ ys.take Y) := by
            have hs := HBe.out.size
            rcases hcase with ⟨h0, rfl, rfl⟩ | ⟨h0, G, cap, rfl, g1, g2, g3, g4⟩
            · have hnil : ys.take Y = [] := List.eq_nil_of_length_eq_zero (HTK.out.trans h0)
              refine ⟨_, _, _, rfl, ⟨by rw [hnil, List.append_nil]; exact ((HLn.out.at_.mono (fun k h1 h2 => .inl ⟨h2, h1⟩)).below HBe.out), fun e => ⟨(HLn.out.na e).1, (HLn.out.na e).1⟩, HLn.out.sp, Nat.le_refl _, Nat.le_trans HLn.out.nc HLn.out.cm⟩⟩
            · exact ⟨_, _, _, rfl, ⟨g4.mono (fun k h1 h2 => .inr (by have h3 : k = G := h2; omega)), (fun e => by cases e), (fun ad e => by cases e; rfl), g1, g2⟩⟩
          have HL' := Lib.hid hln
          have hsp := HSP.out.below hb1
          have HSP1 := Lib.hid hsp
          have hS1 : (fun W : World => W.cell? ⟨p, 2, none⟩ = some (.slice (some ⟨b0, off0, none⟩) n c)) w' := (hsp.cells).2.2.1
          clear hb1 hcase hln hsp hbw
          refine hK.out _ _ (fun _ => hS1) ?_
          clear hK KK
          try simp only [Act.put, List.setIfInBounds_toArray, List.set_cons_zero, List.set_cons_succ]
          refine' wpAnyK_take (i := 23) (oi := { dst := some 47, op := Op.nilCheck (Operand.tmp 24), type := 0, pos := "lines.go:56", after := #[{ on := 0, ground := Ground.data }, { on := 0, ground := Ground.phase }, { on := 1, ground := Ground.phase }, { on := 2, ground := Ground.phase }, { on := 3, ground := Ground.phase }, { on := 4, ground := Ground.phase }, { on := 5, ground := Ground.phase }, { on := 6, ground := Ground.phase }, { on := 7, ground := Ground.phase }, { on := 8, ground := Ground.phase }, { on := 9, ground := Ground.phase }, { on := 10, ground := Ground.phase }, { on := 11, ground := Ground.phase }, { on := 12, ground := Ground.phase }, { on := 13, ground := Ground.phase }, { on := 14, ground := Ground.phase }, { on := 15, ground := Ground.phase }, { on := 16, ground := Ground.phase }, { on := 17, ground := Ground.phase }, { on := 18, ground := Ground.phase }, { on := 19, ground := Ground.phase }, { on := 20, ground := Ground.phase }, { on := 21, ground := Ground.phase }, { on := 22, ground := Ground.phase }], guard := none }) (v := ?v6023) rfl (by kernel_rfl) (by kernel_rfl) (by kernel_rfl) [24] (by kernel_rfl) (by decide) (by kernel_rfl) (by kernel_rfl) (fun _ _ _ h => h) hS1 (.inl ⟨by first | rfl | simp [Region.wanted, yielded], ?hy6023⟩) ?rest6023
          case hy6023 => (intro W hW; have f1 := hW; go_simp; try with_reducible rfl)
          simp only [Act.put, List.setIfInBounds_toArray, List.set_cons_zero, List.set_cons_succ]
          refine' wpAnyK_take (i := 24) (oi := { dst := some 48, op := Op.fieldAddr 60 (Operand.tmp 47) 2, type := 0, pos := "lines.go:56", after := #[{ on := 23, ground := Ground.data }, { on := 0, ground := Ground.phase }, { on := 1, ground := Ground.phase }, { on := 2, ground := Ground.phase }, { on := 3, ground := Ground.phase }, { on := 4, ground := Ground.phase }, { on := 5, ground := Ground.phase }, { on := 6, ground := Ground.phase }, { on := 7, ground := Ground.phase }, { on := 8, ground := Ground.phase }, { on := 9, ground := Ground.phase }, { on := 10, ground := Ground.phase }, { on := 11, ground := Ground.phase }, { on := 12, ground := Ground.phase }, { on := 13, ground := Ground.phase }, { on := 14, ground := Ground.phase }, { on := 15, ground := Ground.phase }, { on := 16, ground := Ground.phase }, { on := 17, ground := Ground.phase }, { on := 18, ground := Ground.phase }, { on := 19, ground := Ground.phase }, { on := 20, ground := Ground.phase }, { on := 21, ground := Ground.phase }, { on := 22, ground := Ground.phase }], guard := none }) (v := ?v6024) rfl (by kernel_rfl) (by kernel_rfl) (by kernel_rfl) [] (by kernel_rfl) (by decide) (by kernel_rfl) (by kernel_rfl) (fun _ _ _ h => h) hS1 (.inl ⟨by first | rfl | simp [Region.wanted, yielded], ?hy6024⟩) ?rest6024
          case hy6024 => (intro W hW; have f1 := hW; go_simp; try with_reducible rfl)
          simp only [Act.put, List.setIfInBounds_toArray, List.set_cons_zero, List.set_cons_succ]
          refine wpAnyK_ready (rs := [25]) (by kernel_rfl) (by simp) ?_
          refine AllReadyK.cons (o := { dst := none, op := Op.store 22 (Operand.tmp 48) (Operand.tmp 46), type := 0, pos := "lines.go:56", after := #[{ on := 24, ground := Ground.data }, { on := 22, ground := Ground.data }, { on := 22, ground := Ground.chain }, { on := 0, ground := Ground.phase }, { on := 1, ground := Ground.phase }, { on := 2, ground := Ground.phase }, { on := 3, ground := Ground.phase }, { on := 4, ground := Ground.phase }, { on := 5, ground := Ground.phase }, { on := 6, ground := Ground.phase }, { on := 7, ground := Ground.phase }, { on := 8, ground := Ground.phase }, { on := 9, ground := Ground.phase }, { on := 10, ground := Ground.phase }, { on := 11, ground := Ground.phase }, { on := 12, ground := Ground.phase }, { on := 13, ground := Ground.phase }, { on := 14, ground := Ground.phase }, { on := 15, ground := Ground.phase }, { on := 16, ground := Ground.phase }, { on := 17, ground := Ground.phase }, { on := 18, ground := Ground.phase }, { on := 19, ground := Ground.phase }, { on := 20, ground := Ground.phase }, { on := 21, ground := Ground.phase }, { on := 22, ground := Ground.phase }], guard := none }) rfl (fun KK hK => ?_) (AllReadyK.nil)
          try simp only [List.getElem_toArray, List.getElem_cons_succ, List.getElem_cons_zero]
          obtain ⟨_, _, s2, _, _, sf, sl⟩ := HSP1.out.cells
          have sf2 := sf 2
          clear sf
          go_simp
          clear s2 sf2
          refine hK.out _ _ (fun h => absurd (show true = false from h) (by decide)) ?_
          clear hK KK
          try simp only [Act.put, List.setIfInBounds_toArray, List.set_cons_zero, List.set_cons_succ]
          refine wpAnyK_done (by kernel_rfl) ?_ _
          go_wp2_with fail
          go_roundg 0
          case measure => have := HG.out; omega
          case rel =>
            have hdis : ∀ k, ((T k ∧ k < W0.heap.size) ∨ W0.heap.size ≤ k) → k ≠ p := fun k hk e => by
              rcases hk with hk | hk
              · exact HTP.out k hk.1 e
              · have := blk_lt HSP.out.blk; omega
            exact ⟨1, rfl, by omega, rfl, .inr ⟨rfl, a', n', c', HSP1.out.set_line a' n' c', (by first | exact HL'.out.at_.mod (S := fun k => k = p) ((Mod.refl (fun k => k = p) w').setCell ⟨p, 2, none⟩ (.inl rfl) (.slice a' n' c')) (fun k hk e => hdis k hk e) | (rw [HTT.out]; exact HL'.out.at_.mod (S := fun k => k = p) ((Mod.refl (fun k => k = p) w').setCell ⟨p, 2, none⟩ (.inl rfl) (.slice a' n' c')) (fun k hk e => hdis k hk e))), HL'.out.na, HL'.out.sp, HL'.out.nc, HL'.out.cm, ((Mod.of_below HB1.out (fun k => k = p)).setCell ⟨p, 2, none⟩ (.inl rfl) _)⟩⟩
    · clear c1 c2 lp hb
      go_wp2
      go_end0
      exact ⟨⟨_, rfl⟩, a', n', c', g1, ⟨g2, g3, g4, g5, g6⟩, g7⟩
end Go.Proofs.Ytfkfooclapogjaa
