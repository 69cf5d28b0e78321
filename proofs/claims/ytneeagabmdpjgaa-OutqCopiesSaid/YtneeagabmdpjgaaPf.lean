/-
  A queue of frames: what waits of each frame; All; Copy.
-/
import Derived.Test.YtneeagabmdpjgaaOh
import Derived.BigQuiet
import Derived.Deep.RegionHeld3
namespace Go.Proofs.Ytneeagabmdpjgaa
open Go.RowKit
set_option linter.unusedVariables false
set_option linter.unusedSimpArgs false

/-- How many bytes of each frame wait. -/
def wl : List Int → Int → List Int
  | [], _ => []
  | x :: l, p => (x - p) :: l
theorem wl_len (fs : List Int) (p : Int) : (wl fs p).length = fs.length := by cases fs <;> simp [wl]
set_option maxHeartbeats 800000 in
theorem CloneI_any (T : Nat → Prop) (ao : Option Addr) (n cap : Nat) (zs : List Int) (w : World) (h : Nar T w ao n zs) (hc : ao = none → n = 0 ∧ cap = 0) (hn : n ≤ 4194304) :
    Calls Try.prog 47 #[.slice ao n cap] w fun e w' => ∃ a c, e = .returned (.slice a n c) ∧ w'.ownsRow w.heap.size 3 1 (.slice a n c) n (zs.map (.int .i64)) ∧ Below w.heap.size w w' := by
  obtain ⟨i0, hi, hz0, hz1, hz2⟩ := info_parts Try.info3
  have hnil := fun (W : World) => Lib.run_eql_slice_nil (P := Try.prog) W 50 3 ao n cap 0 0 Try.underlying50
  cases ao with
  | none =>
    obtain ⟨rfl, rfl⟩ := hc rfl
    have hz : zs = [] := List.eq_nil_of_length_eq_zero h.1
    subst hz
    clear h
    go_enter Try.func47, Try.ntmps47
    go_wp2
    go_ret
    exact ⟨none, 0, rfl, World.ownsRow_nil _ _ _ _, Below.refl _ _⟩
  | some ad =>
    have HR : Hid ((w.alloc (.cells #[] 3)).ownsRow w.heap.size 3 1 (.slice (some ⟨w.heap.size, 0, none⟩) 0 0) 0 []) := Lib.hid (World.ownsRow_lit w #[] 0 (Nat.le_refl _) (by simp) rfl)
    have HA := Lib.hid (h.below ((Below.refl _ w).alloc (Nat.le_refl _) (.cells #[] 3)))
    have hl := h.1
    clear h
    go_enter Try.func47, Try.ntmps47
    go_wp2_with (at_builtin; refine wpList_append_f _ rfl (.tmp 5) (.tmp 6) 50 rfl w.heap.size 3 i0 (.int .i64 0) 1 8 Try.underlying50 hi hz0 hz1 hz2 rfl (by decide) _ _ _ rfl HR.out (some ad) n cap (zs.map (.int .i64)) rfl (by simp; exact hl) (fun e => by cases e) HA.out.news (one_i64 zs) ?c3 ?c4 (by simp) ?_)
    case c3 => unfold maxLen; omega
    case c4 => omega
    intro v' w1 hown hg hf _
    have hb : Below w.heap.size w w1 := ((Below.refl _ w).alloc (Nat.le_refl _) (.cells #[] 3)).grown hg (by simp) (fun k e => by cases e; exact Nat.le_refl _)
    have hown : w1.ownsRow w.heap.size 3 1 v' n (zs.map (.int .i64)) := by simpa using hown
    obtain ⟨a1, c1, rfl⟩ := row_slice hown
    have HO := Lib.hid hown
    have HB := Lib.hid hb
    clear hown hg hf hb
    go_wp2
    go_ret
    exact ⟨a1, c1, rfl, HO.out, HB.out⟩
section
variable {w wr : World} {K : Nat → Prop} {p : Nat} {m part : Int} {fs bs : List Int}
set_option maxHeartbeats 1600000 in
theorem OS.waiting (h : OS w K p m fs part bs wr) :
    Calls Try.prog 45 #[.pointer (some ⟨p, 0, none⟩)] wr fun e w' => ∃ a c, e = .returned (.slice a fs.length c) ∧ Nar (fun k => wr.heap.size ≤ k) w' a fs.length (wl fs part) ∧ Below wr.heap.size wr w' := by
  obtain ⟨sv, g, q, vs, h1, h2, h3, h4, h5, _⟩ := h.at_
  have HN := Lib.hid (none_o p q wr h1.c3)
  obtain ⟨ao, hao, hNar, hL⟩ := oleft_any _ p g q part m sv vs wr h1 h2 (by omega)
  have hn : vs.length - g = fs.length := by rw [← h4, List.length_drop]
  have hpb := h.inv.part_big
  have hp0 := h.inv.p0
  have hbig := h.inv.big
  have hhd := h.inv.head
  obtain ⟨n, hn'⟩ : ∃ n, n = fs.length := ⟨_, rfl⟩
  rw [hn, ← hn'] at hL hNar
  rw [h4] at hNar
  rw [← hn']
  have hnl : n ≤ 3000000 := by omega
  have HL := Lib.hid hL
  have HC : Hid (∀ q, Calls Try.prog 47 #[.slice ao n n] (wr.drewN q) fun e w' => ∃ a c, e = .returned (.slice a n c) ∧ w'.ownsRow wr.heap.size 3 1 (.slice a n c) n (fs.map (.int .i64)) ∧ Below wr.heap.size wr w') := Lib.hid (fun q => (CloneI_any _ ao n n fs (wr.drewN q) (hNar.drewN q) (fun e => by have := hao e; omega) (by omega)).mono (fun e w' ⟨a, c, h1, h2, h3⟩ => ⟨a, c, h1, h2, (Below.drewN' wr q).trans h3⟩))
  have HH := Lib.hid h1
  have HBG := Lib.hid (And.intro hbig (And.intro hp0 (And.intro hpb hhd)))
  have HNN := Lib.hid hn'
  clear h h1 h5 hL h4 hn hn' hNar h2 h3 hbig hp0 hpb hao hhd
  go_enter Try.func45, Try.ntmps45
  go_wp2_with (first | (go_at_call 28; refine HN.out.mono ?_; rintro e w' ⟨rfl, rfl⟩) | (go_at_call 40; refine HL.out.mono ?_; rintro e w' ⟨rfl, q, rfl⟩) | (go_at_call 47; fail))
  refine (HC.out _).mono ?_
  rintro e w1 ⟨a, c, rfl, hrow, hb⟩
  have HR := Lib.hid hrow
  have HB := Lib.hid hb
  have ha1 := HH.out.below hb
  have c2 := ha1.c2
  have lp := ha1.lt
  clear hrow hb ha1
  by_cases hz : n = 0
  · subst hz
    have hfs : fs = [] := List.eq_nil_of_length_eq_zero HNN.out.symm
    go_wp2
    go_ret
    exact ⟨a, c, rfl, by rw [hfs]; exact ⟨rfl, fun h => by omega⟩, HB.out⟩
  · have e1 : decide ((0 : Int) < n) = true := by simp; omega
    have e2 : decide (0 < n) = true := by simp; omega
    have hln := HNN.out
    obtain ⟨x, l, hfs⟩ : ∃ x l, fs = x :: l := by
      cases fs with
      | nil => simp at hln; omega
      | cons x l => exact ⟨x, l, rfl⟩
    have hx1 := HBG.out.1 x (by rw [hfs]; simp)
    have hp := HBG.out.2
    obtain ⟨b, cap', cur, hv, hbb, hgg, hnc, hcm, hcs, htk⟩ := row_some HR.out (by omega)
    injection hv with v1 v2 v3
    subst v1
    have hat : ∀ j, j < n → w1.cell? ⟨b, j, none⟩ = some (.int .i64 (fs.getD j 0)) := fun j hj => by
      rw [HR.out.cellAt j (by simp; omega)]
      simp [List.getD, show j < fs.length by omega]
    have hat0 := hat 0 (by omega)
    have hlb := blk_lt hgg
    have hf0 := frozen_blk hgg 0
    rw [hfs] at hat0
    simp only [List.getD_cons_zero] at hat0
    have hat0i : w1.cell? ⟨b, 0, none⟩ = some (.int .i64 x) := hat0
    have HAT := Lib.hid hat
    have HFS := Lib.hid hfs
    obtain ⟨Y, hY⟩ : ∃ Y : Int, Y = x - part := ⟨_, rfl⟩
    have hYw : IntKind.i64.wrap (x - part) = Y := by
      have := hp.1
      have := hp.2.1
      have := hp.2.2 x l hfs
      rw [IntKind.wrap_i64]
      omega
    have HYY := Lib.hid hY
    clear hat hfs hln htk hcs hY hat0 hx1 hp
    go_wp2_with fail
    go_region
    all_goals
      go_wp2
      go_ret
      have hf := HFS.out
      have hb1 := HB.out.setCell (p := ⟨b, 0, none⟩) (show wr.heap.size ≤ b from hbb) (.int .i64 Y)
      refine ⟨some ⟨b, 0, none⟩, cap', rfl, ⟨by rw [wl_len]; exact HNN.out.symm, fun _ => ⟨b, 0, rfl, by simpa using hlb, hbb, fun j hj => ?_⟩⟩, ⟨hb1.os, hb1.tape, hb1.output, hb1.size, hb1.block⟩⟩
      show (w1.setCell ⟨b, 0, none⟩ (.int .i64 Y)).cell? _ = _
      rw [Nat.zero_add, hf, wl]
      by_cases hj0 : j = 0
      · subst hj0
        rw [World.cell?_setCell_same' _ _ _ (by rw [hat0i]; rfl), HYY.out]
        rfl
      · rw [World.cell?_setCell_other _ _ _ _ (by intro e; injection e with e1 e2; exact hj0 (by omega)), HAT.out j hj, hf]
        obtain ⟨j, rfl⟩ : ∃ i, j = i + 1 := ⟨j - 1, by omega⟩
        rfl
set_option maxHeartbeats 1600000 in
/-- All: where its row's box lies. -/
theorem OS.all (h : OS w K p m fs part bs wr) :
    Calls Try.prog 22 #[.pointer (some ⟨p, 0, none⟩)] wr fun e w' => ∃ B a c, e = .returned (.func (.func 46) #[] #[.pointer (some ⟨B, 0, none⟩)]) ∧ w'.heap[B]? = some (.cells #[.slice a fs.length c] 50 (0, 0)) ∧ wr.heap.size ≤ B ∧ Nar (fun k => wr.heap.size ≤ k) w' a fs.length (wl fs part) ∧ Below wr.heap.size wr w' := by
  have HW := Lib.hid h.waiting
  obtain ⟨n, hn⟩ : ∃ n, n = fs.length := ⟨_, rfl⟩
  rw [← hn] at HW
  rw [← hn]
  clear h hn
  go_enter Try.func22, Try.ntmps22
  go_wp2_with (go_at_call 45; fail)
  refine HW.out.mono ?_
  rintro e w1 ⟨a, c, rfl, hA, hb⟩
  have HA := Lib.hid hA
  have HB := Lib.hid hb
  clear hA hb HW
  go_wp2
  go_ret
  have hb2 := (Below.refl _ w1).alloc (Nat.le_refl _) (.cells #[.slice a n c] 50)
  exact ⟨w1.heap.size, a, c, rfl, alloc_blk_new _ _, HB.out.size, HA.out.below hb2, HB.out.trans (hb2.mono HB.out.size)⟩
theorem QS.copy {w wr : World} {K : Nat → Prop} {p : Nat} {m : Int} {bs : List Int} (h : QS w K p m bs wr) :
    Calls Try.prog 48 #[.pointer (some ⟨p, 0, none⟩)] wr fun e w' => ∃ q, e = .returned (.pointer (some ⟨q, 0, none⟩)) ∧ QS w (fun k => w.heap.size ≤ k ∧ k < wr.heap.size) q m bs w' ∧ Below wr.heap.size wr w' := by
  obtain ⟨sv, g, vs, hq, hK⟩ := h.qu
  refine (Copy_any _ p g m sv vs bs wr hq).mono ?_
  rintro e w' ⟨q, v, rfl, hq', hb⟩
  have hs := h.below.size
  exact ⟨q, rfl, ⟨h.below.trans (hb.mono hs), ⟨v, 0, bs, { hq' with at_ := ⟨hq'.at_.blk, Joins.ownsRow_le hq'.at_.row hs, hq'.at_.ne, Nat.le_trans hs hq'.at_.lo⟩ }, fun k hk hf => by have := (hq'.at_.fplt hf).1; omega⟩, fun k hk => Nat.lt_of_lt_of_le hk.2 hb.size⟩, hb⟩
set_option maxHeartbeats 3200000 in
set_option maxRecDepth 100000 in
theorem OS.copy (h : OS w K p m fs part bs wr) :
    Calls Try.prog 23 #[.pointer (some ⟨p, 0, none⟩)] wr fun e w' => ∃ p', e = .returned (.pointer (some ⟨p', 0, none⟩)) ∧ OS w (fun k => w.heap.size ≤ k ∧ k < wr.heap.size) p' m fs part bs w' ∧ Below wr.heap.size wr w' := by
  obtain ⟨sv, g, q, vs, h1, h2, h3, h4, h5, _⟩ := h.at_
  have HN := Lib.hid (none_o p q wr h1.c3)
  have hws := h5.below.size
  obtain ⟨ao, hao, hNar, hL⟩ := oleft_gen _ p g q part m sv vs wr h1 h2 (by omega)
  have hn : vs.length - g = fs.length := by rw [← h4, List.length_drop]
  obtain ⟨n, hn'⟩ : ∃ n, n = fs.length := ⟨_, rfl⟩
  rw [hn, ← hn'] at hL hNar
  rw [h4] at hNar
  have hnl : n ≤ 3000000 := by omega
  have HL := Lib.hid hL
  have HC : Hid (∀ W, Below wr.heap.size wr W → Calls Try.prog 47 #[.slice ao n n] W fun e w' => ∃ a c, e = .returned (.slice a n c) ∧ w'.ownsRow wr.heap.size 3 1 (.slice a n c) n (fs.map (.int .i64)) ∧ Below wr.heap.size wr w') := Lib.hid (fun W hW => (CloneI_any _ ao n n fs W (hNar.below hW) (fun e => by have := hao e; omega) (by omega)).mono (fun e w' ⟨a, c, h1, h2, h3⟩ => ⟨a, c, h1, Joins.ownsRow_le h2 hW.size, hW.trans (h3.mono hW.size)⟩))
  have HQC : Hid (∀ W, Below wr.heap.size wr W → Calls Try.prog 48 #[.pointer (some ⟨q, 0, none⟩)] W fun e w' => ∃ q', e = .returned (.pointer (some ⟨q', 0, none⟩)) ∧ QS w (fun k => w.heap.size ≤ k ∧ k < W.heap.size) q' m bs w' ∧ Below W.heap.size W w') := Lib.hid (fun W hW => (h5.grow hW).copy)
  have H1 := Lib.hid h1
  have HNN := Lib.hid hn'
  have HINV := Lib.hid h.inv
  have hlen : fs.length ≤ 3000000 := by omega
  have HLE := Lib.hid hlen
  have c2 := h1.c2
  have c3 := h1.c3
  have c4 := h1.c4
  have HWS := Lib.hid hws
  clear h h1 h5 hL h4 hn hn' hNar h2 h3 hao hlen hws
  go_enter Try.func23, Try.ntmps23
  go_wp2_with (first | (go_at_call 28; refine HN.out.mono ?_; rintro e w' ⟨rfl, rfl⟩))
  obtain ⟨wd, hwd⟩ : ∃ W, W = (wr).drew := ⟨_, rfl⟩
  have HBd : Hid (Below (wr).heap.size (wr) wd) := Lib.hid (by rw [hwd]; exact Below.drewN' (wr) 1)
  have hS0 : (fun W : World => W.cell? ⟨p, 2, none⟩ = some (.int .i64 part) ∧ W.cell? ⟨p, 3, none⟩ = some (.pointer (some ⟨q, 0, none⟩)) ∧ W.cell? ⟨p, 4, none⟩ = some (.int .i64 m)) wd := by rw [hwd]; exact ⟨c2, c3, c4⟩
  refine wp_region_held_drew (S := fun W => W.cell? ⟨p, 2, none⟩ = some (.int .i64 part) ∧ W.cell? ⟨p, 3, none⟩ = some (.pointer (some ⟨q, 0, none⟩)) ∧ W.cell? ⟨p, 4, none⟩ = some (.int .i64 m)) (by kernel_rfl) (by rw [← hwd]; exact hS0) (fun hHeld => ?_)
  rw [← hwd] at hHeld ⊢
  clear hwd hS0
  refine' wpAnyH_take (i := 0) (oi := { dst := some 5, op := Op.move (Operand.tmp 0), type := 25, pos := "outq.go:171", after := #[], guard := none }) (v := ?v1001) rfl (by kernel_rfl) (by kernel_rfl) (by kernel_rfl) (fun _ _ _ h => h) (.inl ⟨by first | rfl | simp [Region.wanted, yielded], ?hy1001⟩) (by assumption) ?rest1001
  case hy1001 => (intro W hW; obtain ⟨f1, f2, f3⟩ := hW; go_simp; try with_reducible rfl)
  simp only [Act.put, List.setIfInBounds_toArray, List.set_cons_zero, List.set_cons_succ]
  refine' wpAnyH_take (i := 1) (oi := { dst := some 6, op := Op.nilCheck (Operand.tmp 5), type := 0, pos := "outq.go:171", after := #[{ on := 0, ground := Ground.data }], guard := none }) (v := ?v1002) rfl (by kernel_rfl) (by kernel_rfl) (by kernel_rfl) (fun _ _ _ h => h) (.inl ⟨by first | rfl | simp [Region.wanted, yielded], ?hy1002⟩) (by assumption) ?rest1002
  case hy1002 => (intro W hW; obtain ⟨f1, f2, f3⟩ := hW; go_simp; try with_reducible rfl)
  simp only [Act.put, List.setIfInBounds_toArray, List.set_cons_zero, List.set_cons_succ]
  refine' wpAnyH_take (i := 2) (oi := { dst := some 7, op := Op.fieldAddr 63 (Operand.tmp 6) 0, type := 0, pos := "outq.go:171", after := #[{ on := 1, ground := Ground.data }], guard := none }) (v := ?v1003) rfl (by kernel_rfl) (by kernel_rfl) (by kernel_rfl) (fun _ _ _ h => h) (.inl ⟨by first | rfl | simp [Region.wanted, yielded], ?hy1003⟩) (by assumption) ?rest1003
  case hy1003 => (intro W hW; obtain ⟨f1, f2, f3⟩ := hW; go_simp; try with_reducible rfl)
  simp only [Act.put, List.setIfInBounds_toArray, List.set_cons_zero, List.set_cons_succ]
  refine' wpAnyH_take (i := 5) (oi := { dst := some 10, op := Op.move (Operand.tmp 0), type := 25, pos := "outq.go:171", after := #[], guard := none }) (v := ?v1004) rfl (by kernel_rfl) (by kernel_rfl) (by kernel_rfl) (fun _ _ _ h => h) (.inl ⟨by first | rfl | simp [Region.wanted, yielded], ?hy1004⟩) (by assumption) ?rest1004
  case hy1004 => (intro W hW; obtain ⟨f1, f2, f3⟩ := hW; go_simp; try with_reducible rfl)
  simp only [Act.put, List.setIfInBounds_toArray, List.set_cons_zero, List.set_cons_succ]
  refine' wpAnyH_take (i := 6) (oi := { dst := some 11, op := Op.nilCheck (Operand.tmp 10), type := 0, pos := "outq.go:171", after := #[{ on := 5, ground := Ground.data }], guard := none }) (v := ?v1005) rfl (by kernel_rfl) (by kernel_rfl) (by kernel_rfl) (fun _ _ _ h => h) (.inl ⟨by first | rfl | simp [Region.wanted, yielded], ?hy1005⟩) (by assumption) ?rest1005
  case hy1005 => (intro W hW; obtain ⟨f1, f2, f3⟩ := hW; go_simp; try with_reducible rfl)
  simp only [Act.put, List.setIfInBounds_toArray, List.set_cons_zero, List.set_cons_succ]
  refine' wpAnyH_take (i := 7) (oi := { dst := some 12, op := Op.fieldAddr 63 (Operand.tmp 11) 0, type := 0, pos := "outq.go:171", after := #[{ on := 6, ground := Ground.data }], guard := none }) (v := ?v1006) rfl (by kernel_rfl) (by kernel_rfl) (by kernel_rfl) (fun _ _ _ h => h) (.inl ⟨by first | rfl | simp [Region.wanted, yielded], ?hy1006⟩) (by assumption) ?rest1006
  case hy1006 => (intro W hW; obtain ⟨f1, f2, f3⟩ := hW; go_simp; try with_reducible rfl)
  simp only [Act.put, List.setIfInBounds_toArray, List.set_cons_zero, List.set_cons_succ]
  refine' wpAnyH_take (i := 8) (oi := { dst := some 13, op := Op.fieldAddr 60 (Operand.tmp 12) 2, type := 0, pos := "outq.go:171", after := #[{ on := 7, ground := Ground.data }], guard := none }) (v := ?v1007) rfl (by kernel_rfl) (by kernel_rfl) (by kernel_rfl) (fun _ _ _ h => h) (.inl ⟨by first | rfl | simp [Region.wanted, yielded], ?hy1007⟩) (by assumption) ?rest1007
  case hy1007 => (intro W hW; obtain ⟨f1, f2, f3⟩ := hW; go_simp; try with_reducible rfl)
  simp only [Act.put, List.setIfInBounds_toArray, List.set_cons_zero, List.set_cons_succ]
  refine' wpAnyH_take (i := 9) (oi := { dst := some 14, op := Op.load 3 (Operand.tmp 13), type := 3, pos := "outq.go:171", after := #[{ on := 8, ground := Ground.data }], guard := none }) (v := ?v1008) rfl (by kernel_rfl) (by kernel_rfl) (by kernel_rfl) (fun _ _ _ h => h) (.inl ⟨by first | rfl | simp [Region.wanted, yielded], ?hy1008⟩) (by assumption) ?rest1008
  case hy1008 => (intro W hW; obtain ⟨f1, f2, f3⟩ := hW; go_simp; try with_reducible rfl)
  simp only [Act.put, List.setIfInBounds_toArray, List.set_cons_zero, List.set_cons_succ]
  refine' wpAnyH_take (i := 11) (oi := { dst := some 16, op := Op.move (Operand.tmp 0), type := 25, pos := "outq.go:171", after := #[], guard := none }) (v := ?v1009) rfl (by kernel_rfl) (by kernel_rfl) (by kernel_rfl) (fun _ _ _ h => h) (.inl ⟨by first | rfl | simp [Region.wanted, yielded], ?hy1009⟩) (by assumption) ?rest1009
  case hy1009 => (intro W hW; obtain ⟨f1, f2, f3⟩ := hW; go_simp; try with_reducible rfl)
  simp only [Act.put, List.setIfInBounds_toArray, List.set_cons_zero, List.set_cons_succ]
  refine' wpAnyH_take (i := 12) (oi := { dst := some 17, op := Op.nilCheck (Operand.tmp 16), type := 0, pos := "outq.go:171", after := #[{ on := 11, ground := Ground.data }], guard := none }) (v := ?v1010) rfl (by kernel_rfl) (by kernel_rfl) (by kernel_rfl) (fun _ _ _ h => h) (.inl ⟨by first | rfl | simp [Region.wanted, yielded], ?hy1010⟩) (by assumption) ?rest1010
  case hy1010 => (intro W hW; obtain ⟨f1, f2, f3⟩ := hW; go_simp; try with_reducible rfl)
  simp only [Act.put, List.setIfInBounds_toArray, List.set_cons_zero, List.set_cons_succ]
  refine' wpAnyH_take (i := 13) (oi := { dst := some 18, op := Op.fieldAddr 63 (Operand.tmp 17) 1, type := 0, pos := "outq.go:171", after := #[{ on := 12, ground := Ground.data }], guard := none }) (v := ?v1011) rfl (by kernel_rfl) (by kernel_rfl) (by kernel_rfl) (fun _ _ _ h => h) (.inl ⟨by first | rfl | simp [Region.wanted, yielded], ?hy1011⟩) (by assumption) ?rest1011
  case hy1011 => (intro W hW; obtain ⟨f1, f2, f3⟩ := hW; go_simp; try with_reducible rfl)
  simp only [Act.put, List.setIfInBounds_toArray, List.set_cons_zero, List.set_cons_succ]
  refine' wpAnyH_take (i := 14) (oi := { dst := some 19, op := Op.load 61 (Operand.tmp 18), type := 61, pos := "outq.go:171", after := #[{ on := 13, ground := Ground.data }], guard := none }) (v := ?v1012) rfl (by kernel_rfl) (by kernel_rfl) (by kernel_rfl) (fun _ _ _ h => h) (.inl ⟨by first | rfl | simp [Region.wanted, yielded], ?hy1012⟩) (by assumption) ?rest1012
  case hy1012 => (intro W hW; obtain ⟨f1, f2, f3⟩ := hW; go_simp; try with_reducible rfl)
  simp only [Act.put, List.setIfInBounds_toArray, List.set_cons_zero, List.set_cons_succ]
  refine' wpAnyH_take (i := 16) (oi := { dst := some 21, op := Op.move (Operand.tmp 0), type := 25, pos := "outq.go:171", after := #[], guard := none }) (v := ?v1013) rfl (by kernel_rfl) (by kernel_rfl) (by kernel_rfl) (fun _ _ _ h => h) (.inl ⟨by first | rfl | simp [Region.wanted, yielded], ?hy1013⟩) (by assumption) ?rest1013
  case hy1013 => (intro W hW; obtain ⟨f1, f2, f3⟩ := hW; go_simp; try with_reducible rfl)
  simp only [Act.put, List.setIfInBounds_toArray, List.set_cons_zero, List.set_cons_succ]
  refine' wpAnyH_take (i := 17) (oi := { dst := some 22, op := Op.nilCheck (Operand.tmp 21), type := 0, pos := "outq.go:171", after := #[{ on := 16, ground := Ground.data }], guard := none }) (v := ?v1014) rfl (by kernel_rfl) (by kernel_rfl) (by kernel_rfl) (fun _ _ _ h => h) (.inl ⟨by first | rfl | simp [Region.wanted, yielded], ?hy1014⟩) (by assumption) ?rest1014
  case hy1014 => (intro W hW; obtain ⟨f1, f2, f3⟩ := hW; go_simp; try with_reducible rfl)
  simp only [Act.put, List.setIfInBounds_toArray, List.set_cons_zero, List.set_cons_succ]
  refine' wpAnyH_take (i := 18) (oi := { dst := some 23, op := Op.fieldAddr 63 (Operand.tmp 22) 2, type := 0, pos := "outq.go:171", after := #[{ on := 17, ground := Ground.data }], guard := none }) (v := ?v1015) rfl (by kernel_rfl) (by kernel_rfl) (by kernel_rfl) (fun _ _ _ h => h) (.inl ⟨by first | rfl | simp [Region.wanted, yielded], ?hy1015⟩) (by assumption) ?rest1015
  case hy1015 => (intro W hW; obtain ⟨f1, f2, f3⟩ := hW; go_simp; try with_reducible rfl)
  simp only [Act.put, List.setIfInBounds_toArray, List.set_cons_zero, List.set_cons_succ]
  refine' wpAnyH_take (i := 19) (oi := { dst := some 24, op := Op.load 3 (Operand.tmp 23), type := 3, pos := "outq.go:171", after := #[{ on := 18, ground := Ground.data }], guard := none }) (v := ?v1016) rfl (by kernel_rfl) (by kernel_rfl) (by kernel_rfl) (fun _ _ _ h => h) (.inl ⟨by first | rfl | simp [Region.wanted, yielded], ?hy1016⟩) (by assumption) ?rest1016
  case hy1016 => (intro W hW; obtain ⟨f1, f2, f3⟩ := hW; go_simp; try with_reducible rfl)
  simp only [Act.put, List.setIfInBounds_toArray, List.set_cons_zero, List.set_cons_succ]
  refine wpAnyH_ready (rs := [3]) (by kernel_rfl) (by simp) ?_
  refine AllReadyH.cons (o := { dst := some 8, op := Op.call { callee := Callee.value (Operand.func 40), args := #[Operand.tmp 7], argTypes := #[60] }, type := 50, pos := "outq.go:171", after := #[{ on := 2, ground := Ground.data }], guard := none }) rfl (fun KK hK => ?_) (AllReadyH.nil)
  try simp only [List.getElem_toArray, List.getElem_cons_succ, List.getElem_cons_zero]
  go_simp
  refine (HL.out wd (HBd.out.block p H1.out.lt)).mono ?_
  rintro e w' ⟨rfl, q5, rfl⟩
  have hb5 := HBd.out.trans ((Below.drewN' wd q5).mono HBd.out.size)
  have HB5 := Lib.hid hb5
  have ha := H1.out.below hb5
  have hSn : (fun W : World => W.cell? ⟨p, 2, none⟩ = some (.int .i64 part) ∧ W.cell? ⟨p, 3, none⟩ = some (.pointer (some ⟨q, 0, none⟩)) ∧ W.cell? ⟨p, 4, none⟩ = some (.int .i64 m)) (wd.drewN q5) := ⟨ha.c2, ha.c3, ha.c4⟩
  clear ha
  clear hb5
  refine hK.out _ _ (by assumption) (fun hHeld => ?_)
  clear hK KK
  try simp only [Act.put, List.setIfInBounds_toArray, List.set_cons_zero, List.set_cons_succ]
  refine wpAnyH_ready (rs := [4]) (by kernel_rfl) (by simp) ?_
  refine AllReadyH.cons (o := { dst := some 9, op := Op.call { callee := Callee.value (Operand.func 47), args := #[Operand.tmp 8], argTypes := #[50] }, type := 50, pos := "outq.go:171", after := #[{ on := 3, ground := Ground.data }, { on := 3, ground := Ground.chain }], guard := none }) rfl (fun KK hK => ?_) (AllReadyH.nil)
  try simp only [List.getElem_toArray, List.getElem_cons_succ, List.getElem_cons_zero]
  go_simp
  refine (HC.out _ HB5.out).mono ?_
  rintro e w6 ⟨a6, c6, rfl, hrow6, hb6⟩
  have HB6 := Lib.hid hb6
  have HR6 := Lib.hid hrow6
  have ha := H1.out.below hb6
  have hSn : (fun W : World => W.cell? ⟨p, 2, none⟩ = some (.int .i64 part) ∧ W.cell? ⟨p, 3, none⟩ = some (.pointer (some ⟨q, 0, none⟩)) ∧ W.cell? ⟨p, 4, none⟩ = some (.int .i64 m)) w6 := ⟨ha.c2, ha.c3, ha.c4⟩
  clear ha
  clear hb6 hrow6
  refine hK.out _ _ (by assumption) (fun hHeld => ?_)
  clear hK KK
  try simp only [Act.put, List.setIfInBounds_toArray, List.set_cons_zero, List.set_cons_succ]
  refine' wpAnyH_take (i := 10) (oi := { dst := some 15, op := Op.build 60 #[(0, Operand.tmp 9), (2, Operand.tmp 14)], type := 60, pos := "outq.go:171", after := #[{ on := 4, ground := Ground.data }, { on := 9, ground := Ground.data }], guard := none }) (v := ?v1017) rfl (by kernel_rfl) (by kernel_rfl) (by kernel_rfl) (fun _ _ _ h => h) (.inl ⟨by first | rfl | simp [Region.wanted, yielded], ?hy1017⟩) (by assumption) ?rest1017
  case hy1017 => (intro W hW; obtain ⟨f1, f2, f3⟩ := hW; go_simp; try with_reducible rfl)
  simp only [Act.put, List.setIfInBounds_toArray, List.set_cons_zero, List.set_cons_succ]
  refine wpAnyH_ready (rs := [15]) (by kernel_rfl) (by simp) ?_
  refine AllReadyH.cons (o := { dst := some 20, op := Op.call { callee := Callee.value (Operand.func 48), args := #[Operand.tmp 19], argTypes := #[61] }, type := 61, pos := "outq.go:171", after := #[{ on := 14, ground := Ground.data }, { on := 4, ground := Ground.chain }], guard := none }) rfl (fun KK hK => ?_) (AllReadyH.nil)
  try simp only [List.getElem_toArray, List.getElem_cons_succ, List.getElem_cons_zero]
  go_simp
  refine (HQC.out _ HB6.out).mono ?_
  rintro e w7 ⟨q7, rfl, hq7, hb7⟩
  have HQ7 := Lib.hid hq7
  have HB67 := Lib.hid hb7
  have hb7' := HB6.out.trans (hb7.mono HB6.out.size)
  have HB7 := Lib.hid hb7'
  have ha := H1.out.below hb7'
  have hSn : (fun W : World => W.cell? ⟨p, 2, none⟩ = some (.int .i64 part) ∧ W.cell? ⟨p, 3, none⟩ = some (.pointer (some ⟨q, 0, none⟩)) ∧ W.cell? ⟨p, 4, none⟩ = some (.int .i64 m)) w7 := ⟨ha.c2, ha.c3, ha.c4⟩
  clear ha
  clear hb7 hb7' hq7
  refine hK.out _ _ (by assumption) (fun hHeld => ?_)
  clear hK KK
  try simp only [Act.put, List.setIfInBounds_toArray, List.set_cons_zero, List.set_cons_succ]
  refine' wpAnyH_take (i := 20) (oi := { dst := some 25, op := Op.build 63 #[(0, Operand.tmp 15), (1, Operand.tmp 20), (2, Operand.tmp 24)], type := 63, pos := "outq.go:171", after := #[{ on := 10, ground := Ground.data }, { on := 15, ground := Ground.data }, { on := 19, ground := Ground.data }], guard := none }) (v := ?v1018) rfl (by kernel_rfl) (by kernel_rfl) (by kernel_rfl) (fun _ _ _ h => h) (.inl ⟨by first | rfl | simp [Region.wanted, yielded], ?hy1018⟩) (by assumption) ?rest1018
  case hy1018 => (intro W hW; obtain ⟨f1, f2, f3⟩ := hW; go_simp; try with_reducible rfl)
  simp only [Act.put, List.setIfInBounds_toArray, List.set_cons_zero, List.set_cons_succ]
  refine wpAnyH_ready (rs := [21]) (by kernel_rfl) (by simp) ?_
  refine AllReadyH.cons (o := { dst := some 26, op := Op.box 63 (Operand.tmp 25), type := 25, pos := "outq.go:171", after := #[{ on := 20, ground := Ground.data }], guard := none }) rfl (fun KK hK => ?_) (AllReadyH.nil)
  try simp only [List.getElem_toArray, List.getElem_cons_succ, List.getElem_cons_zero]
  go_simp
  obtain ⟨w8, hw8⟩ : ∃ W, W = w7.alloc (.cells #[.slice a6 n c6, .int .i64 0, .int .i64 part, .pointer (some ⟨q7, 0, none⟩), .int .i64 m] 63) := ⟨_, rfl⟩
  have hb8 : Below w7.heap.size w7 w8 := by rw [hw8]; exact (Below.refl _ w7).alloc (Nat.le_refl _) _
  have hk8 : w8.heap[w7.heap.size]? = some (.cells #[.slice a6 n c6, .int .i64 0, .int .i64 part, .pointer (some ⟨q7, 0, none⟩), .int .i64 m] 63 (0, 0)) := by rw [hw8]; exact alloc_blk_new _ _
  rw [← hw8]
  have HB78 := Lib.hid hb8
  have HK8 := Lib.hid hk8
  have hb8' := HB7.out.trans (hb8.mono HB7.out.size)
  have ha := H1.out.below hb8'
  have hSn : (fun W : World => W.cell? ⟨p, 2, none⟩ = some (.int .i64 part) ∧ W.cell? ⟨p, 3, none⟩ = some (.pointer (some ⟨q, 0, none⟩)) ∧ W.cell? ⟨p, 4, none⟩ = some (.int .i64 m)) w8 := ⟨ha.c2, ha.c3, ha.c4⟩
  clear ha
  clear hw8 hb8 hk8 hb8'
  refine hK.out _ _ (by assumption) (fun hHeld => ?_)
  clear hK KK
  try simp only [Act.put, List.setIfInBounds_toArray, List.set_cons_zero, List.set_cons_succ]
  refine' wpAnyH_take (i := 22) (oi := { dst := some 2, op := Op.assign (Operand.tmp 26), type := 25, pos := "outq.go:171", after := #[{ on := 21, ground := Ground.data }, { on := 15, ground := Ground.chain }, { on := 0, ground := Ground.phase }, { on := 1, ground := Ground.phase }, { on := 2, ground := Ground.phase }, { on := 3, ground := Ground.phase }, { on := 4, ground := Ground.phase }, { on := 5, ground := Ground.phase }, { on := 6, ground := Ground.phase }, { on := 7, ground := Ground.phase }, { on := 8, ground := Ground.phase }, { on := 9, ground := Ground.phase }, { on := 10, ground := Ground.phase }, { on := 11, ground := Ground.phase }, { on := 12, ground := Ground.phase }, { on := 13, ground := Ground.phase }, { on := 14, ground := Ground.phase }, { on := 15, ground := Ground.phase }, { on := 16, ground := Ground.phase }, { on := 17, ground := Ground.phase }, { on := 18, ground := Ground.phase }, { on := 19, ground := Ground.phase }, { on := 20, ground := Ground.phase }, { on := 21, ground := Ground.phase }], guard := none }) (v := ?v1019) rfl (by kernel_rfl) (by kernel_rfl) (by kernel_rfl) (fun _ _ _ h => h) (.inl ⟨by first | rfl | simp [Region.wanted, yielded], ?hy1019⟩) (by assumption) ?rest1019
  case hy1019 => (intro W hW; obtain ⟨f1, f2, f3⟩ := hW; go_simp; try with_reducible rfl)
  simp only [Act.put, List.setIfInBounds_toArray, List.set_cons_zero, List.set_cons_succ]
  refine wpAnyH_done (by kernel_rfl) ?_ _
  go_wp2
  go_ret
  have hb7 := HB7.out.size
  have hb67 := HB67.out.size
  have hb6 := HB6.out.size
  have hws := HWS.out
  have hq8 := HQ7.out.grow HB78.out
  have hrow := ((Mod.of_below (HB67.out.trans (HB78.out.mono hb67)) (fun _ => False)).row HR6.out (fun _ _ h => h))
  have hnl' := HNN.out
  have hown := fun k (hk : (Value.slice a6 n c6).ownBlock = some k) => HR6.out.lt k hk
  refine ⟨w7.heap.size, rfl, ⟨⟨.slice a6 n c6, 0, q7, fs, ⟨HK8.out, Joins.ownsRow_le (by rw [← hnl']; exact hrow) hws, (fun k hk e => by have := (hown k hk).2; omega), by omega⟩, Nat.zero_le _, HLE.out, rfl, hq8.mono (fun k hk => ?_), (fun k hk hf => ?_)⟩, (fun k hk => by have := HB78.out.size; omega), HINV.out⟩, HB7.out.trans (HB78.out.mono hb7)⟩
  · rcases hk with hk | hk
    · exact .inl ⟨hk.1, by omega⟩
    · rcases hk with rfl | hk
      · exact .inr ⟨Nat.le_refl _, blk_lt HK8.out⟩
      · have := hown k hk
        exact .inl ⟨by omega, this.2⟩
  · rcases hf with rfl | hf
    · omega
    · have := hown k hf
      omega
end
end Go.Proofs.Ytneeagabmdpjgaa
