/-
  RingNone, walked.
-/
import Derived.Test.YthiajgkifoimcaaRb
namespace Go.Proofs.Ythiajgkifoimcaa
open Go.RowKit Go.Shelf
set_option linter.unusedVariables false
set_option linter.unusedSimpArgs false
attribute [local go_sem] Oper.semAt_some

theorem run_eql_func61 (f : Fn) (x y : Array Value) (w : World) : (binOp .eql 61 (.func f x y) .nilFunc).run Try.prog w = .ok (.bool false) w := by
  have h : ∀ d : Nat, (Op.equalIn (d + 1) 61 (.func f x y) .nilFunc).run Try.prog w = .ok false w := fun d => by
    simp [Op.equalIn, run_underlying Try.underlying61]
  simp only [binOp]
  simp [Op.equal, Op.maxDepth, h 9999]
attribute [local go_sem] run_eql_func61
theorem yes_num (a : Int) (w : World) : Calls Try.prog 9 #[.int .i64 a] w fun e w' => e = .returned (.int .i64 a) ∧ w = w' := by
  go_enter Try.func9, Try.ntmps9
  go_wp2
  go_ret
  exact ⟨rfl, rfl⟩

/-- No ring, in old memory. -/
def NilB (w : World) (a : Option Addr) (lim : Nat) : Prop := a = none ∨ ∃ b, a = some ⟨b, 0, none⟩ ∧ b < lim ∧ w.cell? ⟨b, 3, none⟩ = some (.int .i64 0)
theorem NilB.of {w : World} {a : Option Addr} (h : Nil w a) : NilB w a w.heap.size := h
theorem NilB.to {w : World} {a : Option Addr} {lim : Nat} (h : NilB w a lim) (hl : lim ≤ w.heap.size) : Nil w a := by
  rcases h with h | ⟨b, e, hb, hc⟩
  · exact .inl h
  · exact .inr ⟨b, e, by omega, hc⟩
theorem NilB.mod {w w' : World} {S : Nat → Prop} {a : Option Addr} {lim : Nat} (h : NilB w a lim) (hl : lim ≤ w.heap.size) (hm : Mod S w w') (hs : ∀ k, k < lim → ¬ S k) : NilB w' a lim := by
  rcases h with h | ⟨b, e, hb, hc⟩
  · exact .inl h
  · exact .inr ⟨b, e, hb, (hm.cell (p := ⟨b, 3, none⟩) (by show b < _; omega) (hs b hb)).trans hc⟩
theorem NilB.below {w w' : World} {a : Option Addr} {lim : Nat} (h : NilB w a lim) (hl : lim ≤ w.heap.size) (hb : Below w.heap.size w w') : NilB w' a lim := h.mod hl (Mod.of_below hb (fun _ => False)) (fun _ _ h => h)

set_option maxHeartbeats 3200000 in
set_option maxRecDepth 100000 in
theorem none_law (v at' : Int) (zero : Bool) (w : World) (h0 : 0 ≤ at') : Calls Try.prog 6 #[.int .i64 v, .int .u64 at', .bool zero] w fun e w' => e = .returned (.bool true) ∧ Below w.heap.size w w' := by
  have HNum := Lib.hid yes_num
  have HWk := Lib.hid works_true
  have HK := Lib.hid (alloc_blk_new w (.cells #[.bool false] 4))
  refine (callsIn_wide (n := 7)).1 ?_
  refine callsIn_of_wp_marks Try.func6 rfl trivial ?_ rfl
  simp only [Try.ntmps6, List.size_toArray, List.length_cons, List.length_nil, Nat.reduceAdd, Nat.reduceSub, Array.replicate_succ, Array.replicate_zero, List.push_toArray, List.append_toArray, List.nil_append, List.cons_append]
  refine wpIn_wide.2 ?_
  go_upto_if 22 with fail
  go_cut [7] from 22 to 24 (fun v7 wx => ∃ a, v7 = .pointer a ∧ Nil wx a ∧ wx.heap[w.heap.size]? = some (.cells #[.bool false] 4 (0, 0)) ∧ Below w.heap.size w wx)
  case first =>
    cases zero with
    | true =>
      go_wp2
      go_meet
      refine ⟨some ⟨w.heap.size + 1, 0, none⟩, rfl, .inr ⟨_, rfl, by simp, ?_⟩, alloc_blk HK.out _, ((Below.refl _ w).alloc (Nat.le_refl _) _).alloc (by simp) _⟩
      have := alloc_blk_new (w.alloc (.cells #[.bool false] 4)) (.cells #[.int .u64 0, .int .u64 0, .slice none 0 0, .int .i64 0] 58)
      rw [World.size_alloc] at this
      exact cell_blk this 3 _ rfl
    | false =>
      go_wp2
      go_meet
      exact ⟨none, rfl, .inl rfl, HK.out, (Below.refl _ w).alloc (Nat.le_refl _) _⟩
  case rest =>
    obtain ⟨a, rfl, hN, hK, hB⟩ := hcut
    have H1 := Lib.hid (Put_nil a v wc hN)
    have H2 := Lib.hid (Drop_nil a wc hN)
    have H3 := Lib.hid (Get_nil a at' wc hN)
    have H4 := Lib.hid (Set_nil a at' v wc hN)
    have H5 := Lib.hid (From_nil a at' wc hN h0)
    have HN := Lib.hid hN
    have HK2 := Lib.hid hK
    have HB := Lib.hid hB
    clear hN hK hB HK
    go_wp2_with (first | (go_at_call 10; refine H1.out.mono ?_; rintro e w' ⟨rfl, rfl⟩) | (go_at_call 12; refine H2.out.mono ?_; rintro e w' ⟨rfl, rfl⟩) | (go_at_call 15; refine H3.out.mono ?_; rintro e w' ⟨rfl, rfl⟩) | (go_at_call 22; refine H4.out.mono ?_; rintro e w' ⟨rfl, rfl⟩) | (go_at_call 23; fail))
    refine H5.out.mono ?_
    rintro e w4 ⟨C4, rfl, hc4, hl4, hb4⟩
    obtain ⟨B4, hB4⟩ : ∃ B, B = wc.heap.size := ⟨_, rfl⟩
    rw [← hB4] at hc4 hl4 ⊢
    have HN4 := Lib.hid (HN.out.below hb4)
    have HK4 := Lib.hid ((hb4.block _ (blk_lt HK2.out)).trans HK2.out)
    have HB_4 := Lib.hid (HB.out.trans (hb4.mono HB.out.size))
    have HC4 := Lib.hid hc4
    clear hc4 hb4 hB4 H1 H2 H3 H4 H5 HN HK2 HB
    go_wp2_with fail
    refine (wpIn_wide (n := 7)).1 ?_
    refine' wpIn_rangeFunc_ownF (α := Int × Int) (encs := fun x => #[.int .u64 x.1, .int .i64 x.2]) (F := Fence.wide) rfl (by omega) (gf := 37) (lb := #[.pointer (some ⟨B4, 0, none⟩), .pointer (some ⟨C4, 0, none⟩)]) rfl trivial (enters_of Try.func37 (by kernel_rfl) rfl)
      (none_stops (w := w4) (Kp := Below w4.heap.size) fun l W hW => From1_nil 6 (by omega) l B4 C4 W (Nat.lt_of_lt_of_le hl4 hW.size) ((hW.cell (p := ⟨B4, 0, none⟩) hl4).trans HC4.out)) belowK_t (belowK_b (Nat.le_refl _)) (Below.refl _ _) (fun _ => rfl)
      (fun _ W' => Below w4.heap.size w4 W') (fun _ _ _ => False) (ownFrom_below (Nat.le_refl _) (Nat.le_refl _)) (fun _ _ _ _ _ hs _ _ => hs) (Below.refl _ _) _ (fun l x W K hK => wpIn_skip hK) ?body ?done ?stop
    case body =>
      intro l pre x W hI hlt
      exact absurd hlt (by omega)
    case stop =>
      rintro D c pre W' _ h _ _
      exact h.elim
    case done =>
      rintro D1 ys w5 hD1 rfl hI hKd1
      have HN5 := Lib.hid (NilB.of (HN4.out.below hI))
      have HK5 := Lib.hid ((hI.block _ (blk_lt HK4.out)).trans HK4.out)
      have HB5 := Lib.hid (HB_4.out.trans (hI.mono HB_4.out.size))
      have HD5 := Lib.hid hKd1
      have hlk := blk_lt HK4.out
      have hD1l := (Array.getElem?_eq_some_iff.1 hKd1).1
      have hwD : w.heap.size < D1 := by omega
      clear hI hKd1 HN4 HK4 HB_4 HC4
      go_wp2_with fail
      refine (New_ring w5.heap.size 3 5 w5 (Nat.le_refl _) (by omega) (by omega) (by omega) (by omega)).mono ?_
      rintro e w6 ⟨rfl, hr6, hb6⟩
      obtain ⟨p, hp⟩ : ∃ p, p = w5.heap.size := ⟨_, rfl⟩
      have HN5p := Lib.hid hp
      rw [← hp] at hr6 ⊢
      have HN6 := Lib.hid (HN5.out.below (Nat.le_refl _) hb6)
      have HK6 := Lib.hid ((hb6.block _ (blk_lt HK5.out)).trans HK5.out)
      have HB6 := Lib.hid (HB5.out.trans (hb6.mono HB5.out.size))
      have HD6 := Lib.hid ((hb6.block _ hD1l).trans HD5.out)
      have HR6 := Lib.hid hr6
      have hp6 : p < w6.heap.size := (hr6.fplt (k := p) (.inl rfl)).2
      have hD1p : D1 < p := by omega
      have hwp : w.heap.size < p := by omega
      have HF := Lib.hid (From_new p p 3 (.slice none 0 0) w6 hr6)
      rw [← hp] at HN6
      clear hr6 hb6 hp HN5 HN5p HK5 HB5 HD5
      go_wp2_with fail
      refine HF.out.mono ?_
      rintro e w7 ⟨C7, rfl, hc7, hl7, hb7⟩
      obtain ⟨B7, hB7⟩ : ∃ B, B = w6.heap.size := ⟨_, rfl⟩
      rw [← hB7] at hc7 hl7 ⊢
      have hpB : p < B7 := by omega
      have HN7 := Lib.hid (HN6.out.below (by omega) hb7)
      have HK7 := Lib.hid ((hb7.block _ (blk_lt HK6.out)).trans HK6.out)
      have HB7 := Lib.hid (HB6.out.trans (hb7.mono HB6.out.size))
      have HD7 := Lib.hid ((hb7.block _ (Array.getElem?_eq_some_iff.1 HD6.out).1).trans HD6.out)
      have HR7 := Lib.hid (HR6.out.below hb7)
      have HC7 := Lib.hid hc7
      have HPt := Lib.hid (Put_ring_room p p 5 3 v (.slice none 0 0) [] w7 HR7.out (by have := hb7.size; omega) (by simp) (by simp))
      clear hc7 hb7 hB7 HN6 HK6 HB6 HD6 HR6 HF
      go_wp2_with fail
      refine HPt.out.mono ?_
      rintro e w8 ⟨rfl, sv, hr8, hst⟩
      have hm8 := hst.mod
      have hFP : ∀ k, FP p (.slice none 0 0) k → k = p := fun k hk => by
        rcases hk with h | h
        · exact h
        · simp [Value.ownBlock] at h
      have hs7 : p < w7.heap.size := by omega
      have hNF : ∀ k, k < p → ¬ FP p (.slice none 0 0) k := fun k hk h => by have := hFP k h; omega
      have HN8 := Lib.hid (HN7.out.mod (by omega) hm8 hNF)
      have HK8 := Lib.hid ((hm8.block _ (blk_lt HK7.out) (hNF _ hwp)).trans HK7.out)
      have HB8 : Hid (Below w.heap.size w w8) := Lib.hid ⟨hm8.os.trans HB7.out.os, hm8.tape.trans HB7.out.tape, hm8.output.trans HB7.out.output, Nat.le_trans HB7.out.size hm8.size, fun k hk => (hm8.block k (by have := HB7.out.size; omega) (hNF k (by omega))).trans (HB7.out.block k hk)⟩
      have HD8 := Lib.hid ((hm8.block _ (Array.getElem?_eq_some_iff.1 HD7.out).1 (hNF _ hD1p)).trans HD7.out)
      have HC8 := Lib.hid ((hm8.cell (p := ⟨B7, 0, none⟩) hl7 (fun h => by have := hFP _ h; simp at this; omega)).trans HC7.out)
      have HR8 := Lib.hid hr8
      have hs8 := hm8.size
      have hl8 : B7 < w8.heap.size := by omega
      clear hm8 hst hr8 HN7 HK7 HB7 HD7 HR7 HC7 HPt hFP hNF
      go_wp2_with fail
      refine (wpIn_wide (n := 7)).1 ?_
      refine' wpIn_rangeFunc_ownF (α := Int × Int) (encs := fun x => #[.int .u64 x.1, .int .i64 x.2]) (F := Fence.wide) rfl (by omega) (gf := 37) (lb := #[.pointer (some ⟨B7, 0, none⟩), .pointer (some ⟨C7, 0, none⟩)]) rfl trivial (enters_of Try.func37 (by kernel_rfl) rfl)
        (none_stops (w := w8) (Kp := Below w8.heap.size) fun l W hW => From1_nil 6 (by omega) l B7 C7 W (Nat.lt_of_lt_of_le hl8 hW.size) ((hW.cell (p := ⟨B7, 0, none⟩) hl8).trans HC8.out)) belowK_t (belowK_b (Nat.le_refl _)) (Below.refl _ _) (fun _ => rfl)
        (fun _ W' => Below w8.heap.size w8 W') (fun _ _ _ => False) (ownFrom_below (Nat.le_refl _) (Nat.le_refl _)) (fun _ _ _ _ _ hs _ _ => hs) (Below.refl _ _) _ (fun l x W K hK => wpIn_skip hK) ?body2 ?done2 ?stop2
      case body2 =>
        intro l pre x W hI hlt
        exact absurd hlt (by omega)
      case stop2 =>
        rintro D c pre W' _ h _ _
        exact h.elim
      case done2 =>
        rintro D2 ys w9 hD2 rfl hI hKd2
        have HN9 := Lib.hid ((HN8.out.below (by omega) hI).to (by have := hI.size; omega))
        have HK9 := Lib.hid ((hI.block _ (blk_lt HK8.out)).trans HK8.out)
        have HB9 := Lib.hid (HB8.out.trans (hI.mono HB8.out.size))
        have HD9 := Lib.hid ((hI.block _ (Array.getElem?_eq_some_iff.1 HD8.out).1).trans HD8.out)
        have HR9 := Lib.hid (HR8.out.below hI)
        have HE9 := Lib.hid hKd2
        have G1 := Lib.hid (First_nil a w9 HN9.out)
        have G2 := Lib.hid (Next_nil a w9 HN9.out)
        have G3 := Lib.hid (Len_nil a w9 HN9.out)
        have G4 := Lib.hid (Copy_nil a w9 HN9.out)
        have G5 := Lib.hid (Same_nil a w9 HN9.out)
        have hD12 : D1 < D2 := by omega
        clear hI hKd2 HN8 HK8 HB8 HD8 HR8 HC8
        go_wp2_with (first | (go_at_call 9; refine (HNum.out _ _).mono ?_; rintro e w' ⟨rfl, rfl⟩) | (go_at_call 14; refine G1.out.mono ?_; rintro e w' ⟨rfl, rfl⟩) | (go_at_call 11; refine G2.out.mono ?_; rintro e w' ⟨rfl, rfl⟩) | (go_at_call 13; refine G3.out.mono ?_; rintro e w' ⟨rfl, rfl⟩) | (go_at_call 19; refine G4.out.mono ?_; rintro e w' ⟨rfl, rfl⟩) | (go_at_call 21; fail))
        refine G5.out.mono ?_
        rintro e w10 ⟨rfl, hb⟩
        have G6 := Lib.hid (Same_one p p 5 3 sv _ a w10 (HR9.out.below hb) (HN9.out.below hb))
        have HK10 := Lib.hid ((hb.block _ (blk_lt HK9.out)).trans HK9.out)
        have HB10 := Lib.hid (HB9.out.trans (hb.mono HB9.out.size))
        have HD10 := Lib.hid ((hb.block _ (Array.getElem?_eq_some_iff.1 HD9.out).1).trans HD9.out)
        have HE10 := Lib.hid ((hb.block _ (Array.getElem?_eq_some_iff.1 HE9.out).1).trans HE9.out)
        clear hb G1 G2 G3 G4 G5 HN9 HK9 HB9 HD9 HR9 HE9
        go_wp2_with fail
        refine G6.out.mono ?_
        rintro e w11 ⟨rfl, hb⟩
        have HK11 := Lib.hid ((hb.block _ (blk_lt HK10.out)).trans HK10.out)
        have HB11 := Lib.hid (HB10.out.trans (hb.mono HB10.out.size))
        have HD11 := Lib.hid ((hb.block _ (Array.getElem?_eq_some_iff.1 HD10.out).1).trans HD10.out)
        have HE11 := Lib.hid ((hb.block _ (Array.getElem?_eq_some_iff.1 HE10.out).1).trans HE10.out)
        clear hb G6 HK10 HB10 HD10 HE10
        go_wp2_with fail
        refine (HWk.out _).mono ?_
        rintro e w12 ⟨rfl, hb⟩
        have hk12 := (hb.block _ (blk_lt HK11.out)).trans HK11.out
        have HB12 := Lib.hid (HB11.out.trans (hb.mono HB11.out.size))
        have HD12 := Lib.hid ((hb.block _ (Array.getElem?_eq_some_iff.1 HD11.out).1).trans HD11.out)
        have HE12 := Lib.hid ((hb.block _ (Array.getElem?_eq_some_iff.1 HE11.out).1).trans HE11.out)
        have c6 := cell_blk hk12 0 (.bool false) rfl
        have f6 := frozen_blk hk12 0
        clear hb hk12 HK11 HB11 HD11 HE11
        go_wp2_with fail
        have hk1 := (KeepsOthers.setCell w12 ⟨w.heap.size, 0, none⟩ (.bool true)).same D2 _ HE12.out rfl
        have hk0 := (KeepsOthers.setCell w12 ⟨w.heap.size, 0, none⟩ (.bool true)).same D1 _ HD12.out rfl
        have hk00 := ((grownBy_putObj' (w12.setCell ⟨w.heap.size, 0, none⟩ (.bool true)) D2 (.deferred none)).block D1 (Array.getElem?_eq_some_iff.1 hk0).1 (fun e => by cases e; omega)).trans hk0
        have hc5 := cell_kept (World.cell?_setCell_same' w12 ⟨w.heap.size, 0, none⟩ (.bool true) (by rw [c6]; rfl)) (grownBy_putObj' _ D2 (.deferred none)) (fun r e => by cases e; exact ⟨_, hk1, rfl⟩)
        have hc6 := cell_kept hc5 (grownBy_putObj' _ D1 (.deferred none)) (fun r e => by cases e; exact ⟨_, hk00, rfl⟩)
        refine ⟨by simp, .inl ⟨_, _, rfl, run_takeDeferred hk1, ⟨by simp, .inl ⟨_, _, rfl, run_takeDeferred hk00, ?_⟩⟩⟩⟩
        refine ⟨.bool true, ?_, rfl, ((HB12.out.setCell (p := ⟨w.heap.size, 0, none⟩) (by simp) _).trans (belowK_b (w := w) (Nat.le_refl _) _ D2 _ _ (by omega) hk1 rfl rfl)).trans (belowK_b (w := w) (Nat.le_refl _) _ D1 _ _ (by omega) hk00 rfl rfl)⟩
        simp [results, Try.f6, go_sem, hc6]
end Go.Proofs.Ythiajgkifoimcaa
