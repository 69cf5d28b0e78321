/-
  BackoffNone, walked.
-/
import Derived.Test.YtkoppmnofloefaaRb
namespace Go.Proofs.Ytkoppmnofloefaa
open Go.RowKit Go.Shelf
set_option linter.unusedVariables false
set_option linter.unusedSimpArgs false
attribute [local go_sem] Oper.semAt_some

theorem run_eql_func52 (f : Fn) (x y : Array Value) (w : World) : (binOp .eql 52 (.func f x y) .nilFunc).run Try.prog w = .ok (.bool false) w := by
  have h : ∀ d : Nat, (Op.equalIn (d + 1) 52 (.func f x y) .nilFunc).run Try.prog w = .ok false w := fun d => by
    simp [Op.equalIn, run_underlying Try.underlying52]
  simp only [binOp]
  simp [Op.equal, Op.maxDepth, h 9999]
attribute [local go_sem] run_eql_func52

set_option maxHeartbeats 3200000 in
set_option maxRecDepth 100000 in
theorem none_law (d : Int) (zero : Bool) (w : World) : Calls Try.prog 7 #[.int .u64 d, .bool zero] w (Yes w) := by
  have HNum := Lib.hid num_any
  have HWk := Lib.hid works_true
  have HK := Lib.hid (alloc_blk_new w (.cells #[.bool false] 4))
  refine (callsIn_wide (n := 5)).1 ?_
  refine callsIn_of_wp_marks Try.func7 rfl trivial ?_ rfl
  simp only [Try.ntmps7, List.size_toArray, List.length_cons, List.length_nil, Nat.reduceAdd, Nat.reduceSub, Array.replicate_succ, Array.replicate_zero, List.push_toArray, List.append_toArray, List.nil_append, List.cons_append]
  refine wpIn_wide.2 ?_
  go_upto_if 15 with fail
  go_cut [5] from 15 to 17 (fun v5 wx => ∃ a, v5 = .pointer a ∧ Nil wx a ∧ wx.heap[w.heap.size]? = some (.cells #[.bool false] 4 (0, 0)) ∧ Below w.heap.size w wx)
  case first =>
    cases zero with
    | true =>
      go_wp2
      go_meet
      refine ⟨some ⟨w.heap.size + 1, 0, none⟩, rfl, .inr ⟨_, rfl, by simp, ?_⟩, alloc_blk HK.out _, ((Below.refl _ w).alloc (Nat.le_refl _) _).alloc (by simp) _⟩
      have := alloc_blk_new (w.alloc (.cells #[.bool false] 4)) (.cells #[.int .u64 0, .int .u64 0, .int .u64 0, .int .u64 0, .int .i64 0, .bool false] 57)
      rw [World.size_alloc] at this
      exact cell_blk this 5 _ rfl
    | false =>
      go_wp2
      go_meet
      exact ⟨none, rfl, .inl rfl, HK.out, (Below.refl _ w).alloc (Nat.le_refl _) _⟩
  case rest =>
    obtain ⟨a, rfl, hN, hK, hB⟩ := hcut
    have hlw := blk_lt hK
    have HX := Lib.hid (Next_nil a d wc hN)
    have HP := Lib.hid (Peek_nil a d wc hN)
    have HS := Lib.hid (Set_nil a d wc hN)
    have HN := Lib.hid hN
    have HK2 := Lib.hid hK
    have HB := Lib.hid hB
    clear hN hK hB HK
    go_wp2_with (first | (go_at_call 13; refine HX.out.mono ?_; rintro e w' ⟨rfl, rfl⟩) | (go_at_call 12; refine HP.out.mono ?_; rintro e w' ⟨rfl, rfl⟩) | (go_at_call 10; refine HS.out.mono ?_; rintro e w' ⟨rfl, rfl⟩) | (go_at_call 20; fail))
    have hbA := (Below.refl _ wc).alloc (Nat.le_refl _) (.cells #[.int .u64 d] 22)
    have HD := Lib.hid (Delays_nil a (some ⟨wc.heap.size, 0, none⟩) 1 1 _ (HN.out.below hbA))
    refine HD.out.mono ?_
    rintro e w4 ⟨rfl, hc4, hl4, hb4⟩
    obtain ⟨B, hBd⟩ : ∃ B, B = (wc.alloc (.cells #[.int .u64 d] 22)).heap.size := ⟨_, rfl⟩
    rw [← hBd] at hc4 hl4 ⊢
    have hb5 := hbA.trans (hb4.mono (by simp))
    have HN4 := Lib.hid (HN.out.below hb5)
    have HK4 := Lib.hid ((hb5.block _ hlw).trans HK2.out)
    have HB4 := Lib.hid (HB.out.trans (hb5.mono HB.out.size))
    have HC4 := Lib.hid hc4
    have HL4 := Lib.hid hl4
    clear hbA hc4 hl4 hb4 hb5 HD HX HP HS HN HK2 HB hBd
    go_wp2_with fail
    refine (wpIn_wide (n := 5)).1 ?_
    refine' wpIn_rangeFunc_ownF (F := Fence.wide) rfl (by omega) (gf := 34) (lb := #[.pointer (some ⟨B, 0, none⟩)]) rfl trivial (enters_of Try.func34 (by kernel_rfl) rfl)
      (delays_stops Fence.wide 4 trivial rfl (by omega) B w4.heap.size none 0 0 [] (by omega) w4 HL4.out (Nat.le_refl _) HC4.out (fun h => absurd h (by omega))) belowK_t (belowK_b (Nat.le_refl _)) (Below.refl _ _) (fun _ => rfl)
      (fun _ W => Below w4.heap.size w4 W) (fun _ _ _ => False) (ownFrom_below (Nat.le_refl _) (Nat.le_refl _)) (fun _ _ _ _ _ hs _ _ => hs) (Below.refl _ _) _ (fun l x W K hK => wpIn_skip hK) ?body ?done ?stop
    case body =>
      intro l pre x W hI hlt
      exact absurd hlt (by omega)
    case stop =>
      rintro D c pre W _ _ h _
      exact h.elim
    case done =>
      rintro D ys W hD rfl hI hKd
      have hN5 : Nil W a := HN4.out.below hI
      have HK5 := Lib.hid ((hI.block _ (blk_lt HK4.out)).trans HK4.out)
      have HB5 := Lib.hid (HB4.out.trans (hI.mono HB4.out.size))
      have hsz := HB5.out.size
      have hne : w.heap.size < w4.heap.size := blk_lt HK4.out
      clear HN4 HK4 HB4 HC4 HL4 hI
      go_wp2_with fail
      refine (new_ok 1 1 0 W (by decide) (by omega)).mono ?_
      rintro e w6 ⟨p, hp6, rfl, hr6, hb6⟩
      have hN6 : Nil w6 a := hN5.below hb6
      have HK6 := Lib.hid ((hb6.block _ (blk_lt HK5.out)).trans HK5.out)
      have HB6 := Lib.hid (HB5.out.trans (hb6.mono HB5.out.size))
      have HD6 := Lib.hid ((hb6.block _ (Array.getElem?_eq_some_iff.1 hKd).1).trans hKd)
      have H1 := Lib.hid (Reset_nil a w6 hN6)
      have H2 := Lib.hid (Tries_nil a w6 hN6)
      have H3 := Lib.hid (Base_nil a w6 hN6)
      have H4 := Lib.hid (Copy_nil a w6 hN6)
      have H5 := Lib.hid (Same_nil a none w6 hN6 (.inl rfl))
      have H6 := Lib.hid (Same_one p 1 1 0 1 0 a w6 hr6 hN6)
      have H7 := Lib.hid (HWk.out w6)
      clear hN5 HK5 HB5 hr6 hb6 hKd hN6 HWk hp6
      go_wp2_with (first | (go_at_call 11; refine (HNum.out _ _).mono ?_; rintro e w' ⟨rfl, rfl⟩) | (go_at_call 22; refine H1.out.mono ?_; rintro e w' ⟨rfl, rfl⟩) | (go_at_call 23; refine H2.out.mono ?_; rintro e w' ⟨rfl, rfl⟩) | (go_at_call 24; refine H3.out.mono ?_; rintro e w' ⟨rfl, rfl⟩) | (go_at_call 18; refine H4.out.mono ?_; rintro e w' ⟨rfl, rfl⟩) | (go_at_call 19; refine H5.out.mono ?_; clear H5; rintro e w' ⟨rfl, rfl⟩) | (go_at_call 19; fail) | (go_at_call 8; fail))
      refine H6.out.mono ?_
      rintro e w' ⟨rfl, rfl⟩
      clear H1 H2 H3 H4 H6
      go_wp2_with fail
      refine H7.out.mono ?_
      rintro e w7 ⟨rfl, hb7⟩
      have hK7 := (hb7.block _ (blk_lt HK6.out)).trans HK6.out
      have hc7 := cell_blk hK7 0 _ rfl
      have hf7 := frozen_blk hK7 0
      have HK7 := Lib.hid hK7
      have HB7 := Lib.hid (HB6.out.trans (hb7.mono HB6.out.size))
      have HD7 := Lib.hid ((hb7.block _ (Array.getElem?_eq_some_iff.1 HD6.out).1).trans HD6.out)
      clear hK7 hb7 HK6 HB6 HD6 H7
      go_wp2_with fail
      have hK' := (KeepsOthers.setCell w7 ⟨w.heap.size, 0, none⟩ (.bool true)).same D _ HD7.out rfl
      refine ⟨by simp, .inl ⟨_, _, rfl, run_takeDeferred hK', ?_⟩⟩
      have hc5 := cell_kept (World.cell?_setCell_same' w7 ⟨w.heap.size, 0, none⟩ (.bool true) (by rw [hc7]; rfl)) (grownBy_putObj' _ D (.deferred none)) (fun r e => by cases e; exact ⟨_, hK', rfl⟩)
      refine ⟨.bool true, ?_, rfl, (HB7.out.setCell (p := ⟨w.heap.size, 0, none⟩) (by simp) _).trans (belowK_b (w := w) (Nat.le_refl _) _ D _ _ (by omega) hK' rfl rfl)⟩
      simp [results, Try.f7, go_sem, hc5]
end Go.Proofs.Ytkoppmnofloefaa
