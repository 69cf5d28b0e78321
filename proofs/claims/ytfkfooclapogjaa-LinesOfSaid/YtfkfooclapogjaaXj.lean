/-
  LinesOf, walked.
-/
import Derived.Test.YtfkfooclapogjaaXi
import Derived.Test.YtfkfooclapogjaaRr
namespace Go.Proofs.Ytfkfooclapogjaa
open Go.RowKit Go.Shelf
set_option linter.unusedVariables false
set_option linter.unusedSimpArgs false
attribute [local go_sem] Oper.semAt_some run_eql_func41
attribute [local go_sem high] neq35

set_option maxHeartbeats 12800000 in
set_option maxRecDepth 100000 in
theorem of_any (m : Int) (a : Option Addr) (n cap : Nat) (zs : List Int) (many : Int) (w : World) (h : InB w a n cap zs) (hm0 : -9223372036854775808 ≤ many) (hm1 : many ≤ 9223372036854775807) : Calls Try.prog 4 #[.int .i64 m, .slice a n cap, .int .i64 many] w fun e w' => e = .returned (.bool true) ∧ Below w.heap.size w w' := by
  have HWk := Lib.hid works_true
  have HNum := Lib.hid num_any
  obtain ⟨Wa, hWa⟩ : ∃ W, W = w.alloc (.cells #[.int .i64 many] 3) := ⟨_, rfl⟩
  obtain ⟨Wb, hWb⟩ : ∃ W, W = Wa.alloc (.cells #[.bool false] 4) := ⟨_, rfl⟩
  have sa : Wa.heap.size = w.heap.size + 1 := by rw [hWa]; simp
  have sb : Wb.heap.size = w.heap.size + 2 := by rw [hWb]; simp [sa]
  have ba : Below w.heap.size w Wa := by rw [hWa]; exact (Below.refl _ w).alloc (Nat.le_refl _) _
  have bb : Below w.heap.size w Wb := by rw [hWb]; exact ba.alloc ba.size _
  have ka : Wb.heap[w.heap.size]? = some (.cells #[.int .i64 many] 3 (0, 0)) := by rw [hWb]; refine alloc_blk ?_ _; rw [hWa]; exact alloc_blk_new _ _
  have kb : Wb.heap[w.heap.size + 1]? = some (.cells #[.bool false] 4 (0, 0)) := by rw [hWb, ← sa]; exact alloc_blk_new _ _
  have EA := Lib.hid hWa
  have EB := Lib.hid hWb
  have SA := Lib.hid sa
  have KA := Lib.hid ka
  have KB := Lib.hid kb
  have BB := Lib.hid bb
  have SB := Lib.hid sb
  by_cases hbig : 300 < n
  · have d1 : decide (300 < n) = true := by simpa using hbig
    have d2 : decide ((300 : Int) < n) = true := by simp; omega
    clear hWa hWb sa sb ba bb ka kb hbig h
    refine (callsIn_wide (n := 6)).1 ?_
    refine callsIn_of_wp_marks Try.func4 rfl trivial ?_ rfl
    simp only [Try.ntmps4, List.size_toArray, List.length_cons, List.length_nil, Nat.reduceAdd, Nat.reduceSub, Array.replicate_succ, Array.replicate_zero, List.push_toArray, List.append_toArray, List.nil_append, List.cons_append]
    refine wpIn_wide.2 ?_
    go_wp2_with (go_at_call 6; fail)
    rw [← EA.out, ← EB.out]
    refine (HWk.out _).mono ?_
    rintro e w1 ⟨rfl, hb⟩
    have KB1 := Lib.hid ((hb.block _ (by rw [SB.out]; omega)).trans KB.out)
    have HB1 := Lib.hid (BB.out.trans (hb.mono BB.out.size))
    have c1 := cell_blk KB1.out 0 _ rfl
    have f1 := frozen_blk KB1.out 0
    have l1 := blk_lt KB1.out
    clear hb
    go_wp2_with fail
    have hk2 := cell_blk (setCell_blk KB1.out 0 (.bool true)) 0 (.bool true) rfl
    refine ⟨.bool true, ?_, rfl, HB1.out.setCell (p := ⟨w.heap.size + 1, 0, none⟩) (by simp) _⟩
    simp [results, Try.f4, go_sem, hk2]
  obtain ⟨i0, hi0, hz0, hz1, hz2⟩ := info_parts Try.info5
  have hn300 : n ≤ 300 := by omega
  have d1 : decide (300 < n) = false := by simp; omega
  have d2 : decide ((300 : Int) < n) = false := by simp; omega
  have HAw := Lib.hid h.1
  have HA := Lib.hid (h.1.below bb)
  have HNn := Lib.hid h.2.1
  have hcap := h.2.2.1
  have HBy := Lib.hid h.2.2.2.2
  have HZL := Lib.hid h.1.1
  have HR0 : Hid ((Wb.alloc (.cells #[] 5)).ownsRow Wb.heap.size 5 1 (.slice (some ⟨Wb.heap.size, 0, none⟩) 0 0) 0 []) := Lib.hid (World.ownsRow_lit Wb #[] 0 (Nat.le_refl _) (by simp) rfl)
  have HB0 : Hid (Below Wb.heap.size Wb (Wb.alloc (.cells #[] 5))) := Lib.hid ((Below.refl _ Wb).alloc (Nat.le_refl _) _)
  have HA0 := Lib.hid (HA.out.below HB0.out)
  clear hWa hWb sa sb ba bb ka kb hbig h
  refine (callsIn_wide (n := 6)).1 ?_
  refine callsIn_of_wp_marks Try.func4 rfl trivial ?_ rfl
  simp only [Try.ntmps4, List.size_toArray, List.length_cons, List.length_nil, Nat.reduceAdd, Nat.reduceSub, Array.replicate_succ, Array.replicate_zero, List.push_toArray, List.append_toArray, List.nil_append, List.cons_append]
  refine wpIn_wide.2 ?_
  go_upto_region 3 with fail
  rw [← EA.out, ← EB.out]
  go_wp2_with (at_builtin; go_loud (refine wpList_append_f _ rfl (.tmp 21) (.tmp 22) 22 rfl Wb.heap.size 5 i0 (.int .u8 0) 1 1 Try.underlying22 hi0 hz0 hz1 hz2 rfl (by decide) _ _ _ rfl HR0.out a n cap (zs.map (.int .u8)) rfl (by simpa using HZL.out) HNn.out HA0.out.news (one_u8 zs) ?c3 ?c4 (by simp) ?_))
  case c3 => unfold maxLen; omega
  case c4 => omega
  intro v1 w1 hown hg hf _
  have hb1 : Below Wb.heap.size Wb w1 := HB0.out.grown hg (by simp) (fun k e => by cases e; exact Nat.le_refl _)
  try rw [Nat.zero_add, List.nil_append] at hown
  obtain ⟨a1, c1, rfl⟩ := row_slice hown
  have HR1 := Lib.hid hown
  have HB1 := Lib.hid hb1
  obtain ⟨w2, hw2⟩ : ∃ W, W = w1.alloc (.cells #[.int .u8 77] 5) := ⟨_, rfl⟩
  have b2 : Below w1.heap.size w1 w2 := by rw [hw2]; exact (Below.refl _ w1).alloc (Nat.le_refl _) _
  have k2 : w2.heap[w1.heap.size]? = some (.cells #[.int .u8 77] 5 (0, 0)) := by rw [hw2]; exact alloc_blk_new _ _
  have HR2 := Lib.hid ((Mod.of_below b2 (fun _ => False)).row hown (fun _ _ h => h))
  have HB2 := Lib.hid (hb1.trans (b2.mono hb1.size))
  have HN := Lib.hid (fun (ad : Addr) (e : some (⟨w1.heap.size, 0, none⟩ : Addr) = some ad) j u (hj : [Value.int .u8 77][j]? = some u) => (show w2.cell? (ad.add j) = some u by
    cases e
    match j, hj with
    | 0, hj => cases hj; exact cell_blk k2 0 _ rfl))
  have E2 := Lib.hid hw2
  have hs2 := HB2.out.size
  clear hown hg hf hb1 hw2 b2 k2
  go_wp2_with (at_builtin; go_loud (rw [← E2.out]); go_loud (refine wpList_append_f _ rfl (.tmp 23) (.tmp 24) 22 rfl Wb.heap.size 5 i0 (.int .u8 0) 1 1 Try.underlying22 hi0 hz0 hz1 hz2 rfl (by decide) _ _ _ rfl HR2.out (some ⟨w1.heap.size, 0, none⟩) 1 1 [.int .u8 77] rfl rfl (fun e => by cases e) HN.out (by simp [Value.oneCell']) ?c3 ?c4 (by omega) ?_))
  case c3 => unfold maxLen; omega
  case c4 => omega
  intro v3 w3 hown hg hf _
  have hb3 : Below Wb.heap.size Wb w3 := HB2.out.grown hg hs2 (fun k e => (HR2.out.lt k e).1)
  have hown2 : w3.ownsRow Wb.heap.size 5 1 v3 (n + 1) ((zs ++ [77]).map (.int .u8)) := by simpa using hown
  obtain ⟨g, c3, cur, rfl, hgl, hgg, hnc, hcm, _⟩ := row_some hown2 (by omega)
  have hzl := HZL.out
  have hAw : Arg (fun k => Wb.heap.size ≤ k) w3 (some ⟨g, 0, none⟩) n zs := by
    have hl := hown2.1
    refine ⟨hzl, fun hp => ?_⟩
    obtain ⟨b, e, hb⟩ := row_window hown2 0 n (by omega) hp
    cases e
    obtain ⟨_, h2⟩ := hb
    obtain ⟨b', off, e, hbl, _, hc⟩ := h2 hp
    cases e
    refine ⟨g, 0, rfl, hbl, hgl, fun j hj => ?_⟩
    rw [hc j hj]
    have : j < zs.length := by omega
    simp [List.getD, List.getElem?_take_of_lt hj, List.getElem?_append_left this]
  have c77 : w3.cell? ⟨g, n, none⟩ = some (.int .u8 77) := by
    have := hown2.cellAt n (by omega)
    rw [this]
    simp [hzl]
  have hn1 : n ≤ c3 := by omega
  have hn2 : (n : Int) ≤ c3 := by omega
  have hn3 : n + 1 ≤ c3 := by omega
  have HA3 := Lib.hid hAw
  have H77 := Lib.hid c77
  have HB3 := Lib.hid hb3
  have HGL := Lib.hid (blk_lt hgg)
  clear hown hown2 hg hf hb3 hAw c77 hgg HR2 HB2 HN HR1 HB1 HR0 HB0 HA0 hzl E2 hs2
  have hby := HBy.out
  obtain ⟨l, hl⟩ : ∃ l, l = linesAt m zs := ⟨_, rfl⟩
  obtain ⟨N, hN⟩ : ∃ N, N = l.length := ⟨_, rfl⟩
  obtain ⟨er, her⟩ : ∃ er, er = errAt m := ⟨_, rfl⟩
  have hN300 : N ≤ 300 := by have := linesAt_len m zs; rw [hN, hl]; have := HZL.out; omega
  have HOf := Lib.hid (Of_at m (some ⟨g, 0, none⟩) n c3 zs w3 HA3.out (fun e => by cases e) hby (by omega))
  have HRO : Hid (∀ W, Below w3.heap.size w3 W → Calls Try.prog 13 #[.int .i64 m, .slice a n cap] W fun e w' => ∃ ra rc, e = .returned (.tuple #[.slice ra N rc, .int .i64 er]) ∧ LAhead w'.heap.size w' ra N l ∧ Below W.heap.size W w') := Lib.hid fun W hW => by
    rw [hN, her, hl]; exact refOf_at m a n cap zs W (HA.out.below (HB3.out.trans (hW.mono HB3.out.size))) HNn.out hby (by omega)
  have HEa : Hid (∀ W, Below w3.heap.size w3 W → Calls Try.prog 14 #[.int .i64 m, .slice (some ⟨g, 0, none⟩) n c3] W fun e w' => ∃ B ra rc, e = .returned (.func (.func 27) #[] #[.pointer (some ⟨B, 0, none⟩)]) ∧ w'.heap[B]? = some (.cells #[.slice ra N rc] 28 (0, 0)) ∧ LAhead w'.heap.size w' ra N l ∧ Below W.heap.size W w') := Lib.hid fun W hW => by
    rw [hN, hl]; exact Each_at m (some ⟨g, 0, none⟩) n c3 zs W (HA3.out.below hW) (fun e => by cases e) hby (by omega)
  rw [← hl, ← hN, ← her] at HOf
  obtain ⟨Z, hZ⟩ : ∃ Z, Z = strOfNums zs := ⟨_, rfl⟩
  have HC1 : Hid (∀ W, Below w3.heap.size w3 W → (convert 22 9 (.slice a n cap)).run Try.prog W = .ok (.string Z) W) := Lib.hid fun W hW => by
    have := HA.out.below (HB3.out.trans (hW.mono HB3.out.size))
    rw [hZ]
    have e := HZL.out
    subst e
    exact conv_any cap this HNn.out
  have HC2 : Hid (∀ W, Below w3.heap.size w3 W → (convert 22 9 (.slice (some ⟨g, 0, none⟩) n c3)).run Try.prog W = .ok (.string Z) W) := Lib.hid fun W hW => by
    have := HA3.out.below hW
    rw [hZ]
    have e := HZL.out
    subst e
    exact conv_any c3 this (fun e => by cases e)
  have H7 : Hid (∀ W, Below w3.heap.size w3 W → W.cell? ⟨g, n, none⟩ = some (.int .u8 77) ∧ g < W.heap.size) := Lib.hid fun W hW => ⟨(hW.cell (p := ⟨g, n, none⟩) HGL.out).trans H77.out, Nat.lt_of_lt_of_le HGL.out hW.size⟩
  have HNl := Lib.hid hN
  clear hl her hZ hby hN
  have hwr : IntKind.i64.wrap ((n : Int) + 1) = (n : Int) + 1 := by rw [IntKind.wrap_i64]; omega
  have hn4 : (n : Int) + 1 ≤ c3 := by omega
  have hn5 : (0 : Int) ≤ (n : Int) + 1 := by omega
  have hn6 : (n : Int) < (n : Int) + 1 := by omega
  go_wp2_with (go_at_call 10; fail)
  refine HOf.out.mono ?_
  rintro e w4 ⟨ra, rc, rfl, hla4, hb4⟩
  have HL4 := Lib.hid hla4
  have HB4 := Lib.hid hb4
  clear hla4 hb4 HOf
  go_wp2_with (go_at_call 13; fail)
  refine (HRO.out _ HB4.out).mono ?_
  rintro e w5 ⟨la, lc, rfl, hla5, hb5⟩
  obtain ⟨B, hB⟩ : ∃ B, B = w5.heap.size := ⟨_, rfl⟩
  obtain ⟨w6, hw6⟩ : ∃ W, W = w5.alloc (.cells #[.slice la N lc] 28) := ⟨_, rfl⟩
  have hb6 : Below w5.heap.size w5 w6 := by rw [hw6]; exact (Below.refl _ w5).alloc (Nat.le_refl _) _
  have k6 : w6.heap[B]? = some (.cells #[.slice la N lc] 28 (0, 0)) := by rw [hw6, hB]; exact alloc_blk_new _ _
  have K6 := Lib.hid k6
  have HB6 := Lib.hid (HB4.out.trans ((hb5.trans (hb6.mono hb5.size)).mono HB4.out.size))
  have HL5 := Lib.hid (hla5.below hb6)
  have H46 := Lib.hid (hb5.trans (hb6.mono hb5.size))
  have hBl : w5.heap.size = B := hB.symm
  have E6 := Lib.hid hw6
  have EBB := Lib.hid hB
  clear hla5 hb5 hw6 hb6 k6 hB hBl HRO
  go_wp2_with (go_at_call 14; fail)
  rw [← E6.out, ← EBB.out]
  refine (HEa.out _ HB6.out).mono ?_
  rintro e w7 ⟨Eb, ea, ec, rfl, keb, hle7, hb7⟩
  have HB7 := Lib.hid (HB6.out.trans (hb7.mono HB6.out.size))
  have HBw7 := Lib.hid (HB3.out.trans (HB7.out.mono HB3.out.size))
  have hlo2 : w.heap.size + 1 < Wb.heap.size := by rw [SB.out]; omega
  have h37 := HB7.out.size
  have hb37 := HB3.out.size
  have hLA7 : LAhead w7.heap.size w7 la N l := fun hp => by
    obtain ⟨b, e, hl, hc⟩ := HL5.out hp
    have hs6 := H46.out.size
    have hs7 := hb7.size
    have hBB := EBB.out
    have hk6 := blk_lt K6.out
    exact ⟨b, e, by omega, fun j hj => ⟨(hb7.cell (p := ⟨b, j * 2, none⟩) (by show b < _; omega)).trans (hc j hj).1, (hb7.cell (p := ⟨b, j * 2 + 1, none⟩) (by show b < _; omega)).trans (hc j hj).2⟩⟩
  have EV7 : Hid (Ev w many l N la lc B ea ec Eb w7.heap.size w7) := Lib.hid ⟨(HBw7.out.block _ (by omega)).trans KA.out, (HBw7.out.block _ (by omega)).trans KB.out, (hb7.block _ (blk_lt K6.out)).trans K6.out, keb, hLA7, hle7, by omega, Nat.lt_of_lt_of_le (blk_lt K6.out) hb7.size, blk_lt keb, Nat.le_refl _, BB.out.trans (HBw7.out.mono BB.out.size)⟩
  have HSm : Hid (Calls Try.prog 11 #[.slice ra N rc, .slice la N lc] w7 fun e w' => e = .returned (.bool true) ∧ Below w7.heap.size w7 w') := Lib.hid ((Same_any ra la N N rc lc l l w7 (((HL4.out.below (H46.out)).below (hb7.mono H46.out.size)).row HNl.out.symm (Nat.le_trans H46.out.size hb7.size)) (hLA7.row HNl.out.symm (Nat.le_refl _)) (by omega) true (by simp)).mono fun e w' h => by
    obtain ⟨h1, q, rfl⟩ := h
    exact ⟨h1, Below.drewN' w7 q⟩)
  have c10 := cell_blk EV7.out.b5 0 _ rfl
  have l10 := EV7.out.l2
  clear keb hle7 hb7 h37 hb37 hLA7 HEa HL4 HL5 H46 K6 E6 EBB hlo2
  go_wp2_with (go_at_call 11; fail)
  refine HSm.out.mono ?_
  rintro e w8 ⟨rfl, hb8⟩
  have HB8 := Lib.hid (HB7.out.trans (hb8.mono HB7.out.size))
  have EV8 := Lib.hid (EV7.out.bel hb8 (Nat.le_refl _))
  obtain ⟨lim, hlim⟩ : ∃ x, x = w7.heap.size := ⟨_, rfl⟩
  rw [← hlim] at EV8
  have f1 := HC1.out _ HB8.out
  have f2 := HC2.out _ HB8.out
  obtain ⟨f3, f4⟩ := H7.out _ HB8.out
  clear hlim hb8 HSm EV7 c10 l10 HC1 HC2 H7
  go_upto_region 9 with (go_at_call 9; refine (HNum.out _ _).mono ?_; rintro e w' ⟨rfl, rfl⟩)
  clear f1 f2 f3 f4 hwr hn1 hn2 hn3 hn4 hn5 hn6
  obtain ⟨tb0, htb⟩ : ∃ B, B = w8.heap.size := ⟨_, rfl⟩
  obtain ⟨wa0, hwy⟩ : ∃ W, W = w8.alloc (.cells #[.int .i64 0] 3) := ⟨_, rfl⟩
  have hby : Below w8.heap.size w8 wa0 := by rw [hwy]; exact (Below.refl _ w8).alloc (Nat.le_refl _) _
  have hky : wa0.heap[tb0]? = some (.cells #[.int .i64 0] 3 (0, 0)) := by rw [hwy, htb]; exact alloc_blk_new _ _
  have htl0 : lim ≤ tb0 := by rw [htb]; exact EV8.out.l4
  have EV0 := Lib.hid (EV8.out.bel hby EV8.out.l4)
  have TK0 := Lib.hid hky
  have EY := Lib.hid hwy
  have ETB := Lib.hid htb
  clear hwy hby hky htb EV8
  go_wp2_with fail
  rw [← EY.out, ← ETB.out]
  refine wp_loop_rounds 3 ?_
  rw [rounds_succ]
  have htc := cell_blk TK0.out 0 (.int .i64 0) rfl
  have htf := frozen_blk TK0.out 0
  have htl := blk_lt TK0.out
  go_upto_block 2 with fail
  clear htc htf htl
  obtain ⟨nb0, hnb⟩ : ∃ B, B = wa0.heap.size := ⟨_, rfl⟩
  obtain ⟨wn0, hwn⟩ : ∃ W, W = wa0.alloc (.cells #[.int .i64 0] 3) := ⟨_, rfl⟩
  have hbN : Below wa0.heap.size wa0 wn0 := by rw [hwn]; exact (Below.refl _ wa0).alloc (Nat.le_refl _) _
  have hkN : wn0.heap[nb0]? = some (.cells #[.int .i64 0] 3 (0, 0)) := by rw [hwn, hnb]; exact alloc_blk_new _ _
  rw [← hnb, ← hwn]
  have hnl0 : nb0 < wn0.heap.size := blk_lt hkN
  have htn0 : tb0 < nb0 := by rw [hnb]; exact blk_lt TK0.out
  have TN0 := Lib.hid ((hbN.block tb0 (blk_lt TK0.out)).trans TK0.out)
  have EN0 := Lib.hid (EV0.out.bel hbN EV0.out.l4)
  have NC0 := Lib.hid (cell_blk hkN 0 (.int .i64 0) rfl)
  have NF0 := Lib.hid (frozen_blk hkN 0)
  clear hnb hwn hbN hkN TK0 EV0
  refine range_cut (fun D W => wn0.heap.size ≤ D ∧ W.heap[D]? = some (.deferred (some [])) ∧ (∃ c : Nat, (c : Int) = min (N : Int) (max 1 many) ∧ W.cell? ⟨nb0, 0, none⟩ = some (.int .i64 c)) ∧ Below nb0 wn0 W) ?first0 ?rest0
  case first0 =>
    go_wp2_with fail
    refine (wpIn_wide (n := 6)).1 ?_
    have hl1 := EN0.out.l1
    have hl2 := EN0.out.l2
    have hl3 := EN0.out.l3
    refine' wpIn_range_deepA (F := Fence.wide) rfl (by omega) (gf := 27) (lb := #[.pointer (some ⟨Eb, 0, none⟩)]) rfl trivial (enters_of Try.func27 (by kernel_rfl) rfl) (n₀ := nb0) (by omega)
      (Each27_deep 5 (by omega) Eb nb0 ea N ec l (by omega) wn0 (by omega) (by omega) (cell_blk EN0.out.be 0 _ rfl) (fun hp => by obtain ⟨g, e, hl, hc⟩ := EN0.out.le hp; exact ⟨g, e, by omega, hc⟩)) (fun _ => rfl)
      (Rnd (List.finRange N) many nb0 wn0) (Rxt (List.finRange N) many nb0 wn0 2) (Rnd.ahead (by omega)) (Rxt.ahead (by omega)) (Rnd.start NC0.out NF0.out) (fun x => .cells #[.string (lvAt l x.val).1, .bool (lvAt l x.val).2] 35) _ ?assign ?body ?done ?stop
    case assign =>
      intro l' x W X K hX hK
      gi_wp2
      rw [← hX]
      exact hK _ rfl
    case done =>
      rintro D ys W hD rfl hI hKd
      obtain ⟨hcc, hB⟩ := hI.whole
      rw [List.length_finRange] at hcc
      exact ⟨rfl, D, rfl, hD, hKd, hcc, hB⟩
    case stop =>
      rintro D c pre W hD hSp hIx hKd
      obtain ⟨rfl, hcc, hB⟩ := hIx.part hSp
      rw [List.length_finRange] at hcc
      refine wpIn_exit ?_
      exact ⟨rfl, D, rfl, hD, hKd, hcc, hB⟩
    case body =>
      rintro l' pre xx V X hX hXb ⟨⟨hp, hC⟩, ⟨hc, hf⟩, hB⟩ hlt
      have FW := EN0.out.bel hB (by omega)
      have hcs := cell_blk FW.b5 0 _ rfl
      have hcr := cell_blk FW.b1 0 _ rfl
      have hfr := frozen_blk FW.b1 0
      have hcm := cell_blk FW.b0 0 _ rfl
      have hl4 := FW.l4
      have hVl : nb0 < V.heap.size := by have := hB.size; omega
      have kt := (hB.block tb0 (by omega)).trans TN0.out
      have hct := cell_blk kt 0 _ rfl
      obtain ⟨b, rfl, hbl, hbc⟩ := FW.ll (by omega)
      obtain ⟨g0, g1⟩ := hbc pre.length hlt
      have hmore := fin_more N pre xx hp
      try dsimp only at hXb
      obtain ⟨pl, hpl⟩ : ∃ pl, pl = pre.length := ⟨_, rfl⟩
      obtain ⟨ys, hys⟩ : ∃ z, z = (lvAt l pre.length).1 := ⟨_, rfl⟩
      obtain ⟨yb, hyb⟩ : ∃ z, z = (lvAt l pre.length).2 := ⟨_, rfl⟩
      rw [← hys] at g0
      rw [← hyb] at g1
      rw [← hpl] at hc g0 g1 hmore hlt hC
      obtain ⟨xi, hxi⟩ : ∃ xi, xi = xx.val := ⟨_, rfl⟩
      obtain ⟨xs, hxs⟩ : ∃ z, z = (lvAt l xx.val).1 := ⟨_, rfl⟩
      obtain ⟨xb, hxb⟩ : ∃ z, z = (lvAt l xx.val).2 := ⟨_, rfl⟩
      rw [← hxs, ← hxb] at hXb
      rw [← hxi] at hmore
      have hxl : xi < N := by rw [hxi]; exact xx.isLt
      have hzx : xi = pl → xs = ys ∧ xb = yb := fun e => by rw [hxs, hys, hxb, hyb, ← hpl, ← hxi, e]; exact ⟨rfl, rfl⟩
      have x0 := cell_blk hXb 0 (.string xs) rfl
      have x1 := cell_blk hXb 1 (.bool xb) rfl
      have xl := blk_lt hXb
      have HMore := Lib.hid hmore
      have HBl := Lib.hid hB
      have HPL := Lib.hid hpl
      have HC := Lib.hid hC
      have HZX := Lib.hid hzx
      have hgt : decide ((N : Int) ≤ pl) = false := by simp; omega
      have hgt2 : decide (N ≤ pl) = false := by simp; omega
      have hlt2 : (pl : Int) < N := by omega
      have hpl3 : pl ≤ 1000 := by omega
      have hwl : w.heap.size + 1 < wn0.heap.size := by omega
      have hwl2 : w.heap.size + 1 < nb0 := by omega
      have hbV : b < V.heap.size := by omega
      have htV : tb0 < V.heap.size := by omega
      have hBV : B < V.heap.size := by have := EN0.out.l2; omega
      have hwV : w.heap.size + 1 < V.heap.size := by omega
      have hwV0 : w.heap.size < V.heap.size := by omega
      simp only [← hxs]
      simp only [← hxb]
      simp only [← hxi]
      clear hmore hp hB hbc hys hyb hpl hC hxi hxs hxb hzx FW hXb kt
      by_cases e1 : xi = pl
      case neg =>
        have d1 : ((xi : Int) != (pl : Int)) = true := by simp; omega
        have d2 : (xi != pl) = true := by simpa using e1
        gi_wp2
        refine wpIn_region_round (by kernel_rfl) (by kernel_rfl) (by kernel_rfl) ?_
        repeat (gi_big_quiet_step (fail))
        refine wpQuietIn_nil ?_
        intro _ hw'
        obtain ⟨nq, hw''⟩ := hw'
        subst hw''
        gi_wp2
        exact ⟨(Stays.below (n₀ := 0) (Below.drewN' V nq)).setCell (p := ⟨w.heap.size + 1, 0, none⟩) (by show w.heap.size + 1 < _; omega) _, .inl ⟨rfl, fun h => e1 (HMore.out.1 h)⟩⟩
      subst e1
      obtain ⟨rfl, rfl⟩ := HZX.out rfl
      have hvv : lvNe xs xs xb xb = false := by simp [lvNe]
      have d0 : ((xi : Int) != (xi : Int)) = false := by simp
      have d00 : (xi != xi) = false := by simp
      by_cases hmy : many ≤ (xi : Int) + 1
      · have dm : decide (many ≤ (xi : Int) + 1) = true := by simpa using hmy
        have HM := Lib.hid hmy
        clear hmy
        gi_wp2
        refine wpIn_region_round (by kernel_rfl) (by kernel_rfl) (by kernel_rfl) ?_
        repeat (gi_big_quiet_step (fail))
        refine wpQuietIn_nil ?_
        intro _ hw'
        obtain ⟨nq, hw''⟩ := hw'
        subst hw''
        gi_wp2
        exact ⟨(Stays.below (n₀ := 0) (Below.drewN' V nq)).setCell (p := ⟨nb0, 0, none⟩) (by show nb0 < _; omega) _, Rxt.more (HMore.out.2 (by first | trivial | rfl)) (by rw [HPL.out]) HM.out (by have := HC.out; have := HPL.out; omega) (by show (V.cell? _).isSome = true; rw [hc]; rfl) hf (HBl.out.trans ((Below.drewN' V nq).mono (by omega)))⟩
      · have dm : decide (many ≤ (xi : Int) + 1) = false := by simpa using hmy
        have HM := Lib.hid hmy
        clear hmy
        gi_wp2
        refine wpIn_region_round (by kernel_rfl) (by kernel_rfl) (by kernel_rfl) ?_
        repeat (gi_big_quiet_step (fail))
        refine wpQuietIn_nil ?_
        intro _ hw'
        obtain ⟨nq, hw''⟩ := hw'
        subst hw''
        gi_wp2
        exact ⟨(Stays.below (n₀ := 0) (Below.drewN' V nq)).setCell (p := ⟨nb0, 0, none⟩) (by show nb0 < _; omega) _, (show Below nb0 V (V.drewN nq) from (Below.drewN' V nq).mono (by omega)).setCell (p := ⟨nb0, 0, none⟩) (Nat.le_refl _) _, Rnd.more (HMore.out.2 (by first | trivial | rfl)) (by rw [HPL.out]) (by have := HM.out; omega) (by show (V.cell? _).isSome = true; rw [hc]; rfl) hf (HBl.out.trans ((Below.drewN' V nq).mono (by omega)))⟩
  case rest0 =>
    rintro D0 W0 ⟨hD, hKd, ⟨kc0, hcnt, hcc⟩, hB⟩
    have hDw0 : w.heap.size ≤ D0 := by have := EN0.out.below.size; omega
    have hE := EN0.out.bel hB (by omega)
    have EW0 := Lib.hid hE
    have hl1 := hE.l1
    have hl2 := hE.l2
    have hl4 := hE.l4
    have nl : nb0 < W0.heap.size := by have := hB.size; omega
    have c0 := cell_blk hE.b0 0 _ rfl
    have l0 := blk_lt hE.b0
    have c5 := cell_blk hE.b5 0 _ rfl
    have l5 := blk_lt hE.b5
    have kt := (hB.block tb0 htn0).trans TN0.out
    have ct := cell_blk kt 0 _ rfl
    have lt := blk_lt kt
    have DW0 := Lib.hid hKd
    have hDl := blk_lt hKd
    obtain ⟨M, hM⟩ : ∃ M : Int, (if 1 < many then many else 1) = M := ⟨_, rfl⟩
    obtain ⟨R, hR⟩ : ∃ R : Int, (if M < (N : Int) then M else (N : Int)) = R := ⟨_, rfl⟩
    have hcr : (kc0 : Int) = R := by rw [← hR, ← hM]; omega
    have d1 : ((kc0 : Int) != R) = false := by simp [hcr]
    clear hcr
    clear hKd hB hE kt hcnt EN0 TN0 NC0 NF0
    go_upto_region 23 with fail
    obtain ⟨tb1, htb⟩ : ∃ B, B = W0.heap.size := ⟨_, rfl⟩
    obtain ⟨wx0, hwx⟩ : ∃ W, W = W0.alloc (.cells #[.int .i64 0] 3) := ⟨_, rfl⟩
    have hbx : Below W0.heap.size W0 wx0 := by rw [hwx]; exact (Below.refl _ W0).alloc (Nat.le_refl _) _
    have hkx : wx0.heap[tb1]? = some (.cells #[.int .i64 0] 3 (0, 0)) := by rw [hwx, htb]; exact alloc_blk_new _ _
    obtain ⟨wa1, hwy⟩ : ∃ W, W = wx0.setCell ⟨tb1, 0, none⟩ (.int .i64 1) := ⟨_, rfl⟩
    have hbt : Below tb1 W0 wx0 := by rw [htb]; exact hbx
    have hby : Below tb1 W0 wa1 := by rw [hwy]; exact hbt.setCell (p := ⟨tb1, 0, none⟩) (Nat.le_refl _) _
    have hky : wa1.heap[tb1]? = some (.cells #[.int .i64 1] 3 (0, 0)) := by rw [hwy]; exact setCell_blk hkx 0 _
    have htl1 : lim ≤ tb1 := by omega
    have EV1 := Lib.hid (EW0.out.bel hby htl1)
    have TK1 := Lib.hid hky
    have DK0 := Lib.hid ((hby.block D0 (by omega)).trans DW0.out)
    have hcx := cell_blk hkx 0 (.int .i64 0) rfl
    have hfx := frozen_blk hkx 0
    have hlx := blk_lt hkx
    have EX := Lib.hid hwx
    have EY := Lib.hid hwy
    have ETB := Lib.hid htb
    clear hbx hkx hwx hwy hbt hby hky htb hDl
    go_upto_region 11 with fail
    rw [← ETB.out, ← EX.out]
    go_wp2_with fail
    rw [← EY.out]
    clear hcx hfx hlx EX EY ETB EW0 DW0 c0 l0 c5 l5 ct lt hcc nl d1 hl1 hl2 hl4
    rw [rounds_succ]
    have htc := cell_blk TK1.out 0 (.int .i64 1) rfl
    have htf := frozen_blk TK1.out 0
    have htl := blk_lt TK1.out
    go_upto_block 2 with fail
    clear htc htf htl
    obtain ⟨nb1, hnb⟩ : ∃ B, B = wa1.heap.size := ⟨_, rfl⟩
    obtain ⟨wn1, hwn⟩ : ∃ W, W = wa1.alloc (.cells #[.int .i64 0] 3) := ⟨_, rfl⟩
    have hbN : Below wa1.heap.size wa1 wn1 := by rw [hwn]; exact (Below.refl _ wa1).alloc (Nat.le_refl _) _
    have hkN : wn1.heap[nb1]? = some (.cells #[.int .i64 0] 3 (0, 0)) := by rw [hwn, hnb]; exact alloc_blk_new _ _
    rw [← hnb, ← hwn]
    have hnl1 : nb1 < wn1.heap.size := blk_lt hkN
    have htn1 : tb1 < nb1 := by rw [hnb]; exact blk_lt TK1.out
    have TN1 := Lib.hid ((hbN.block tb1 (blk_lt TK1.out)).trans TK1.out)
    have EN1 := Lib.hid (EV1.out.bel hbN EV1.out.l4)
    have NC1 := Lib.hid (cell_blk hkN 0 (.int .i64 0) rfl)
    have NF1 := Lib.hid (frozen_blk hkN 0)
    have DN0 := Lib.hid ((hbN.block D0 (blk_lt DK0.out)).trans DK0.out)
    have hD0n : D0 < nb1 := by rw [hnb]; exact blk_lt DK0.out
    clear hnb hwn hbN hkN TK1 EV1
    refine range_cut (fun D W => wn1.heap.size ≤ D ∧ W.heap[D]? = some (.deferred (some [])) ∧ (∃ c : Nat, (c : Int) = min (N : Int) (max 1 ((N : Int) + 2)) ∧ W.cell? ⟨nb1, 0, none⟩ = some (.int .i64 c)) ∧ Below nb1 wn1 W) ?first1 ?rest1
    case first1 =>
      go_wp2_with fail
      refine (wpIn_wide (n := 6)).1 ?_
      have hl1 := EN1.out.l1
      have hl2 := EN1.out.l2
      have hl3 := EN1.out.l3
      refine' wpIn_range_deepA (F := Fence.wide) rfl (by omega) (gf := 27) (lb := #[.pointer (some ⟨Eb, 0, none⟩)]) rfl trivial (enters_of Try.func27 (by kernel_rfl) rfl) (n₀ := nb1) (by omega)
        (Each27_deep 5 (by omega) Eb nb1 ea N ec l (by omega) wn1 (by omega) (by omega) (cell_blk EN1.out.be 0 _ rfl) (fun hp => by obtain ⟨g, e, hl, hc⟩ := EN1.out.le hp; exact ⟨g, e, by omega, hc⟩)) (fun _ => rfl)
        (Rnd (List.finRange N) ((N : Int) + 2) nb1 wn1) (Rxt (List.finRange N) ((N : Int) + 2) nb1 wn1 2) (Rnd.ahead (by omega)) (Rxt.ahead (by omega)) (Rnd.start NC1.out NF1.out) (fun x => .cells #[.string (lvAt l x.val).1, .bool (lvAt l x.val).2] 35) _ ?assign ?body ?done ?stop
      case assign =>
        intro l' x W X K hX hK
        gi_wp2
        rw [← hX]
        exact hK _ rfl
      case done =>
        rintro D ys W hD rfl hI hKd
        obtain ⟨hcc, hB⟩ := hI.whole
        rw [List.length_finRange] at hcc
        exact ⟨rfl, D, rfl, hD, hKd, hcc, hB⟩
      case stop =>
        rintro D c pre W hD hSp hIx hKd
        obtain ⟨rfl, hcc, hB⟩ := hIx.part hSp
        rw [List.length_finRange] at hcc
        refine wpIn_exit ?_
        exact ⟨rfl, D, rfl, hD, hKd, hcc, hB⟩
      case body =>
        rintro l' pre xx V X hX hXb ⟨⟨hp, hC⟩, ⟨hc, hf⟩, hB⟩ hlt
        have FW := EN1.out.bel hB (by omega)
        have hcs := cell_blk FW.b5 0 _ rfl
        have hcr := cell_blk FW.b1 0 _ rfl
        have hfr := frozen_blk FW.b1 0
        have hcm := cell_blk FW.b0 0 _ rfl
        have hl4 := FW.l4
        have hVl : nb1 < V.heap.size := by have := hB.size; omega
        have kt := (hB.block tb1 (by omega)).trans TN1.out
        have hct := cell_blk kt 0 _ rfl
        obtain ⟨b, rfl, hbl, hbc⟩ := FW.ll (by omega)
        obtain ⟨g0, g1⟩ := hbc pre.length hlt
        have hmore := fin_more N pre xx hp
        try dsimp only at hXb
        obtain ⟨pl, hpl⟩ : ∃ pl, pl = pre.length := ⟨_, rfl⟩
        obtain ⟨ys, hys⟩ : ∃ z, z = (lvAt l pre.length).1 := ⟨_, rfl⟩
        obtain ⟨yb, hyb⟩ : ∃ z, z = (lvAt l pre.length).2 := ⟨_, rfl⟩
        rw [← hys] at g0
        rw [← hyb] at g1
        rw [← hpl] at hc g0 g1 hmore hlt hC
        obtain ⟨xi, hxi⟩ : ∃ xi, xi = xx.val := ⟨_, rfl⟩
        obtain ⟨xs, hxs⟩ : ∃ z, z = (lvAt l xx.val).1 := ⟨_, rfl⟩
        obtain ⟨xb, hxb⟩ : ∃ z, z = (lvAt l xx.val).2 := ⟨_, rfl⟩
        rw [← hxs, ← hxb] at hXb
        rw [← hxi] at hmore
        have hxl : xi < N := by rw [hxi]; exact xx.isLt
        have hzx : xi = pl → xs = ys ∧ xb = yb := fun e => by rw [hxs, hys, hxb, hyb, ← hpl, ← hxi, e]; exact ⟨rfl, rfl⟩
        have x0 := cell_blk hXb 0 (.string xs) rfl
        have x1 := cell_blk hXb 1 (.bool xb) rfl
        have xl := blk_lt hXb
        have HMore := Lib.hid hmore
        have HBl := Lib.hid hB
        have HPL := Lib.hid hpl
        have HC := Lib.hid hC
        have HZX := Lib.hid hzx
        have hgt : decide ((N : Int) ≤ pl) = false := by simp; omega
        have hgt2 : decide (N ≤ pl) = false := by simp; omega
        have hlt2 : (pl : Int) < N := by omega
        have hpl3 : pl ≤ 1000 := by omega
        have hwl : w.heap.size + 1 < wn1.heap.size := by omega
        have hwl2 : w.heap.size + 1 < nb1 := by omega
        have hbV : b < V.heap.size := by omega
        have htV : tb1 < V.heap.size := by omega
        have hBV : B < V.heap.size := by have := EN1.out.l2; omega
        have hwV : w.heap.size + 1 < V.heap.size := by omega
        have hwV0 : w.heap.size < V.heap.size := by omega
        simp only [← hxs]
        simp only [← hxb]
        simp only [← hxi]
        clear hmore hp hB hbc hys hyb hpl hC hxi hxs hxb hzx FW hXb kt
        by_cases e1 : xi = pl
        case neg =>
          have d1 : ((xi : Int) != (pl : Int)) = true := by simp; omega
          have d2 : (xi != pl) = true := by simpa using e1
          gi_wp2
          refine wpIn_region_round (by kernel_rfl) (by kernel_rfl) (by kernel_rfl) ?_
          repeat (gi_big_quiet_step (fail))
          refine wpQuietIn_nil ?_
          intro _ hw'
          obtain ⟨nq, hw''⟩ := hw'
          subst hw''
          gi_wp2
          exact ⟨(Stays.below (n₀ := 0) (Below.drewN' V nq)).setCell (p := ⟨w.heap.size + 1, 0, none⟩) (by show w.heap.size + 1 < _; omega) _, .inl ⟨rfl, fun h => e1 (HMore.out.1 h)⟩⟩
        subst e1
        obtain ⟨rfl, rfl⟩ := HZX.out rfl
        have hvv : lvNe xs xs xb xb = false := by simp [lvNe]
        have d0 : ((xi : Int) != (xi : Int)) = false := by simp
        have d00 : (xi != xi) = false := by simp
        gi_wp2
        refine wpIn_region_round (by kernel_rfl) (by kernel_rfl) (by kernel_rfl) ?_
        repeat (gi_big_quiet_step (fail))
        refine wpQuietIn_nil ?_
        intro _ hw'
        obtain ⟨nq, hw''⟩ := hw'
        subst hw''
        gi_wp2
        exact ⟨(Stays.below (n₀ := 0) (Below.drewN' V nq)).setCell (p := ⟨nb1, 0, none⟩) (by show nb1 < _; omega) _, (show Below nb1 V (V.drewN nq) from (Below.drewN' V nq).mono (by omega)).setCell (p := ⟨nb1, 0, none⟩) (Nat.le_refl _) _, Rnd.more (HMore.out.2 (by first | trivial | rfl)) (by rw [HPL.out]) (by omega) (by show (V.cell? _).isSome = true; rw [hc]; rfl) hf (HBl.out.trans ((Below.drewN' V nq).mono (by omega)))⟩
    case rest1 =>
      rintro D1 W1 ⟨hD, hKd, ⟨kc1, hcnt, hcc⟩, hB⟩
      have hDw1 : w.heap.size ≤ D1 := by have := EN1.out.below.size; omega
      have hE := EN1.out.bel hB (by omega)
      have EW1 := Lib.hid hE
      have hl1 := hE.l1
      have hl2 := hE.l2
      have hl4 := hE.l4
      have nl : nb1 < W1.heap.size := by have := hB.size; omega
      have c0 := cell_blk hE.b0 0 _ rfl
      have l0 := blk_lt hE.b0
      have c5 := cell_blk hE.b5 0 _ rfl
      have l5 := blk_lt hE.b5
      have kt := (hB.block tb1 htn1).trans TN1.out
      have ct := cell_blk kt 0 _ rfl
      have lt := blk_lt kt
      have DW1 := Lib.hid hKd
      have hDl := blk_lt hKd
      have DW10 := Lib.hid ((hB.block D0 hD0n).trans DN0.out)
      have hcr : (kc1 : Int) = N := by omega
      have d1 : ((kc1 : Int) != (N : Int)) = false := by simp [hcr]
      have d2 : (kc1 != N) = false := by simp; omega
      clear hcr
      clear hKd hB hE kt hcnt EN1 TN1 NC1 NF1
      go_upto_region 23 with fail
      obtain ⟨tb2, htb⟩ : ∃ B, B = W1.heap.size := ⟨_, rfl⟩
      obtain ⟨wx1, hwx⟩ : ∃ W, W = W1.alloc (.cells #[.int .i64 1] 3) := ⟨_, rfl⟩
      have hbx : Below W1.heap.size W1 wx1 := by rw [hwx]; exact (Below.refl _ W1).alloc (Nat.le_refl _) _
      have hkx : wx1.heap[tb2]? = some (.cells #[.int .i64 1] 3 (0, 0)) := by rw [hwx, htb]; exact alloc_blk_new _ _
      obtain ⟨wa2, hwy⟩ : ∃ W, W = wx1.setCell ⟨tb2, 0, none⟩ (.int .i64 2) := ⟨_, rfl⟩
      have hbt : Below tb2 W1 wx1 := by rw [htb]; exact hbx
      have hby : Below tb2 W1 wa2 := by rw [hwy]; exact hbt.setCell (p := ⟨tb2, 0, none⟩) (Nat.le_refl _) _
      have hky : wa2.heap[tb2]? = some (.cells #[.int .i64 2] 3 (0, 0)) := by rw [hwy]; exact setCell_blk hkx 0 _
      have htl2 : lim ≤ tb2 := by omega
      have EV2 := Lib.hid (EW1.out.bel hby htl2)
      have TK2 := Lib.hid hky
      have DK1 := Lib.hid ((hby.block D1 (by omega)).trans DW1.out)
      have DK10 := Lib.hid ((hby.block D0 (by have := blk_lt DW10.out; omega)).trans DW10.out)
      have hcx := cell_blk hkx 0 (.int .i64 1) rfl
      have hfx := frozen_blk hkx 0
      have hlx := blk_lt hkx
      have EX := Lib.hid hwx
      have EY := Lib.hid hwy
      have ETB := Lib.hid htb
      clear hbx hkx hwx hwy hbt hby hky htb hDl
      go_upto_region 11 with fail
      rw [← ETB.out, ← EX.out]
      go_wp2_with fail
      rw [← EY.out]
      clear hcx hfx hlx EX EY ETB EW1 DW1 c0 l0 c5 l5 ct lt hcc nl d1 hl1 hl2 hl4
      rw [rounds_succ]
      have htc := cell_blk TK2.out 0 (.int .i64 2) rfl
      have htf := frozen_blk TK2.out 0
      have htl := blk_lt TK2.out
      go_wp2_with (go_at_call 6; fail)
      refine (HWk.out _).mono ?_
      rintro e wz ⟨rfl, hb⟩
      have EZ := Lib.hid (EV2.out.bel hb EV2.out.l4)
      have DZ1 := Lib.hid ((hb.block D1 (blk_lt DK1.out)).trans DK1.out)
      have DZ0 := Lib.hid ((hb.block D0 (blk_lt DK10.out)).trans DK10.out)
      have c1 := cell_blk EZ.out.b1 0 _ rfl
      have f1 := frozen_blk EZ.out.b1 0
      have l1 := blk_lt EZ.out.b1
      have hne1 : D1 ≠ w.heap.size + 1 := fun e => by
        have h1 := DZ1.out
        rw [e, EZ.out.b1] at h1
        cases h1
      have hne0 : D0 ≠ w.heap.size + 1 := fun e => by
        have h1 := DZ0.out
        rw [e, EZ.out.b1] at h1
        cases h1
      have hne : D0 ≠ D1 := by omega
      have HN1 := Lib.hid hne1
      have HN0 := Lib.hid hne0
      have HNN := Lib.hid hne
      clear hb htc htf htl hne1 hne0 hne EV2 DK1 DK10 TK2
      go_wp2_with fail
      have hk1 := (setCell_blk_ne (w := wz) (a := ⟨w.heap.size + 1, 0, none⟩) HN1.out (.bool true)).trans DZ1.out
      have hk0 : ((wz.setCell ⟨w.heap.size + 1, 0, none⟩ (.bool true)).putObj D1 (.deferred none)).heap[D0]? = some (.deferred (some [])) := (World.putObj_heap_other (w := wz.setCell ⟨w.heap.size + 1, 0, none⟩ (.bool true)) HNN.out).trans ((setCell_blk_ne (w := wz) (a := ⟨w.heap.size + 1, 0, none⟩) HN0.out (.bool true)).trans DZ0.out)
      refine ⟨by simp, .inl ⟨_, _, rfl, run_takeDeferred hk1, ⟨by simp, .inl ⟨_, _, rfl, run_takeDeferred hk0, ?_⟩⟩⟩⟩
      have hk2 : (((wz.setCell ⟨w.heap.size + 1, 0, none⟩ (.bool true)).putObj D1 (.deferred none)).putObj D0 (.deferred none)).cell? ⟨w.heap.size + 1, 0, none⟩ = some (.bool true) :=
        cell_blk ((World.putObj_heap_other (fun e => HN0.out e.symm)).trans ((World.putObj_heap_other (fun e => HN1.out e.symm)).trans (setCell_blk EZ.out.b1 0 (.bool true)))) 0 _ rfl
      refine ⟨.bool true, ?_, rfl, (((EZ.out.below.setCell (p := ⟨w.heap.size + 1, 0, none⟩) (by simp) _).trans (below_put (by omega))).trans (below_put (by omega)))⟩
      simp [results, Try.f4, go_sem, hk2]
end Go.Proofs.Ytfkfooclapogjaa
