/-
  UtfEach, walked.
-/
import Derived.Test.YtplpgjcdoodmlaaSp
import Derived.Deep.CutBlock
namespace Go.Proofs.Ytplpgjcdoodmlaa
open Go.RowKit Go.Shelf
set_option linter.unusedVariables false
set_option linter.unusedSimpArgs false
attribute [local go_sem] Oper.semAt_some run_eql_func27
attribute [local go_sem high] neq30

set_option maxHeartbeats 6400000 in
set_option maxRecDepth 100000 in
theorem each_any (s : ByteArray) (many : Int) (w : World) (hm0 : -9223372036854775808 ≤ many) (hm1 : many ≤ 9223372036854775807) : Calls Try.prog 3 #[.string s, .int .i64 many] w fun e w' => e = .returned (.bool true) ∧ Below w.heap.size w w' := by
  have HWk := Lib.hid works_true
  obtain ⟨Wa, hWa⟩ : ∃ W, W = w.alloc (.cells #[.int .i64 many] 3) := ⟨_, rfl⟩
  obtain ⟨Wb, hWb⟩ : ∃ W, W = Wa.alloc (.cells #[.bool false] 4) := ⟨_, rfl⟩
  have sa : Wa.heap.size = w.heap.size + 1 := by rw [hWa]; simp
  have sb : Wb.heap.size = w.heap.size + 2 := by rw [hWb]; simp [sa]
  have ba : Below w.heap.size w Wa := by rw [hWa]; exact (Below.refl _ w).alloc (Nat.le_refl _) _
  have bb : Below w.heap.size w Wb := by rw [hWb]; exact ba.alloc ba.size _
  have ka : Wb.heap[w.heap.size]? = some (.cells #[.int .i64 many] 3 (0, 0)) := by rw [hWb]; refine alloc_blk ?_ _; rw [hWa]; exact alloc_blk_new _ _
  have kb : Wb.heap[w.heap.size + 1]? = some (.cells #[.bool false] 4 (0, 0)) := by rw [hWb, ← sa]; exact alloc_blk_new _ _
  have EA := Lib.hid hWa
  have EB := Lib.hid hWb
  have SA := Lib.hid sa
  have KA := Lib.hid ka
  have KB := Lib.hid kb
  have BB := Lib.hid bb
  have SB := Lib.hid sb
  by_cases hbig : 300 < s.size
  · have d1 : decide (300 < s.size) = true := by simpa using hbig
    have d2 : decide ((300 : Int) < s.size) = true := by simp; omega
    clear hWa hWb sa sb ba bb ka kb hbig
    refine (callsIn_wide (n := 6)).1 ?_
    refine callsIn_of_wp_marks Try.func3 rfl trivial ?_ rfl
    simp only [Try.ntmps3, List.size_toArray, List.length_cons, List.length_nil, Nat.reduceAdd, Nat.reduceSub, Array.replicate_succ, Array.replicate_zero, List.push_toArray, List.append_toArray, List.nil_append, List.cons_append]
    refine wpIn_wide.2 ?_
    go_wp2_with (go_at_call 8; fail)
    rw [← EA.out, ← EB.out]
    refine (HWk.out _).mono ?_
    rintro e w1 ⟨rfl, hb⟩
    have KB1 := Lib.hid ((hb.block _ (by rw [SB.out]; omega)).trans KB.out)
    have HB1 := Lib.hid (BB.out.trans (hb.mono BB.out.size))
    have c1 := cell_blk KB1.out 0 _ rfl
    have f1 := frozen_blk KB1.out 0
    have l1 := blk_lt KB1.out
    clear hb
    go_wp2_with fail
    have hk2 := cell_blk (setCell_blk KB1.out 0 (.bool true)) 0 (.bool true) rfl
    refine ⟨.bool true, ?_, rfl, HB1.out.setCell (p := ⟨w.heap.size + 1, 0, none⟩) (by simp) _⟩
    simp [results, Try.f3, go_sem, hk2]
  obtain ⟨cc, wc0, hconv, hbc, hsc, hAc, hccap⟩ := conv_newc s Wb
  have HBC := Lib.hid hbc
  have HSC := Lib.hid hsc
  have HAll := Lib.hid (refAll_any _ s.size cc (nums s) wc0 hAc (fun e => by cases e) hccap (nums_byt s) (by omega))
  have HN300 : Hid ((allP (nums s)).length ≤ 300) := Lib.hid (by have := allP_len (nums s); rw [nums_len] at this; omega)
  obtain ⟨N, hN⟩ : ∃ N, N = (allP (nums s)).length := ⟨_, rfl⟩
  rw [← hN] at HAll HN300
  have HNL := Lib.hid hN.symm
  have hs300 : s.size ≤ 300 := by omega
  have d1 : decide (300 < s.size) = false := by simp; omega
  have d2 : decide ((300 : Int) < s.size) = false := by simp; omega
  have HEach := Lib.hid (fun W => Each_any s W)
  clear hWa hWb sa sb ba bb ka kb hbig hbc hsc hAc hccap hN
  refine (callsIn_wide (n := 6)).1 ?_
  refine callsIn_of_wp_marks Try.func3 rfl trivial ?_ rfl
  simp only [Try.ntmps3, List.size_toArray, List.length_cons, List.length_nil, Nat.reduceAdd, Nat.reduceSub, Array.replicate_succ, Array.replicate_zero, List.push_toArray, List.append_toArray, List.nil_append, List.cons_append]
  refine wpIn_wide.2 ?_
  go_upto_region 3 with fail
  rw [← EA.out, ← EB.out]
  go_wp2_with (go_at_call 9; fail)
  refine HAll.out.mono ?_
  rintro e w3 ⟨la, lc, rfl, hrow, hb3⟩
  have hsz3 := hb3.size
  have hszc := HSC.out
  obtain ⟨B, hB⟩ : ∃ B, B = w3.heap.size := ⟨_, rfl⟩
  obtain ⟨W5, hW5⟩ : ∃ W, W = w3.alloc (.cells #[.slice la N lc] 23) := ⟨_, rfl⟩
  obtain ⟨W6, hW6⟩ : ∃ W, W = W5.alloc (.cells #[.string s] 9) := ⟨_, rfl⟩
  obtain ⟨wa0, hW7⟩ : ∃ W, W = W6.alloc (.cells #[.int .i64 0] 3) := ⟨_, rfl⟩
  have s5 : W5.heap.size = B + 1 := by rw [hW5, hB]; simp
  have s6 : W6.heap.size = B + 2 := by rw [hW6]; simp [s5]
  have s7 : wa0.heap.size = B + 3 := by rw [hW7]; simp [s6]
  have b5 : Below w3.heap.size w3 W5 := by rw [hW5]; exact (Below.refl _ w3).alloc (Nat.le_refl _) _
  have b6 : Below W5.heap.size W5 W6 := by rw [hW6]; exact (Below.refl _ W5).alloc (Nat.le_refl _) _
  have b7 : Below W6.heap.size W6 wa0 := by rw [hW7]; exact (Below.refl _ W6).alloc (Nat.le_refl _) _
  have k5 : W5.heap[B]? = some (.cells #[.slice la N lc] 23 (0, 0)) := by rw [hW5, hB]; exact alloc_blk_new _ _
  have k6 : W6.heap[B + 1]? = some (.cells #[.string s] 9 (0, 0)) := by rw [hW6, ← s5]; exact alloc_blk_new _ _
  have k7 : wa0.heap[B + 2]? = some (.cells #[.int .i64 0] 3 (0, 0)) := by rw [hW7, ← s6]; exact alloc_blk_new _ _
  have bw3 : Below Wb.heap.size Wb w3 := HBC.out.trans (hb3.mono HBC.out.size)
  have bw7 : Below w3.heap.size w3 wa0 := (b5.trans (b6.mono b5.size)).trans (b7.mono (Nat.le_trans b5.size b6.size))
  have bwb : Below Wb.heap.size Wb wa0 := bw3.trans (bw7.mono bw3.size)
  have hlo : w.heap.size + 1 < B := by have := SB.out; omega
  have EV0 : Hid (Ev w s many la N lc B (allP (nums s)) wa0) := Lib.hid ⟨(bwb.block _ (blk_lt KA.out)).trans KA.out, (bwb.block _ (blk_lt KB.out)).trans KB.out, (b7.block _ (by omega)).trans ((b6.block _ (by omega)).trans k5), (b7.block _ (by omega)).trans k6,
    (row_ons hrow).below bw7, fun b e => by have := (hrow.lt b (by rw [e]; rfl)).2; omega, hlo, BB.out.trans (bwb.mono BB.out.size)⟩
  have TK0 := Lib.hid k7
  obtain ⟨tb0, htb0⟩ : ∃ t, t = B + 2 := ⟨_, rfl⟩
  have E5 := Lib.hid hW5
  have E6 := Lib.hid hW6
  have E7 := Lib.hid hW7
  have EBB := Lib.hid hB
  have S5 := Lib.hid s5
  have S6 := Lib.hid s6
  have HT0 := Lib.hid htb0
  have htB0 : B + 1 < tb0 := by omega
  rw [← htb0] at TK0
  clear hrow hb3 hsz3 hszc hW5 hW6 hW7 hB s5 s6 s7 b5 b6 b7 k5 k6 k7 bw3 bw7 bwb hlo htb0 HAll
  go_upto_region 4 with fail
  rw [← EBB.out, ← E5.out]
  go_wp2_with (go_at_call 10; fail)
  refine (HEach.out W5).mono ?_
  rintro e w' ⟨rfl, rfl⟩
  rw [← E6.out, S5.out]
  go_wp2_with fail
  rw [← E7.out, S6.out, ← HT0.out]
  clear HEach
  have HTB := Lib.hid htB0
  refine wp_loop_rounds 3 ?_
  rw [rounds_succ]
  have htc := cell_blk TK0.out 0 (.int .i64 0) rfl
  have htf := frozen_blk TK0.out 0
  have htl := blk_lt TK0.out
  go_upto_block 2 with fail
  clear htc htf htl
  obtain ⟨nb0, hnb⟩ : ∃ B, B = wa0.heap.size := ⟨_, rfl⟩
  obtain ⟨wn0, hwn⟩ : ∃ W, W = wa0.alloc (.cells #[.int .i64 0] 3) := ⟨_, rfl⟩
  have hbN : Below wa0.heap.size wa0 wn0 := by rw [hwn]; exact (Below.refl _ wa0).alloc (Nat.le_refl _) _
  have hkN : wn0.heap[nb0]? = some (.cells #[.int .i64 0] 3 (0, 0)) := by rw [hwn, hnb]; exact alloc_blk_new _ _
  have hsN : wn0.heap.size = nb0 + 1 := by rw [hwn, hnb]; simp
  rw [← hnb, ← hwn]
  have hnl0 : nb0 < wn0.heap.size := blk_lt hkN
  have htn0 : tb0 < nb0 := by rw [hnb]; exact blk_lt TK0.out
  have TN0 := Lib.hid ((hbN.block tb0 (blk_lt TK0.out)).trans TK0.out)
  have EN0 := Lib.hid (EV0.out.bel hbN)
  have HSeq0 := Lib.hid (Each1_held 5 (by omega) (B + 1) w.heap.size (fun _ => False) s (by omega) wn0 EN0.out.lt (fun k hk => hk.elim) EN0.out.below.size (cell_blk EN0.out.bs 0 _ rfl))
  have HR0 : Hid (Rg 0 many wn0 nb0 (allP (nums s)) (fun _ => False) [] wn0) := Lib.hid ⟨⟨List.nil_prefix, fun k hk => hk.elim, Mod.refl _ _, hkN, hnl0⟩, fun _ => .inl rfl⟩
  have HSN0 := Lib.hid hsN
  clear hnb hwn hbN hkN hsN TK0 EV0
  refine range_cut (fun D W => wn0.heap.size ≤ D ∧ W.heap[D]? = some (.deferred (some [])) ∧ ∃ c : Nat, Cnt 0 N many c ∧ W.heap[nb0]? = some (.cells #[.int .i64 c] 3 (0, 0)) ∧ Mod (fun k => k = nb0) wn0 W) ?first0 ?rest0
  case first0 =>
    go_wp2_with fail
    refine (wpIn_wide (n := 6)).1 ?_
    refine' wpIn_range_held (F := Fence.wide) rfl (by omega) (gf := 27) (lb := #[.pointer (some ⟨B + 1, 0, none⟩)]) rfl trivial (enters_of Try.func27 (by kernel_rfl) rfl) (H0 := fun _ => False) (fun k hk => hk.elim) (n₀ := w.heap.size) EN0.out.below.size
      HSeq0.out (fun _ => rfl) (Rg 0 many wn0 nb0 (allP (nums s))) (Rx 0 many wn0 nb0 2 (allP (nums s))) (Rg.steady _ _ _ _ _) (fun c => Rx.steady _ _ _ _ _ _ c) HR0.out _ ?assign ?body ?done ?stop
    case assign =>
      intro l x W K hK
      gi_wp2
      exact hK
    case done =>
      rintro D H ys W hD hHD rfl hI hKd
      obtain ⟨c, h1, h2, h3⟩ := hI.whole (by omega)
      rw [HNL.out] at h1
      exact ⟨rfl, D, rfl, hD, hKd, c, h1, h2, h3⟩
    case stop =>
      rintro D H c pre W hD hHD hSp hIx hKd
      obtain ⟨rfl, c, h1, h2, h3⟩ := hIx.part hSp
      rw [HNL.out] at h1
      refine wpIn_exit ?_
      exact ⟨rfl, D, rfl, hD, hKd, c, h1, h2, h3⟩
    case body =>
      rintro l H pre ⟨xa, xp⟩ V hR hHl hlt
      have hmd := hR.1.md
      have hENl := EN0.out.lt
      have hENo := EN0.out.lo
      have cn := cell_blk hR.1.n 0 _ rfl
      have fn := frozen_blk hR.1.n 0
      have nl := blk_lt hR.1.n
      have HnB : Hid (B + 1 < nb0) := Lib.hid (by omega)
      have hE := EN0.out.mod hmd (fun k e => by have := HnB.out; omega)
      have c0 := cell_blk hE.b0 0 _ rfl
      have l0 := blk_lt hE.b0
      have c1 := cell_blk hE.b1 0 _ rfl
      have f1 := frozen_blk hE.b1 0
      have l1 := blk_lt hE.b1
      have c5 := cell_blk hE.b5 0 _ rfl
      have l5 := blk_lt hE.b5
      have kt := (hmd.block tb0 (blk_lt TN0.out) (by omega)).trans TN0.out
      have ct := cell_blk kt 0 _ rfl
      have lt := blk_lt kt
      rw [HNL.out] at hlt
      obtain ⟨g, rfl, hgl, hgc⟩ := hE.ons.2 (by omega)
      obtain ⟨g0, g1⟩ := hgc pre.length hlt
      have hmore := prefix_more _ pre (xa, xp) hR.1.pf
      have hget : (allP (nums s))[pre.length]? = some ((allP (nums s)).getD pre.length (0, 0)) := by
        have : pre.length < (allP (nums s)).length := by rw [HNL.out]; exact hlt
        simp [List.getD, this]
      rw [hget] at hmore
      obtain ⟨ya, hya⟩ : ∃ ya : Nat, ya = ((allP (nums s)).getD pre.length (0, 0)).1 := ⟨_, rfl⟩
      obtain ⟨yp, hyp⟩ : ∃ yp : Int, yp = ((allP (nums s)).getD pre.length (0, 0)).2 := ⟨_, rfl⟩
      have hmore2 : (pre ++ [(xa, xp)] <+: allP (nums s)) ↔ (ya = xa ∧ yp = xp) := by
        rw [hmore, hya, hyp]
        constructor
        · intro e
          injection e with e
          rw [e]
          exact ⟨rfl, rfl⟩
        · rintro ⟨rfl, rfl⟩
          rfl
      rw [← hya] at g0
      rw [← hyp] at g1
      obtain ⟨pl, hpl⟩ : ∃ pl, pl = pre.length := ⟨_, rfl⟩
      rw [← hpl] at cn g0 g1 hlt
      have hpl3 : pl ≤ 1000 := by have := HN300.out; omega
      have HPL := Lib.hid hpl
      have HR := Lib.hid hR
      have HMore := Lib.hid hmore2
      have HwB : Hid (w.heap.size ≤ nb0) := Lib.hid (by omega)
      have hwn : w.heap.size + 1 < wn0.heap.size := by omega
      have hwnb : w.heap.size < nb0 := by omega
      have HWN := Lib.hid hwn
      have n1 : decide ((N : Int) ≤ pl) = false := by simp; omega
      have n2 : decide (N ≤ pl) = false := by simp; omega
      have n3 : (pl : Int) < N := by omega
      have hgV := hgl
      clear hmd hENl hENo hE kt hmore hget hya hyp hmore2 hpl hR hgc hHl hgl hwn
      obtain ⟨za, hza⟩ : ∃ za : Int, za = (xa : Int) := ⟨_, rfl⟩
      have HZ := Lib.hid hza
      dsimp only
      simp only [← hza]
      obtain ⟨zy, hzy⟩ : ∃ zy : Int, zy = (ya : Int) := ⟨_, rfl⟩
      have HZY := Lib.hid hzy
      rw [← hzy] at g0
      clear hza hzy
      by_cases e1 : zy = za
      case neg =>
        have d1 : (zy == za) = false := by simpa using e1
        clear e1
        gi_wp2
        have hd : zy ≠ za := by simpa using d1
        exact ⟨HR.out.1.kp HWN.out _, .inl ⟨rfl, by rw [HMore.out]; have := HZ.out; have := HZY.out; omega⟩⟩
      by_cases e2 : yp = xp
      case neg =>
        have d2 : (yp == xp) = false := by simpa using e2
        clear e2
        subst e1
        gi_wp2
        have hd : yp ≠ xp := by simpa using d2
        exact ⟨HR.out.1.kp HWN.out _, .inl ⟨rfl, by rw [HMore.out]; exact fun h => hd h.2⟩⟩
      have hp := Lib.hid (HMore.out.2 ⟨by have := HZ.out; have := HZY.out; omega, e2⟩)
      subst e1 e2
      by_cases hmy : many ≤ (pl : Int) + 1
      · have dm : decide (many ≤ (pl : Int) + 1) = true := by simpa using hmy
        have HM := Lib.hid hmy
        clear hmy
        gi_wp2
        obtain ⟨h1, h2⟩ := HR.out.1.more hp.out (k := (pl : Int) + 1) (by rw [HPL.out])
        exact ⟨h1, .inr ⟨rfl, rfl, by rw [List.length_append, List.length_singleton, ← HPL.out]; have := HM.out; omega, by rw [List.length_append, List.length_singleton]; have := HR.out.2 rfl; omega, by simp, h2⟩⟩
      · have dm : decide (many ≤ (pl : Int) + 1) = false := by simpa using hmy
        have HM := Lib.hid hmy
        clear hmy
        gi_wp2
        obtain ⟨h1, h2⟩ := HR.out.1.more hp.out (k := (pl : Int) + 1) (by rw [HPL.out])
        exact ⟨h1, (Below.refl _ V).setCell (p := ⟨nb0, 0, none⟩) HwB.out _, h2, fun _ => .inr (by rw [List.length_append, List.length_singleton, ← HPL.out]; have := HM.out; omega)⟩
  case rest0 =>
    rintro D0 W0 ⟨hD, hKd, kc0, hcnt, hn, hmd⟩
    have hDw0 : w.heap.size ≤ D0 := by have := EN0.out.below.size; omega
    have hENl := EN0.out.lt
    have hENo := EN0.out.lo
    have hE := EN0.out.mod hmd (fun k e => by omega)
    have EW0 := Lib.hid hE
    have cn := cell_blk hn 0 _ rfl
    have nl := blk_lt hn
    have c0 := cell_blk hE.b0 0 _ rfl
    have l0 := blk_lt hE.b0
    have c5 := cell_blk hE.b5 0 _ rfl
    have l5 := blk_lt hE.b5
    have kt := (hmd.block tb0 (blk_lt TN0.out) (by omega)).trans TN0.out
    have ct := cell_blk kt 0 _ rfl
    have lt := blk_lt kt
    have DW0 := Lib.hid hKd
    have hDl := blk_lt hKd
    have TW0 := Lib.hid kt
    obtain ⟨M, hM⟩ : ∃ M : Int, (if 1 < many then many else 1) = M := ⟨_, rfl⟩
    obtain ⟨R, hR⟩ : ∃ R : Int, (if M < (N : Int) then M else (N : Int)) = R := ⟨_, rfl⟩
    have hcc : (kc0 : Int) = R := by have := hcnt.c0 rfl; rw [← hR, ← hM]; omega
    have d1 : ((kc0 : Int) != R) = false := by simp [hcc]
    clear hcc
    clear hKd hn hmd hENl hENo hE kt hcnt EN0 TN0 HSeq0 HR0
    go_upto_region 20 with fail
    obtain ⟨tb1, htb⟩ : ∃ B, B = W0.heap.size := ⟨_, rfl⟩
    obtain ⟨wx0, hwx⟩ : ∃ W, W = W0.alloc (.cells #[.int .i64 0] 3) := ⟨_, rfl⟩
    have hbx : Below W0.heap.size W0 wx0 := by rw [hwx]; exact (Below.refl _ W0).alloc (Nat.le_refl _) _
    have hkx : wx0.heap[tb1]? = some (.cells #[.int .i64 0] 3 (0, 0)) := by rw [hwx, htb]; exact alloc_blk_new _ _
    obtain ⟨wa1, hwy⟩ : ∃ W, W = wx0.setCell ⟨tb1, 0, none⟩ (.int .i64 1) := ⟨_, rfl⟩
    have hmy : Mod (fun k => k = tb1) wx0 wa1 := by rw [hwy]; exact (Mod.refl (fun k => k = tb1) wx0).setCell ⟨tb1, 0, none⟩ (.inl rfl) _
    have hky : wa1.heap[tb1]? = some (.cells #[.int .i64 1] 3 (0, 0)) := by rw [hwy]; exact setCell_blk hkx 0 _
    have hmw : Mod (fun k => k = tb1) W0 wa1 := (Mod.of_below hbx _).trans hmy (fun _ _ e => e)
    have hEWl := EW0.out.lt
    have EV1 := Lib.hid (EW0.out.mod hmw (fun k e => by omega))
    have TK1 := Lib.hid hky
    have DK0 := Lib.hid ((hmw.block D0 hDl (by omega)).trans DW0.out)

    have hbt1' : B + 1 < tb1 := by omega
    have hcx := cell_blk hkx 0 (.int .i64 0) rfl
    have hfx := frozen_blk hkx 0
    have hlx := blk_lt hkx
    have EX := Lib.hid hwx
    have EY := Lib.hid hwy
    have ETB := Lib.hid htb
    clear hbx hkx hwx hwy hmy hky hmw hEWl htb hDl
    go_upto_region 9 with fail
    rw [← ETB.out, ← EX.out]
    go_wp2_with fail
    rw [← EY.out]
    clear hcx hfx hlx EX EY ETB EW0 DW0 TW0 c0 l0 c5 l5 ct lt cn nl d1
    rw [rounds_succ]
    have htc := cell_blk TK1.out 0 (.int .i64 1) rfl
    have htf := frozen_blk TK1.out 0
    have htl := blk_lt TK1.out
    go_upto_block 2 with fail
    clear htc htf htl
    obtain ⟨nb1, hnb⟩ : ∃ B, B = wa1.heap.size := ⟨_, rfl⟩
    obtain ⟨wn1, hwn⟩ : ∃ W, W = wa1.alloc (.cells #[.int .i64 0] 3) := ⟨_, rfl⟩
    have hbN : Below wa1.heap.size wa1 wn1 := by rw [hwn]; exact (Below.refl _ wa1).alloc (Nat.le_refl _) _
    have hkN : wn1.heap[nb1]? = some (.cells #[.int .i64 0] 3 (0, 0)) := by rw [hwn, hnb]; exact alloc_blk_new _ _
    have hsN : wn1.heap.size = nb1 + 1 := by rw [hwn, hnb]; simp
    rw [← hnb, ← hwn]
    have hnl1 : nb1 < wn1.heap.size := blk_lt hkN
    have htn1 : tb1 < nb1 := by rw [hnb]; exact blk_lt TK1.out
    have TN1 := Lib.hid ((hbN.block tb1 (blk_lt TK1.out)).trans TK1.out)
    have EN1 := Lib.hid (EV1.out.bel hbN)
    have HSeq1 := Lib.hid (Each1_held 5 (by omega) (B + 1) w.heap.size (fun _ => False) s (by omega) wn1 EN1.out.lt (fun k hk => hk.elim) EN1.out.below.size (cell_blk EN1.out.bs 0 _ rfl))
    have HR1 : Hid (Rg 1 many wn1 nb1 (allP (nums s)) (fun _ => False) [] wn1) := Lib.hid ⟨⟨List.nil_prefix, fun k hk => hk.elim, Mod.refl _ _, hkN, hnl1⟩, fun _ => .inl rfl⟩
    have DN0 := Lib.hid ((hbN.block D0 (blk_lt DK0.out)).trans DK0.out)
    have hD0n : D0 < nb1 := by rw [hnb]; exact blk_lt DK0.out
    have HSN1 := Lib.hid hsN
    clear hnb hwn hbN hkN hsN TK1 EV1
    refine range_cut (fun D W => wn1.heap.size ≤ D ∧ W.heap[D]? = some (.deferred (some [])) ∧ ∃ c : Nat, Cnt 1 N many c ∧ W.heap[nb1]? = some (.cells #[.int .i64 c] 3 (0, 0)) ∧ Mod (fun k => k = nb1) wn1 W) ?first1 ?rest1
    case first1 =>
      go_wp2_with fail
      refine (wpIn_wide (n := 6)).1 ?_
      refine' wpIn_range_held (F := Fence.wide) rfl (by omega) (gf := 27) (lb := #[.pointer (some ⟨B + 1, 0, none⟩)]) rfl trivial (enters_of Try.func27 (by kernel_rfl) rfl) (H0 := fun _ => False) (fun k hk => hk.elim) (n₀ := w.heap.size) EN1.out.below.size
        HSeq1.out (fun _ => rfl) (Rg 1 many wn1 nb1 (allP (nums s))) (Rx 1 many wn1 nb1 2 (allP (nums s))) (Rg.steady _ _ _ _ _) (fun c => Rx.steady _ _ _ _ _ _ c) HR1.out _ ?assign ?body ?done ?stop
      case assign =>
        intro l x W K hK
        gi_wp2
        exact hK
      case done =>
        rintro D H ys W hD hHD rfl hI hKd
        obtain ⟨c, h1, h2, h3⟩ := hI.whole (by omega)
        rw [HNL.out] at h1
        exact ⟨rfl, D, rfl, hD, hKd, c, h1, h2, h3⟩
      case stop =>
        rintro D H c pre W hD hHD hSp hIx hKd
        obtain ⟨rfl, c, h1, h2, h3⟩ := hIx.part hSp
        rw [HNL.out] at h1
        refine wpIn_exit ?_
        exact ⟨rfl, D, rfl, hD, hKd, c, h1, h2, h3⟩
      case body =>
        rintro l H pre ⟨xa, xp⟩ V hR hHl hlt
        have hmd := hR.1.md
        have hENl := EN1.out.lt
        have hENo := EN1.out.lo
        have cn := cell_blk hR.1.n 0 _ rfl
        have fn := frozen_blk hR.1.n 0
        have nl := blk_lt hR.1.n
        have HnB : Hid (B + 1 < nb1) := Lib.hid (by omega)
        have hE := EN1.out.mod hmd (fun k e => by have := HnB.out; omega)
        have c0 := cell_blk hE.b0 0 _ rfl
        have l0 := blk_lt hE.b0
        have c1 := cell_blk hE.b1 0 _ rfl
        have f1 := frozen_blk hE.b1 0
        have l1 := blk_lt hE.b1
        have c5 := cell_blk hE.b5 0 _ rfl
        have l5 := blk_lt hE.b5
        have kt := (hmd.block tb1 (blk_lt TN1.out) (by omega)).trans TN1.out
        have ct := cell_blk kt 0 _ rfl
        have lt := blk_lt kt
        rw [HNL.out] at hlt
        obtain ⟨g, rfl, hgl, hgc⟩ := hE.ons.2 (by omega)
        obtain ⟨g0, g1⟩ := hgc pre.length hlt
        have hmore := prefix_more _ pre (xa, xp) hR.1.pf
        have hget : (allP (nums s))[pre.length]? = some ((allP (nums s)).getD pre.length (0, 0)) := by
          have : pre.length < (allP (nums s)).length := by rw [HNL.out]; exact hlt
          simp [List.getD, this]
        rw [hget] at hmore
        obtain ⟨ya, hya⟩ : ∃ ya : Nat, ya = ((allP (nums s)).getD pre.length (0, 0)).1 := ⟨_, rfl⟩
        obtain ⟨yp, hyp⟩ : ∃ yp : Int, yp = ((allP (nums s)).getD pre.length (0, 0)).2 := ⟨_, rfl⟩
        have hmore2 : (pre ++ [(xa, xp)] <+: allP (nums s)) ↔ (ya = xa ∧ yp = xp) := by
          rw [hmore, hya, hyp]
          constructor
          · intro e
            injection e with e
            rw [e]
            exact ⟨rfl, rfl⟩
          · rintro ⟨rfl, rfl⟩
            rfl
        rw [← hya] at g0
        rw [← hyp] at g1
        obtain ⟨pl, hpl⟩ : ∃ pl, pl = pre.length := ⟨_, rfl⟩
        rw [← hpl] at cn g0 g1 hlt
        have hpl3 : pl ≤ 1000 := by have := HN300.out; omega
        have HPL := Lib.hid hpl
        have HR := Lib.hid hR
        have HMore := Lib.hid hmore2
        have HwB : Hid (w.heap.size ≤ nb1) := Lib.hid (by omega)
        have hwn : w.heap.size + 1 < wn1.heap.size := by omega
        have hwnb : w.heap.size < nb1 := by omega
        have HWN := Lib.hid hwn
        have n1 : decide ((N : Int) ≤ pl) = false := by simp; omega
        have n2 : decide (N ≤ pl) = false := by simp; omega
        have n3 : (pl : Int) < N := by omega
        have hgV := hgl
        clear hmd hENl hENo hE kt hmore hget hya hyp hmore2 hpl hR hgc hHl hgl hwn
        obtain ⟨za, hza⟩ : ∃ za : Int, za = (xa : Int) := ⟨_, rfl⟩
        have HZ := Lib.hid hza
        dsimp only
        simp only [← hza]
        obtain ⟨zy, hzy⟩ : ∃ zy : Int, zy = (ya : Int) := ⟨_, rfl⟩
        have HZY := Lib.hid hzy
        rw [← hzy] at g0
        clear hza hzy
        by_cases e1 : zy = za
        case neg =>
          have d1 : (zy == za) = false := by simpa using e1
          clear e1
          gi_wp2
          have hd : zy ≠ za := by simpa using d1
          exact ⟨HR.out.1.kp HWN.out _, .inl ⟨rfl, by rw [HMore.out]; have := HZ.out; have := HZY.out; omega⟩⟩
        by_cases e2 : yp = xp
        case neg =>
          have d2 : (yp == xp) = false := by simpa using e2
          clear e2
          subst e1
          gi_wp2
          have hd : yp ≠ xp := by simpa using d2
          exact ⟨HR.out.1.kp HWN.out _, .inl ⟨rfl, by rw [HMore.out]; exact fun h => hd h.2⟩⟩
        have hp := Lib.hid (HMore.out.2 ⟨by have := HZ.out; have := HZY.out; omega, e2⟩)
        subst e1 e2
        gi_wp2
        obtain ⟨h1, h2⟩ := HR.out.1.more hp.out (k := (pl : Int) + 1) (by rw [HPL.out])
        exact ⟨h1, (Below.refl _ V).setCell (p := ⟨nb1, 0, none⟩) HwB.out _, h2, fun e => by omega⟩
    case rest1 =>
      rintro D1 W1 ⟨hD, hKd, kc1, hcnt, hn, hmd⟩
      have hDw1 : w.heap.size ≤ D1 := by have := EN1.out.below.size; omega
      have hENl := EN1.out.lt
      have hENo := EN1.out.lo
      have hE := EN1.out.mod hmd (fun k e => by omega)
      have EW1 := Lib.hid hE
      have cn := cell_blk hn 0 _ rfl
      have nl := blk_lt hn
      have c0 := cell_blk hE.b0 0 _ rfl
      have l0 := blk_lt hE.b0
      have c5 := cell_blk hE.b5 0 _ rfl
      have l5 := blk_lt hE.b5
      have kt := (hmd.block tb1 (blk_lt TN1.out) (by omega)).trans TN1.out
      have ct := cell_blk kt 0 _ rfl
      have lt := blk_lt kt
      have DW1 := Lib.hid hKd
      have hDl := blk_lt hKd
      have TW1 := Lib.hid kt
      have DW10 := Lib.hid ((hmd.block D0 (blk_lt DN0.out) (by omega)).trans DN0.out)
      have hcc := hcnt.c1 rfl
      have d1 : ((kc1 : Int) != (N : Int)) = false := by simp [hcc]
      have d2 : (kc1 != N) = false := by simp [hcc]
      clear hcc
      clear hKd hn hmd hENl hENo hE kt hcnt EN1 TN1 HSeq1 HR1
      go_upto_region 20 with fail
      obtain ⟨tb2, htb⟩ : ∃ B, B = W1.heap.size := ⟨_, rfl⟩
      obtain ⟨wx1, hwx⟩ : ∃ W, W = W1.alloc (.cells #[.int .i64 1] 3) := ⟨_, rfl⟩
      have hbx : Below W1.heap.size W1 wx1 := by rw [hwx]; exact (Below.refl _ W1).alloc (Nat.le_refl _) _
      have hkx : wx1.heap[tb2]? = some (.cells #[.int .i64 1] 3 (0, 0)) := by rw [hwx, htb]; exact alloc_blk_new _ _
      obtain ⟨wa2, hwy⟩ : ∃ W, W = wx1.setCell ⟨tb2, 0, none⟩ (.int .i64 2) := ⟨_, rfl⟩
      have hmy : Mod (fun k => k = tb2) wx1 wa2 := by rw [hwy]; exact (Mod.refl (fun k => k = tb2) wx1).setCell ⟨tb2, 0, none⟩ (.inl rfl) _
      have hky : wa2.heap[tb2]? = some (.cells #[.int .i64 2] 3 (0, 0)) := by rw [hwy]; exact setCell_blk hkx 0 _
      have hmw : Mod (fun k => k = tb2) W1 wa2 := (Mod.of_below hbx _).trans hmy (fun _ _ e => e)
      have hEWl := EW1.out.lt
      have EV2 := Lib.hid (EW1.out.mod hmw (fun k e => by omega))
      have TK2 := Lib.hid hky
      have DK1 := Lib.hid ((hmw.block D1 hDl (by omega)).trans DW1.out)
      have DK10 := Lib.hid ((hmw.block D0 (blk_lt DW10.out) (by have := blk_lt DW10.out; omega)).trans DW10.out)
      have hbt2' : B + 1 < tb2 := by omega
      have hcx := cell_blk hkx 0 (.int .i64 1) rfl
      have hfx := frozen_blk hkx 0
      have hlx := blk_lt hkx
      have EX := Lib.hid hwx
      have EY := Lib.hid hwy
      have ETB := Lib.hid htb
      clear hbx hkx hwx hwy hmy hky hmw hEWl htb hDl
      go_upto_region 9 with fail
      rw [← ETB.out, ← EX.out]
      go_wp2_with fail
      rw [← EY.out]
      clear hcx hfx hlx EX EY ETB EW1 DW1 TW1 c0 l0 c5 l5 ct lt cn nl d1
      rw [rounds_succ]
      have htc := cell_blk TK2.out 0 (.int .i64 2) rfl
      have htf := frozen_blk TK2.out 0
      have htl := blk_lt TK2.out
      go_wp2_with (go_at_call 8; fail)
      refine (HWk.out _).mono ?_
      rintro e wz ⟨rfl, hb⟩
      have EZ := Lib.hid (EV2.out.bel hb)
      have DZ1 := Lib.hid ((hb.block D1 (blk_lt DK1.out)).trans DK1.out)
      have DZ0 := Lib.hid ((hb.block D0 (blk_lt DK10.out)).trans DK10.out)
      have c1 := cell_blk EZ.out.b1 0 _ rfl
      have f1 := frozen_blk EZ.out.b1 0
      have l1 := blk_lt EZ.out.b1
      have hne1 : D1 ≠ w.heap.size + 1 := fun e => by
        have h1 := DZ1.out
        rw [e, EZ.out.b1] at h1
        cases h1
      have hne0 : D0 ≠ w.heap.size + 1 := fun e => by
        have h1 := DZ0.out
        rw [e, EZ.out.b1] at h1
        cases h1
      have hne : D0 ≠ D1 := by omega
      have HN1 := Lib.hid hne1
      have HN0 := Lib.hid hne0
      have HNN := Lib.hid hne
      clear hb htc htf htl hne1 hne0 hne EV2 DK1 DK10 TK2
      go_wp2_with fail
      have hk1 := (setCell_blk_ne (w := wz) (a := ⟨w.heap.size + 1, 0, none⟩) HN1.out (.bool true)).trans DZ1.out
      have hk0 : ((wz.setCell ⟨w.heap.size + 1, 0, none⟩ (.bool true)).putObj D1 (.deferred none)).heap[D0]? = some (.deferred (some [])) := (World.putObj_heap_other (w := wz.setCell ⟨w.heap.size + 1, 0, none⟩ (.bool true)) HNN.out).trans ((setCell_blk_ne (w := wz) (a := ⟨w.heap.size + 1, 0, none⟩) HN0.out (.bool true)).trans DZ0.out)
      refine ⟨by simp, .inl ⟨_, _, rfl, run_takeDeferred hk1, ⟨by simp, .inl ⟨_, _, rfl, run_takeDeferred hk0, ?_⟩⟩⟩⟩
      have hk2 : (((wz.setCell ⟨w.heap.size + 1, 0, none⟩ (.bool true)).putObj D1 (.deferred none)).putObj D0 (.deferred none)).cell? ⟨w.heap.size + 1, 0, none⟩ = some (.bool true) :=
        cell_blk ((World.putObj_heap_other (fun e => HN0.out e.symm)).trans ((World.putObj_heap_other (fun e => HN1.out e.symm)).trans (setCell_blk EZ.out.b1 0 (.bool true)))) 0 _ rfl
      refine ⟨.bool true, ?_, rfl, (((EZ.out.below.setCell (p := ⟨w.heap.size + 1, 0, none⟩) (by simp) _).trans (below_put (by omega))).trans (below_put (by omega)))⟩
      simp [results, Try.f3, go_sem, hk2]
end Go.Proofs.Ytplpgjcdoodmlaa
