/-
  WindowShares, walked: lengths that may be: till the iterator is there.
-/
import Derived.Test.YtagdenhcbafblaaSf
import Derived.Deep.CutBlock
namespace Go.Proofs.Ytagdenhcbafblaa
open Go.RowKit Go.Shelf
set_option linter.unusedVariables false
set_option linter.unusedSimpArgs false
attribute [local go_sem] Oper.semAt_some
attribute [local go_sem] run_eql_func49

theorem New_ex (w : World) : Calls Try.prog 8 #[] w fun e w' => ∃ p, w.heap.size ≤ p ∧ e = .returned (.pointer (some ⟨p, 0, none⟩)) ∧ Wi w' p 0 0 false ∧ Below w.heap.size w w' :=
  (New_wi w).mono fun e w' ⟨he, hr, hb⟩ => ⟨_, Nat.le_refl _, he, hr, hb⟩

theorem Arg.cells {w : World} {ao : Option Addr} {n : Nat} {zs : List Int} (h : Arg w ao n zs) (hz : zs.length = n) : ∀ ad, ao = some ad → ∀ j u, (zs.map (Value.int .i64))[j]? = some u → w.cell? (ad.add j) = some u := by
  rintro ad rfl j u hj
  by_cases hn : 0 < n
  · obtain ⟨b, off, e, hb, hc⟩ := h.2 hn
    cases e
    have hj1 := (List.getElem?_eq_some_iff.1 hj).1
    have hj' : j < n := by rw [List.length_map] at hj1; omega
    have hz : zs[j]? = some (zs.getD j 0) := by
      have : j < zs.length := by omega
      simp [List.getD, this]
    rw [List.getElem?_map, hz] at hj
    cases hj
    rw [show (⟨b, off, none⟩ : Addr).add j = ⟨b, off + j, none⟩ from WideShapes.add_plain b off j]
    exact hc j hj'
  · have : n = 0 := by omega
    subst this
    have : zs = [] := List.eq_nil_of_length_eq_zero hz
    subst this
    simp at hj

set_option maxHeartbeats 6400000 in
set_option maxRecDepth 100000 in
theorem shares_in (many what m d : Int) (ao : Option Addr) (n cap : Nat) (zs : List (Int × Int × Int)) (bo : Option Addr) (k bcap : Nat) (ds : List Int) (w : World) (hn : n ≤ 20) (hk : k ≤ 30) (hm : m ≤ 9223372036854775807) (hd : 0 ≤ d) (ha : Acts w ao n zs) (hds : Arg w bo k ds) (hdl : ds.length = k) (hds2 : ∀ j, j < k → ds.getD j 0 ≤ 9223372036854775807) (hbo : bo = none → k = 0 ∧ bcap = 0) :
    Calls Try.prog 5 (sargs many what m d ao n cap bo k bcap) w (Yes w) := by
  obtain ⟨i0, hi0, hz0, hz1, hz2⟩ := info_parts Try.info3
  unfold sargs
  have HNum := Lib.hid num_any
  have HW := Lib.hid works_true
  have HC0 := Lib.hid (Cm.start w many what m d)
  have t1 : decide (20 < n) = false := by simp; omega
  have t2 : decide ((20 : Int) < n) = false := by simp; omega
  have t3 : decide (30 < k) = false := by simp; omega
  have t4 : decide ((30 : Int) < k) = false := by simp; omega
  have HA := Lib.hid ha
  have HDS := Lib.hid hds
  have HDL := Lib.hid hdl
  have HD2 := Lib.hid hds2
  have HBO := Lib.hid hbo
  have HM := Lib.hid hm
  have HD := Lib.hid hd
  unfold cmStart at HC0
  clear ha hds hbo hdl hds2 hm hd
  refine (callsIn_wide (n := 5)).1 ?_
  refine callsIn_of_wp_marks Try.func5 rfl trivial ?_ rfl
  simp only [Try.ntmps5, List.size_toArray, List.length_cons, List.length_nil, Nat.reduceAdd, Nat.reduceSub, Array.replicate_succ, Array.replicate_zero, List.push_toArray, List.append_toArray, List.nil_append, List.cons_append]
  refine wpIn_wide.2 ?_
  go_wp2_with fail
  refine (New_ex _).mono ?_
  rintro e w3 ⟨p, hp, rfl, hr, hb⟩
  have hpw : w.heap.size + 3 ≤ p := by have := HC0.out.lt; omega
  have hbA := (Below.refl _ w3).alloc (Nat.le_refl _) (.cells #[.int .u64 0, .int .u64 0, .bool false] 39)
  have A4 := Lib.hid ((HC0.out.bel hb).bel hbA)
  have R4 := Lib.hid (hr.below hbA)
  have K4 := Lib.hid (alloc_blk_new w3 (.cells #[.int .u64 0, .int .u64 0, .bool false] 39))
  have hpb : p < w3.heap.size := hr.lt
  obtain ⟨q, hq⟩ : ∃ q, q = w3.heap.size := ⟨_, rfl⟩
  have HQ := Lib.hid hq
  clear hb hbA hr hp hq HC0
  go_wp2_with fail
  rw [← HQ.out] at K4 hpb ⊢
  go_loopg [9, 11] n (fun gk v9 v11 wr => ∃ i : Nat, ∃ pi : Nat, ∃ l g : Int, ∃ s : Bool, v9 = .pointer (some ⟨pi, 0, none⟩) ∧ v11 = .int .i64 i ∧ i ≤ n ∧ gk = n - i ∧ w.heap.size + 3 ≤ pi ∧ pi ≠ q ∧ w.heap.size + 3 ≤ q ∧ Wi wr pi l g s ∧ Cm w many what m d wr ∧ wr.heap[q]? = some (.cells #[.int .u64 l, .int .u64 g, .bool s] 39 (0, 0)))
  case atStart => exact ⟨0, p, 0, 0, false, rfl, rfl, by omega, rfl, by omega, by omega, by omega, R4.out, A4.out, K4.out⟩
  case round =>
    obtain ⟨i, pi, l, g, s, rfl, rfl, hin, hgk, g1, g2, g3, hr, hA, hK⟩ := hrel
    have HG := Lib.hid hgk
    have R := Lib.hid hr
    have A := Lib.hid hA
    have K := Lib.hid hK
    clear hgk hr hA hK A4 R4 K4
    by_cases hlt : i < n
    · obtain ⟨b, off, rfl, hbw, hcz⟩ := HA.out.2 (by omega)
      obtain ⟨wh, hwh⟩ : ∃ x, x = (zs.getD i (0, 0, 0)).1 := ⟨_, rfl⟩
      obtain ⟨mm, hmm⟩ : ∃ x, x = (zs.getD i (0, 0, 0)).2.1 := ⟨_, rfl⟩
      obtain ⟨dd, hdd⟩ : ∃ x, x = (zs.getD i (0, 0, 0)).2.2 := ⟨_, rfl⟩
      obtain ⟨z1, z2, z3, z4, z5⟩ := hcz i hlt
      rw [← hwh] at z1
      rw [← hmm] at z2 z4
      rw [← hdd] at z3 z5
      have y1 := (A.out.below.cell (p := ⟨b, off + i * 3, none⟩) hbw).trans z1
      have y2 := (A.out.below.cell (p := ⟨b, off + i * 3 + 1, none⟩) hbw).trans z2
      have y3 := (A.out.below.cell (p := ⟨b, off + i * 3 + 2, none⟩) hbw).trans z3
      obtain ⟨l0, l1, l2, f0, f1, f2⟩ := three K.out
      have hlq := blk_lt K.out
      have hsz := A.out.lt
      have hpi := R.out.lt
      have hbr : b < wr.heap.size := by omega
      have HAct := Lib.hid (act_any pi l g wh mm dd s wr.drew (R.out.drewN 1) z5 z4)
      clear hcz z1 z2 z3 z4 z5 hwh hmm hdd
      go_upto_region 7 with fail
      refine wp_region_noPanic ?_
      go_region_with (go_at_call 15; refine HAct.out.mono ?_; rintro e w5 ⟨l', g', s', p', rfl, hr5, hm5, hp5⟩; have tt := (hm5.block q hlq (by show ¬ q = pi; omega)).trans K.out; obtain ⟨m0, m1, m2, n0, n1, n2⟩ := three tt; have TT := Lib.hid tt; have R5 := Lib.hid hr5; have M5 := Lib.hid hm5; have P5 := Lib.hid hp5; clear hr5 hm5 hp5 tt)
      all_goals
        refine NoPanic.normal ?_
        go_wp2_with fail
        obtain ⟨s1, s2⟩ := set3 TT.out (.int .u64 l') (.int .u64 g') (.bool s')
        have P6 : p' = pi ∨ wr.heap.size ≤ p' := P5.out
        have hA5 := A.out.mod (S := fun q => q = pi) (W' := w5) ⟨M5.out.os, M5.out.tape, M5.out.output, M5.out.size, fun k hk hn => M5.out.block k hk hn⟩ (fun k hk e => by omega)
        go_roundg (n - (i + 1))
        case measure => have := HG.out; omega
        case rel => exact ⟨i + 1, p', l', g', s', rfl, by go_num, by omega, rfl, by omega, by omega, g3, R5.out.mod s2 (by show ¬ p' = q; omega), hA5.mod s2 (fun k hk e => by omega), s1⟩
    · obtain rfl : i = n := by omega
      have hlw := R.out.lt
      have hlq := blk_lt K.out
      have hlA := A.out.lt
      have hbw : Below w.heap.size w wr := A.out.below
      have HDW := Lib.hid ((HDS.out.below hbw).below ((Below.refl _ wr).alloc (Nat.le_refl _) (.cells #[] 3)))
      have HRW : Hid ((wr.alloc (.cells #[] 3)).ownsRow wr.heap.size 3 1 (.slice (some ⟨wr.heap.size, 0, none⟩) 0 0) 0 []) := Lib.hid (World.ownsRow_lit wr #[] 0 (Nat.le_refl _) (by simp) rfl)
      have hls : wr.heap.size ≤ (wr.alloc (.cells #[] 3)).heap.size := by simp
      have HLS := Lib.hid hls
      have HLM : Hid ((ds.map (Value.int .i64)).length = k * 1) := Lib.hid (by have := HDL.out; simp; omega)
      clear hbw hls
      go_wp2_with (at_builtin; refine wpList_append_f _ rfl (.tmp 53) (.tmp 54) 22 rfl wr.heap.size 3 i0 (.int .i64 0) 1 8 Try.underlying22 hi0 hz0 hz1 hz2 rfl (by decide) _ _ _ rfl HRW.out bo k bcap (ds.map (Value.int .i64)) rfl HLM.out HBO.out (HDW.out.cells HDL.out) ?c2 ?c3 ?c4 HLS.out ?_)
      case c2 => intro u hu; obtain ⟨z, _, rfl⟩ := List.mem_map.1 hu; rfl
      case c3 => unfold maxLen; omega
      case c4 => omega
      intro v' w5 hown hg hf _
      have hg2 : (wr.alloc (.cells #[] 3)).grownBy w5 (some wr.heap.size) := hg
      have hb5 : Below wr.heap.size wr w5 := ((Below.refl _ wr).alloc (Nat.le_refl _) (.cells #[] 3)).grown hg2 HLS.out (fun k e => by cases e; exact Nat.le_refl _)
      obtain ⟨ga, gcap, rfl⟩ := row_slice hown
      have hown2 : w5.ownsRow wr.heap.size 3 1 (.slice ga k gcap) k (ds.map (Value.int .i64)) := by simpa using hown
      have R5 := Lib.hid (R.out.below hb5)
      have A5 := Lib.hid (A.out.bel hb5)
      have K5 := Lib.hid ((hb5.block q hlq).trans K.out)
      have G5 := Lib.hid (Arg.row hown2)
      obtain ⟨k', ls, er, hk', hls, hSh, hRf⟩ := share_both l g s k ds (by omega) R5.out.l0 R5.out.l1 HD2.out
      have HSh := Lib.hid hSh
      have HRf := Lib.hid hRf
      have HLs := Lib.hid hls
      have hs5 : wr.heap.size ≤ w5.heap.size := hb5.size
      clear hown hg hf hg2 hb5 hown2 R A K HDW HRW HLS HG HLM hSh hRf hls
      go_wp2_with (go_at_call 14; fail)
      refine (HSh.out pi ga gcap w5 R5.out G5.out).mono ?_
      rintro e w6 ⟨ao1, cap1, rfl, hs1, hb6⟩
      have R6 := Lib.hid (R5.out.below hb6)
      have A6 := Lib.hid (A5.out.bel hb6)
      have K6 := Lib.hid ((hb6.block q (blk_lt K5.out)).trans K5.out)
      have G6 := Lib.hid (G5.out.below hb6)
      have S6 := Lib.hid hs1
      have hs6 := hb6.size
      have R7lt := Lib.hid (show pi < w6.heap.size from R6.out.lt)
      clear hb6 hs1 R5 A5 K5 G5
      obtain ⟨l0, l1, l2, f0, f1, f2⟩ := three K6.out
      have hlq6 := blk_lt K6.out
      go_wp2_with (go_at_call 17; fail)
      refine (HRf.out bo bcap w6 (HDS.out.below A6.out.below)).mono ?_
      rintro e w7 ⟨ao2, cap2, rfl, hs2, hb7⟩
      have R7 := Lib.hid (R6.out.below hb7)
      have A7 := Lib.hid (A6.out.bel hb7)
      have K7 := Lib.hid ((hb7.block q (blk_lt K6.out)).trans K6.out)
      have G7 := Lib.hid (G6.out.below hb7)
      have S7 := Lib.hid (S6.out.below hb7)
      have T7 := Lib.hid hs2
      have hs7 := hb7.size
      clear hb7 hs2 R6 A6 K6 G6 S6 l0 l1 l2 f0 f1 f2
      go_wp2_with (go_at_call 18; fail)
      refine (Shares_of pi k gcap k' ga ls er w7 (HSh.out pi ga gcap w7 R7.out G7.out)).mono ?_
      rintro e w8 ⟨Bq, ao3, cap3, hB, rfl, hcB, hBl, hs3, hlt3, hb8⟩
      have R8 := Lib.hid (R7.out.below hb8)
      have A8 := Lib.hid (A7.out.bel hb8)
      have K8 := Lib.hid ((hb8.block q (blk_lt K7.out)).trans K7.out)
      have G8 := Lib.hid (G7.out.below hb8)
      have S8 := Lib.hid (S7.out.below hb8)
      have T8 := Lib.hid (T7.out.below hb8)
      have U8 := Lib.hid hs3
      have SC8 := Lib.hid hcB
      have HL3 := Lib.hid hlt3
      have hs8 := hb8.size
      clear hb8 hs3 hcB hlt3 R7 A7 K7 G7 S7 T7
      go_wp2_with (go_at_call 19; fail)
      refine (Ints_same ao1 ao2 k' cap1 cap2 ls w8 S8.out.arg T8.out.arg (by omega)).mono ?_
      rintro e w9' ⟨rfl, m9, hw9⟩
      have R9 := Lib.hid (R8.out.drewN m9)
      have A9 : Hid (Cm w many what m d (w8.drewN m9)) := Lib.hid ⟨A8.out.mm, A8.out.x, A8.out.r, ⟨A8.out.below.os, A8.out.below.tape, A8.out.below.output, A8.out.below.size, A8.out.below.block⟩⟩
      have K9 : Hid ((w8.drewN m9).heap[q]? = some (.cells #[.int .u64 l, .int .u64 g, .bool s] 39 (0, 0))) := Lib.hid K8.out
      have G9 : Hid (Arg (w8.drewN m9) ga k ds) := Lib.hid G8.out
      have T9 : Hid (IsS (w8.drewN m9) w6.heap.size ao2 k' ls) := Lib.hid T8.out
      have U9 : Hid (IsS (w8.drewN m9) w7.heap.size ao3 k' ls) := Lib.hid U8.out
      have SC9 : Hid ((w8.drewN m9).cell? ⟨Bq, 0, none⟩ = some (.slice ao3 k' cap3)) := Lib.hid SC8.out
      obtain ⟨w9, he9⟩ : ∃ W, W = w8.drewN m9 := ⟨_, rfl⟩
      have hs9 : w9.heap.size = w8.heap.size := by rw [he9]; rfl
      rw [← he9] at R9 A9 K9 G9 T9 U9 SC9
      obtain rfl : w9' = w9 := hw9.trans he9.symm
      clear R8 A8 K8 G8 S8 T8 U8 SC8 hw9 he9
      go_wp2_with (first | (go_at_call 10; refine (HNum.out _ _).mono ?_; rintro e w' ⟨rfl, rfl⟩) | (go_at_call 19; fail))
      refine (Ints_same ga bo k gcap bcap ds w9' G9.out (HDS.out.below A9.out.below) (by omega)).mono ?_
      rintro e wa' ⟨rfl, ma, hwa⟩
      have R10 := Lib.hid (R9.out.drewN ma)
      have A10 : Hid (Cm w many what m d (w9'.drewN ma)) := Lib.hid ⟨A9.out.mm, A9.out.x, A9.out.r, ⟨A9.out.below.os, A9.out.below.tape, A9.out.below.output, A9.out.below.size, A9.out.below.block⟩⟩
      have K10 : Hid ((w9'.drewN ma).heap[q]? = some (.cells #[.int .u64 l, .int .u64 g, .bool s] 39 (0, 0))) := Lib.hid K9.out
      have T10 : Hid (IsS (w9'.drewN ma) w6.heap.size ao2 k' ls) := Lib.hid T9.out
      have U10 : Hid (IsS (w9'.drewN ma) w7.heap.size ao3 k' ls) := Lib.hid U9.out
      have SC10 : Hid ((w9'.drewN ma).cell? ⟨Bq, 0, none⟩ = some (.slice ao3 k' cap3)) := Lib.hid SC9.out
      obtain ⟨wa, hea⟩ : ∃ W, W = w9'.drewN ma := ⟨_, rfl⟩
      have hsa : wa.heap.size = w9'.heap.size := by rw [hea]; rfl
      rw [← hea] at R10 A10 K10 T10 U10 SC10
      obtain rfl : wa' = wa := hwa.trans hea.symm
      clear R9 A9 K9 G9 T9 U9 SC9 hwa hea
      obtain ⟨l0, l1, l2, f0, f1, f2⟩ := three K10.out
      have hlq10 := blk_lt K10.out
      go_wp2_with (go_at_call 16; fail)
      refine (is_wi pi l g s _ R10.out).mono ?_
      rintro e wb ⟨rfl, hbb⟩
      have R11 := Lib.hid (R10.out.below hbb)
      have A11 := Lib.hid (A10.out.bel hbb)
      have K11 := Lib.hid ((hbb.block q (blk_lt K10.out)).trans K10.out)
      have T11 := Lib.hid (T10.out.below hbb)
      have U11 := Lib.hid (U10.out.below hbb)
      have SC11 := Lib.hid ((hbb.cell (p := ⟨Bq, 0, none⟩) (World.block_lt_of_cell? _ _ SC10.out)).trans SC10.out)
      have hsb := hbb.size
      clear hbb R10 A10 K10 T10 U10 SC10 l0 l1 l2 f0 f1 f2
      obtain ⟨l0, l1, l2, f0, f1, f2⟩ := three K11.out
      have hlq11 := blk_lt K11.out
      obtain ⟨c0, ⟨c1, c2, c3⟩, c4, f4⟩ := A11.out.cells
      have HAct := Lib.hid (act_any pi l g what m d s wb R11.out HD.out HM.out)
      go_wp2_with (go_at_call 15; fail)
      refine HAct.out.mono ?_
      rintro e wc ⟨l', g', s', p', rfl, _, hmc, _⟩
      have hpi11 := R11.out.lt
      have hpi7 := R7lt.out
      have A12 := Lib.hid (A11.out.mod hmc (fun k hk e => by omega))
      have T12 := Lib.hid (T11.out.mod hmc (fun k h1 h2 e => by have := e; omega))
      have U12 := Lib.hid (U11.out.mod hmc (fun k h1 h2 e => by have := e; omega))
      have hBlt11 := World.block_lt_of_cell? _ _ SC11.out
      have SC12 := Lib.hid ((hmc.cell (p := ⟨Bq, 0, none⟩) hBlt11 (by show ¬ Bq = pi; omega)).trans SC11.out)
      have hsc := hmc.size
      clear hmc HAct R11 A11 K11 T11 U11 SC11 l0 l1 l2 f0 f1 f2 c0 c1 c2 c3 c4 f4
      go_wp2_with fail
      obtain ⟨bA, hbA⟩ : ∃ B, B = wc.heap.size := ⟨_, rfl⟩
      have T0 := Tw.start wc
      rw [← hbA] at T0 ⊢
      have hlA12 := A12.out.lt
      have hBq12 := World.block_lt_of_cell? _ _ SC12.out
      have hTl : 0 < k' → ∃ x, ao2 = some ⟨x, 0, none⟩ ∧ x < bA ∧ ∀ j, j < k' → wc.cell? ⟨x, 0 + j, none⟩ = some (.int .i64 (ls[j]?.getD 0)) := fun hp => by
        obtain ⟨x, e, _, hl, hc⟩ := T12.out.2 hp
        exact ⟨x, e, by omega, hc⟩
      have HTl := Lib.hid hTl
      have HT0 := Lib.hid T0
      have HbA := Lib.hid hbA
      clear hTl T0 hbA
      go_loopg [20] k' (fun gk v20 wr => ∃ j : Nat, v20 = .int .i64 j ∧ j ≤ k' ∧ gk = k' - j ∧ ∃ va vs, Tw wc bA wr va vs va vs (some_ ls j).length ((some_ ls j).map fun x => .int .i64 (x.1 : Int)) (some_ ls j).length ((some_ ls j).map fun x => .int .i64 x.2))
      case atStart => exact ⟨0, rfl, by omega, rfl, _, _, HT0.out⟩
      case round =>
        obtain ⟨j, rfl, hj, hgk2, va, vs, hT⟩ := hrel
        have HG2 := Lib.hid hgk2
        have HT := Lib.hid hT
        clear hgk2 hT HT0
        by_cases hlt : j < k'
        · obtain ⟨x, rfl, hx, hcz⟩ := HTl.out (by omega)
          obtain ⟨z, hz⟩ : ∃ z, ls[j]?.getD 0 = z := ⟨_, rfl⟩
          have hc0 := hcz j hlt
          rw [hz] at hc0
          have HCW := Lib.hid (by rw [Nat.zero_add] at hc0; exact hc0)
          have hc1 := (HT.out.below.cell (p := ⟨x, 0 + j, none⟩) hx).trans hc0
          rw [Nat.zero_add] at hc1
          have hTlt := HT.out.lt
          have hxl : x < wr.heap.size := by omega
          have HZ := Lib.hid hz
          have hjk : (j : Int) < k' := by omega
          clear hcz hc0 hz
          by_cases hp : 0 < z
          · have hd : decide (0 < z) = true := by simpa using hp
            obtain ⟨c1, c2, f1, f2⟩ := HT.out.cells
            go_wp2_with fail
            refine wp_region_noPanic ?_
            refine wp_region_K 11 (fun W => W.cell? ⟨bA, 0, none⟩ = some va ∧ W.cell? ⟨bA + 1, 0, none⟩ = some vs ∧ W.cell? ⟨x, j, none⟩ = some (.int .i64 z)) (by kernel_rfl) ?_
            have T00 := HT.out.drew
            obtain ⟨wd, hwd⟩ : ∃ W, W = wr.drew := ⟨_, rfl⟩
            rw [← hwd] at T00 ⊢
            have hS0 : wd.cell? ⟨bA, 0, none⟩ = some va ∧ wd.cell? ⟨bA + 1, 0, none⟩ = some vs ∧ wd.cell? ⟨x, j, none⟩ = some (.int .i64 z) := T00.S hx HCW.out
            have hTld := T00.lt
            have hxld : x < wd.heap.size := by omega
            clear hwd c1 c2 f1 f2 hc1
            refine wpAnyK_take (i := 0) (oi := { dst := some 112, op := Op.load 22 (Operand.tmp 18), type := 22, pos := "law.go:92", after := #[], guard := none }) (v := va) rfl (by kernel_rfl) (by kernel_rfl) (by kernel_rfl) [] (by kernel_rfl) (by decide) (by kernel_rfl) (by kernel_rfl) (fun _ _ _ h => h) hS0 (.inl ⟨by rfl, fun W hW => ?_⟩) ?_
            · obtain ⟨q1, q2, q3⟩ := hW
              go_simp
            simp only [Act.put, List.setIfInBounds_toArray, List.set_cons_zero, List.set_cons_succ]
            refine wpAnyK_take (i := 1) (oi := { dst := some 113, op := Op.move (Operand.tmp 20), type := 3, pos := "law.go:92", after := #[], guard := none }) (v := .int .i64 j) rfl (by kernel_rfl) (by kernel_rfl) (by kernel_rfl) [] (by kernel_rfl) (by decide) (by kernel_rfl) (by kernel_rfl) (fun _ _ _ h => h) hS0 (.inl ⟨by rfl, fun W hW => ?_⟩) ?_
            · obtain ⟨q1, q2, q3⟩ := hW
              go_simp
            simp only [Act.put, List.setIfInBounds_toArray, List.set_cons_zero, List.set_cons_succ]
            refine wpAnyK_take (i := 4) (oi := { dst := some 116, op := Op.load 22 (Operand.tmp 19), type := 22, pos := "law.go:92", after := #[], guard := none }) (v := vs) rfl (by kernel_rfl) (by kernel_rfl) (by kernel_rfl) [10] (by kernel_rfl) (by decide) (by kernel_rfl) (by kernel_rfl) (fun _ _ _ h => h) hS0 (.inl ⟨by rfl, fun W hW => ?_⟩) ?_
            · obtain ⟨q1, q2, q3⟩ := hW
              go_simp
            simp only [Act.put, List.setIfInBounds_toArray, List.set_cons_zero, List.set_cons_succ]
            refine wpAnyK_take (i := 5) (oi := { dst := some 117, op := Op.move (Operand.tmp 15), type := 22, pos := "law.go:92", after := #[], guard := none }) (v := .slice (some ⟨x, 0, none⟩) k' cap2) rfl (by kernel_rfl) (by kernel_rfl) (by kernel_rfl) [10, 9, 8, 7] (by kernel_rfl) (by decide) (by kernel_rfl) (by kernel_rfl) (fun _ _ _ h => h) hS0 (.inl ⟨by rfl, fun W hW => ?_⟩) ?_
            · obtain ⟨q1, q2, q3⟩ := hW
              go_simp
            simp only [Act.put, List.setIfInBounds_toArray, List.set_cons_zero, List.set_cons_succ]
            refine wpAnyK_take (i := 6) (oi := { dst := some 118, op := Op.move (Operand.tmp 20), type := 3, pos := "law.go:92", after := #[], guard := none }) (v := .int .i64 j) rfl (by kernel_rfl) (by kernel_rfl) (by kernel_rfl) [10, 9, 8, 7] (by kernel_rfl) (by decide) (by kernel_rfl) (by kernel_rfl) (fun _ _ _ h => h) hS0 (.inl ⟨by rfl, fun W hW => ?_⟩) ?_
            · obtain ⟨q1, q2, q3⟩ := hW
              go_simp
            simp only [Act.put, List.setIfInBounds_toArray, List.set_cons_zero, List.set_cons_succ]
            refine wpAnyK_take (i := 7) (oi := { dst := some 119, op := Op.indexAddr 22 (Operand.tmp 117) (Operand.tmp 118), type := 0, pos := "law.go:92", after := #[{ on := 5, ground := Ground.data }, { on := 6, ground := Ground.data }], guard := none }) (v := .pointer (some ⟨x, j, none⟩)) rfl (by kernel_rfl) (by kernel_rfl) (by kernel_rfl) [10, 9, 8] (by kernel_rfl) (by decide) (by kernel_rfl) (by kernel_rfl) (fun _ _ _ h => h) hS0 (.inl ⟨by rfl, fun W hW => ?_⟩) ?_
            · obtain ⟨q1, q2, q3⟩ := hW
              go_simp
            simp only [Act.put, List.setIfInBounds_toArray, List.set_cons_zero, List.set_cons_succ]
            refine wpAnyK_take (i := 8) (oi := { dst := some 120, op := Op.load 3 (Operand.tmp 119), type := 3, pos := "law.go:92", after := #[{ on := 7, ground := Ground.data }], guard := none }) (v := .int .i64 z) rfl (by kernel_rfl) (by kernel_rfl) (by kernel_rfl) [10, 9] (by kernel_rfl) (by decide) (by kernel_rfl) (by kernel_rfl) (fun _ _ _ h => h) hS0 (.inl ⟨by rfl, fun W hW => ?_⟩) ?_
            · obtain ⟨q1, q2, q3⟩ := hW
              go_simp
            simp only [Act.put, List.setIfInBounds_toArray, List.set_cons_zero, List.set_cons_succ]
            have HFIN : Hid (∀ (W : World) (va' vs' : Value), Tw wc bA W va vs va' vs' ((some_ ls j).length + 1) ((some_ ls j).map (fun x => .int .i64 (x.1 : Int)) ++ [.int .i64 j]) ((some_ ls j).length + 1) ((some_ ls j).map (fun x => .int .i64 x.2) ++ [.int .i64 z]) →
                Tw wc bA ((W.setCell ⟨bA, 0, none⟩ va').setCell ⟨bA + 1, 0, none⟩ vs') va' vs' va' vs' (some_ ls (j + 1)).length ((some_ ls (j + 1)).map fun x => .int .i64 (x.1 : Int)) (some_ ls (j + 1)).length ((some_ ls (j + 1)).map fun x => .int .i64 x.2)) := Lib.hid (fun W va' vs' h => by
              rw [some_pairs HZ.out hp]
              have := h.set va' vs' (by rw [HbA.out]; exact Nat.le_refl _)
              simpa using this)
            have hsl := some_len ls j
            obtain ⟨N0, hN0⟩ : ∃ N, N = (some_ ls j).length := ⟨_, rfl⟩
            refine wpAnyK_ready (rs := [2, 9]) (by kernel_rfl) (by simp) ?_
            refine AllReadyK.cons (o := { dst := some 114, op := Op.buildSlice 22 1 #[(0, Operand.tmp 113)], type := 22, pos := "law.go:92", after := #[{ on := 1, ground := Ground.data }], guard := none }) rfl (fun K hK => ?_) (AllReadyK.cons (o := { dst := some 121, op := Op.buildSlice 22 1 #[(0, Operand.tmp 120)], type := 22, pos := "law.go:92", after := #[{ on := 8, ground := Ground.data }], guard := none }) rfl (fun K hK => ?_) (AllReadyK.nil))
            · have T1 := T00.alloc (.cells #[.int .i64 j] 3)
              have N1 := blkNew wd (.cells #[.int .i64 j] 3) (wd.heap.size) (by simp)
              go_simp
              refine hK.out _ _ (fun _ => T1.S hx HCW.out) ?_
              clear hK K
              try simp only [Act.put, List.setIfInBounds_toArray, List.set_cons_zero, List.set_cons_succ]
              refine wpAnyK_ready (rs := [3, 9]) (by kernel_rfl) (by simp) ?_
              refine AllReadyK.cons rfl (fun K hK => ?_) (AllReadyK.cons (o := { dst := some 121, op := Op.buildSlice 22 1 #[(0, Operand.tmp 120)], type := 22, pos := "law.go:92", after := #[{ on := 8, ground := Ground.data }], guard := none }) rfl (fun K hK => ?_) (AllReadyK.nil))
              · have hlz2 := T1.lt
                refine step_append_f rfl (.tmp 112) (.tmp 114) 22 rfl (bA + 2) 3 i0 (.int .i64 0) 1 8 Try.underlying22 hi0 hz0 hz1 hz2 rfl (by decide) va _ _ (by rfl) T1.rowA (some ⟨wd.heap.size, 0, none⟩) 1 1 [.int .i64 j] (by rfl) rfl (fun h => by cases h) (news_one N1) (fun u hu => by simp at hu; subst hu; rfl) (by unfold maxLen; omega) (by omega) (by omega) ?_
                intro v2 w2 hown2 hg2 hf2
                obtain ⟨a2, e2, rfl⟩ := row_slice hown2
                have T2 := T1.appA hg2 hown2 hf2
                refine hK.out _ _ (fun _ => T2.S hx HCW.out) ?_
                clear hK K
                try simp only [Act.put, List.setIfInBounds_toArray, List.set_cons_zero, List.set_cons_succ]
                refine wpAnyK_ready (rs := [9]) (by kernel_rfl) (by simp) ?_
                refine AllReadyK.cons (o := { dst := some 121, op := Op.buildSlice 22 1 #[(0, Operand.tmp 120)], type := 22, pos := "law.go:92", after := #[{ on := 8, ground := Ground.data }], guard := none }) rfl (fun K hK => ?_) (AllReadyK.nil)
                have T3 := T2.alloc (.cells #[.int .i64 z] 3)
                have N3 := blkNew w2 (.cells #[.int .i64 z] 3) (w2.heap.size) (by simp)
                have N1b := alloc_blk N1 (.cells #[.int .i64 z] 3)
                go_simp
                refine hK.out _ _ (fun _ => T3.S hx HCW.out) ?_
                clear hK K
                try simp only [Act.put, List.setIfInBounds_toArray, List.set_cons_zero, List.set_cons_succ]
                refine wpAnyK_ready (rs := [10]) (by kernel_rfl) (by simp) ?_
                refine AllReadyK.cons rfl (fun K hK => ?_) (AllReadyK.nil)
                have hlz4 := T3.lt
                refine step_append_f rfl (.tmp 116) (.tmp 121) 22 rfl (bA + 2) 3 i0 (.int .i64 0) 1 8 Try.underlying22 hi0 hz0 hz1 hz2 rfl (by decide) vs _ _ (by rfl) T3.rowS (some ⟨w2.heap.size, 0, none⟩) 1 1 [.int .i64 z] (by rfl) rfl (fun h => by cases h) (news_one N3) (fun u hu => by simp at hu; subst hu; rfl) (by unfold maxLen; omega) (by omega) (by omega) ?_
                intro v4 w4 hown4 hg4 hf4
                obtain ⟨a4, e4, rfl⟩ := row_slice hown4
                have T4 := T3.appS hg4 hown4 hf4
                refine hK.out _ _ (fun _ => T4.S hx HCW.out) ?_
                clear hK K
                try simp only [Act.put, List.setIfInBounds_toArray, List.set_cons_zero, List.set_cons_succ]
                refine wpAnyK_ready (rs := [11]) (by kernel_rfl) (by simp) ?_
                refine AllReadyK.cons rfl (fun K hK => ?_) (AllReadyK.nil)
                obtain ⟨d1, d2, d3, d4⟩ := T4.cells
                have dl := T4.lt
                go_simp
                refine hK.out _ _ (fun h => absurd (show true = false from h) (by decide)) ?_
                clear hK K
                try simp only [Act.put, List.setIfInBounds_toArray, List.set_cons_zero, List.set_cons_succ]
                refine wpAnyK_ready (rs := [12]) (by kernel_rfl) (by simp) ?_
                refine AllReadyK.cons rfl (fun K hK => ?_) (AllReadyK.nil)
                go_simp
                refine hK.out _ _ (fun h => absurd (show true = false from h) (by decide)) ?_
                clear hK K
                try simp only [Act.put, List.setIfInBounds_toArray, List.set_cons_zero, List.set_cons_succ]
                refine wpAnyK_done (by kernel_rfl) ?_ _
                refine NoPanic.normal ?_
                have TF := HFIN.out _ _ _ T4
                clear T4
                go_wp2_with fail
                go_roundg (k' - (j + 1))
                case measure => have := HG2.out; omega
                case rel => exact ⟨j + 1, by go_num, by omega, rfl, _, _, TF⟩
              · have T7 := T1.alloc (.cells #[.int .i64 z] 3)
                have N7 := blkNew (wd.alloc (.cells #[.int .i64 j] 3)) (.cells #[.int .i64 z] 3) (wd.heap.size + 1) (by simp)
                have N1b := alloc_blk N1 (.cells #[.int .i64 z] 3)
                go_simp
                refine hK.out _ _ (fun _ => T7.S hx HCW.out) ?_
                clear hK K
                try simp only [Act.put, List.setIfInBounds_toArray, List.set_cons_zero, List.set_cons_succ]
                refine wpAnyK_ready (rs := [3]) (by kernel_rfl) (by simp) ?_
                refine AllReadyK.cons rfl (fun K hK => ?_) (AllReadyK.nil)
                have hlz8 := T7.lt
                refine step_append_f rfl (.tmp 112) (.tmp 114) 22 rfl (bA + 2) 3 i0 (.int .i64 0) 1 8 Try.underlying22 hi0 hz0 hz1 hz2 rfl (by decide) va _ _ (by rfl) T7.rowA (some ⟨wd.heap.size, 0, none⟩) 1 1 [.int .i64 j] (by rfl) rfl (fun h => by cases h) (news_one N1b) (fun u hu => by simp at hu; subst hu; rfl) (by unfold maxLen; omega) (by omega) (by omega) ?_
                intro v8 w8 hown8 hg8 hf8
                obtain ⟨a8, e8, rfl⟩ := row_slice hown8
                have T8 := T7.appA hg8 hown8 hf8
                have N7c := blkGrown N7 hg8 (fun e => by have := (T00.rowA.lt _ e).2; omega)
                refine hK.out _ _ (fun _ => T8.S hx HCW.out) ?_
                clear hK K
                try simp only [Act.put, List.setIfInBounds_toArray, List.set_cons_zero, List.set_cons_succ]
                refine wpAnyK_ready (rs := [10]) (by kernel_rfl) (by simp) ?_
                refine AllReadyK.cons rfl (fun K hK => ?_) (AllReadyK.nil)
                have hlz9 := T8.lt
                refine step_append_f rfl (.tmp 116) (.tmp 121) 22 rfl (bA + 2) 3 i0 (.int .i64 0) 1 8 Try.underlying22 hi0 hz0 hz1 hz2 rfl (by decide) vs _ _ (by rfl) T8.rowS (some ⟨wd.heap.size + 1, 0, none⟩) 1 1 [.int .i64 z] (by rfl) rfl (fun h => by cases h) (news_one N7c) (fun u hu => by simp at hu; subst hu; rfl) (by unfold maxLen; omega) (by omega) (by omega) ?_
                intro v9 w9 hown9 hg9 hf9
                obtain ⟨a9, e9, rfl⟩ := row_slice hown9
                have T9 := T8.appS hg9 hown9 hf9
                refine hK.out _ _ (fun _ => T9.S hx HCW.out) ?_
                clear hK K
                try simp only [Act.put, List.setIfInBounds_toArray, List.set_cons_zero, List.set_cons_succ]
                refine wpAnyK_ready (rs := [11]) (by kernel_rfl) (by simp) ?_
                refine AllReadyK.cons rfl (fun K hK => ?_) (AllReadyK.nil)
                obtain ⟨d1, d2, d3, d4⟩ := T9.cells
                have dl := T9.lt
                go_simp
                refine hK.out _ _ (fun h => absurd (show true = false from h) (by decide)) ?_
                clear hK K
                try simp only [Act.put, List.setIfInBounds_toArray, List.set_cons_zero, List.set_cons_succ]
                refine wpAnyK_ready (rs := [12]) (by kernel_rfl) (by simp) ?_
                refine AllReadyK.cons rfl (fun K hK => ?_) (AllReadyK.nil)
                go_simp
                refine hK.out _ _ (fun h => absurd (show true = false from h) (by decide)) ?_
                clear hK K
                try simp only [Act.put, List.setIfInBounds_toArray, List.set_cons_zero, List.set_cons_succ]
                refine wpAnyK_done (by kernel_rfl) ?_ _
                refine NoPanic.normal ?_
                have TF := HFIN.out _ _ _ T9
                clear T9
                go_wp2_with fail
                go_roundg (k' - (j + 1))
                case measure => have := HG2.out; omega
                case rel => exact ⟨j + 1, by go_num, by omega, rfl, _, _, TF⟩
            · have T12 := T00.alloc (.cells #[.int .i64 z] 3)
              have N12 := blkNew wd (.cells #[.int .i64 z] 3) (wd.heap.size) (by simp)
              go_simp
              refine hK.out _ _ (fun _ => T12.S hx HCW.out) ?_
              clear hK K
              try simp only [Act.put, List.setIfInBounds_toArray, List.set_cons_zero, List.set_cons_succ]
              refine wpAnyK_ready (rs := [2]) (by kernel_rfl) (by simp) ?_
              refine AllReadyK.cons (o := { dst := some 114, op := Op.buildSlice 22 1 #[(0, Operand.tmp 113)], type := 22, pos := "law.go:92", after := #[{ on := 1, ground := Ground.data }], guard := none }) rfl (fun K hK => ?_) (AllReadyK.nil)
              have T13 := T12.alloc (.cells #[.int .i64 j] 3)
              have N13 := blkNew (wd.alloc (.cells #[.int .i64 z] 3)) (.cells #[.int .i64 j] 3) (wd.heap.size + 1) (by simp)
              have N12b := alloc_blk N12 (.cells #[.int .i64 j] 3)
              go_simp
              refine hK.out _ _ (fun _ => T13.S hx HCW.out) ?_
              clear hK K
              try simp only [Act.put, List.setIfInBounds_toArray, List.set_cons_zero, List.set_cons_succ]
              refine wpAnyK_ready (rs := [3]) (by kernel_rfl) (by simp) ?_
              refine AllReadyK.cons rfl (fun K hK => ?_) (AllReadyK.nil)
              have hlz14 := T13.lt
              refine step_append_f rfl (.tmp 112) (.tmp 114) 22 rfl (bA + 2) 3 i0 (.int .i64 0) 1 8 Try.underlying22 hi0 hz0 hz1 hz2 rfl (by decide) va _ _ (by rfl) T13.rowA (some ⟨wd.heap.size + 1, 0, none⟩) 1 1 [.int .i64 j] (by rfl) rfl (fun h => by cases h) (news_one N13) (fun u hu => by simp at hu; subst hu; rfl) (by unfold maxLen; omega) (by omega) (by omega) ?_
              intro v14 w14 hown14 hg14 hf14
              obtain ⟨a14, e14, rfl⟩ := row_slice hown14
              have T14 := T13.appA hg14 hown14 hf14
              have N12bc := blkGrown N12b hg14 (fun e => by have := (T00.rowA.lt _ e).2; omega)
              refine hK.out _ _ (fun _ => T14.S hx HCW.out) ?_
              clear hK K
              try simp only [Act.put, List.setIfInBounds_toArray, List.set_cons_zero, List.set_cons_succ]
              refine wpAnyK_ready (rs := [10]) (by kernel_rfl) (by simp) ?_
              refine AllReadyK.cons rfl (fun K hK => ?_) (AllReadyK.nil)
              have hlz15 := T14.lt
              refine step_append_f rfl (.tmp 116) (.tmp 121) 22 rfl (bA + 2) 3 i0 (.int .i64 0) 1 8 Try.underlying22 hi0 hz0 hz1 hz2 rfl (by decide) vs _ _ (by rfl) T14.rowS (some ⟨wd.heap.size, 0, none⟩) 1 1 [.int .i64 z] (by rfl) rfl (fun h => by cases h) (news_one N12bc) (fun u hu => by simp at hu; subst hu; rfl) (by unfold maxLen; omega) (by omega) (by omega) ?_
              intro v15 w15 hown15 hg15 hf15
              obtain ⟨a15, e15, rfl⟩ := row_slice hown15
              have T15 := T14.appS hg15 hown15 hf15
              refine hK.out _ _ (fun _ => T15.S hx HCW.out) ?_
              clear hK K
              try simp only [Act.put, List.setIfInBounds_toArray, List.set_cons_zero, List.set_cons_succ]
              refine wpAnyK_ready (rs := [11]) (by kernel_rfl) (by simp) ?_
              refine AllReadyK.cons rfl (fun K hK => ?_) (AllReadyK.nil)
              obtain ⟨d1, d2, d3, d4⟩ := T15.cells
              have dl := T15.lt
              go_simp
              refine hK.out _ _ (fun h => absurd (show true = false from h) (by decide)) ?_
              clear hK K
              try simp only [Act.put, List.setIfInBounds_toArray, List.set_cons_zero, List.set_cons_succ]
              refine wpAnyK_ready (rs := [12]) (by kernel_rfl) (by simp) ?_
              refine AllReadyK.cons rfl (fun K hK => ?_) (AllReadyK.nil)
              go_simp
              refine hK.out _ _ (fun h => absurd (show true = false from h) (by decide)) ?_
              clear hK K
              try simp only [Act.put, List.setIfInBounds_toArray, List.set_cons_zero, List.set_cons_succ]
              refine wpAnyK_done (by kernel_rfl) ?_ _
              refine NoPanic.normal ?_
              have TF := HFIN.out _ _ _ T15
              clear T15
              go_wp2_with fail
              go_roundg (k' - (j + 1))
              case measure => have := HG2.out; omega
              case rel => exact ⟨j + 1, by go_num, by omega, rfl, _, _, TF⟩
          · have hd : decide (0 < z) = false := by simpa using hp
            have hs := some_succ_zero ls j (by rw [HZ.out]; exact hp)
            have HS := Lib.hid hs
            clear hs
            go_wp2_with fail
            go_roundg (k' - (j + 1))
            case measure => have := HG2.out; omega
            case rel => exact ⟨j + 1, by go_num, by omega, rfl, va, vs, by rw [HS.out]; exact HT.out⟩
        · obtain rfl : k' = j := by omega
          have T1 := HT.out
          have hbA2 := HbA.out
          obtain ⟨T, hTd⟩ : ∃ T, T = some_ ls k' := ⟨_, rfl⟩
          rw [← hTd] at T1
          rw [hbA2] at T1
          have hn' : T.length ≤ k' := by rw [hTd]; exact some_len ls k'
          obtain ⟨xa, xs, ca, cs, hva, hvs, hS⟩ := Shr.start A12.out SC12.out (World.block_lt_of_cell? _ _ SC12.out) U12.out hTd T1
          rw [← hbA2] at hS
          subst hva hvs
          obtain ⟨n', hnn⟩ : ∃ n', n' = T.length := ⟨_, rfl⟩
          rw [← hnn] at hS hn'
          have HNN := Lib.hid hnn
          have HTD := Lib.hid hTd
          have S0 := Lib.hid hS
          obtain ⟨lim, hlim⟩ : ∃ l, l = wr.heap.size := ⟨_, rfl⟩
          rw [← hlim] at S0
          have hlw : lim ≤ wr.heap.size := by omega
          clear T1 hbA2 hTd hS hnn hlim HT HG2 HTl T12 U12 SC12 A12 HL3 HNum HSh HRf HLs HA HDS HDL HD2 HBO HM HD
          go_wp2_with fail
          obtain ⟨tb0, htb⟩ : ∃ B, B = wr.heap.size := ⟨_, rfl⟩
          obtain ⟨wa0, hwa⟩ : ∃ W, W = wr.alloc (.cells #[.int .i64 0] 3) := ⟨_, rfl⟩
          have hbT := (Below.refl _ wr).alloc (Nat.le_refl _) (.cells #[.int .i64 0] 3)
          have hkT := alloc_blk_new wr (.cells #[.int .i64 0] 3)
          rw [← htb, ← hwa] at hkT
          rw [← hwa] at hbT
          rw [← htb, ← hwa]
          have SA0 := Lib.hid (S0.out.bel hbT hlw)
          have TK0 := Lib.hid hkT
          have htlt0 : tb0 < wa0.heap.size := blk_lt hkT
          have hlt0 : lim ≤ tb0 := by omega
          clear hbT hkT htb hwa S0 hlw
          refine wp_loop_rounds 3 ?_
          rw [rounds_succ]
          have htc := cell_blk TK0.out 0 (.int .i64 0) rfl
          have htf := frozen_blk TK0.out 0
          go_upto_block 6 with fail
          clear htc htf
          have hbN := (Below.refl _ wa0).alloc (Nat.le_refl _) (.cells #[.int .i64 0] 3)
          obtain ⟨nb0, hnb⟩ : ∃ B, B = wa0.heap.size := ⟨_, rfl⟩
          obtain ⟨wn0, hwn⟩ : ∃ W, W = wa0.alloc (.cells #[.int .i64 0] 3) := ⟨_, rfl⟩
          have hkN := alloc_blk_new wa0 (.cells #[.int .i64 0] 3)
          rw [← hnb, ← hwn] at hkN
          rw [← hwn] at hbN
          rw [← hnb, ← hwn]
          have hnlt0 : nb0 < wn0.heap.size := blk_lt hkN
          have htn0 : tb0 < nb0 := by omega
          have NC0 := Lib.hid (cell_blk hkN 0 (.int .i64 0) rfl)
          have NF0 := Lib.hid (frozen_blk hkN 0)
          have hla0 := SA0.out.l4
          have SN0 := Lib.hid (SA0.out.bel hbN hla0)
          have TN0 := Lib.hid ((hbN.block tb0 htlt0).trans TK0.out)
          have hln0 : lim ≤ nb0 := by omega
          clear hbN hkN hnb hwn SA0 TK0
          refine range_cut (fun D W => wn0.heap.size ≤ D ∧ W.heap[D]? = some (.deferred (some [])) ∧ (∃ c : Nat, (c : Int) = min (n' : Int) (max 1 many) ∧ W.cell? ⟨nb0, 0, none⟩ = some (.int .i64 c)) ∧ Below nb0 wn0 W) ?first0 ?rest0
          case first0 =>
            go_wp2_with fail
            refine (wpIn_wide (n := 5)).1 ?_
            have hs1 := SN0.out.l2
            refine' wpIn_range_deep (F := Fence.wide) rfl (by omega) (gf := 35) (lb := #[.pointer (some ⟨Bq, 0, none⟩)]) rfl trivial (enters_of Try.func35 (by kernel_rfl) rfl) (n₀ := nb0) (by omega)
              (shares1_deep 4 (by omega) Bq nb0 ao3 k' cap3 ls (by omega) wn0 (by omega) (by omega) SN0.out.sc (fun hp => by obtain ⟨g, e, hl, hc⟩ := SN0.out.sd hp; exact ⟨g, 0, e, by omega, hc⟩)) (fun _ => rfl)
              (Rnd (some_ ls k') many nb0 wn0) (Rxt (some_ ls k') many nb0 wn0 6) (Rnd.ahead (by omega)) (Rxt.ahead (by omega)) (Rnd.start NC0.out NF0.out) _ ?assign ?body ?done ?stop
            case assign =>
              intro l x W K hK
              gi_wp2
              exact hK
            case done =>
              rintro D ys W hD rfl hI hKd
              obtain ⟨⟨c, hc, hcc⟩, hB⟩ := hI.whole
              rw [← HTD.out, ← HNN.out] at hc
              exact ⟨rfl, D, rfl, hD, hKd, ⟨c, hc, hcc⟩, hB⟩
            case stop =>
              rintro D c pre W hD hSp hIx hKd
              obtain ⟨rfl, ⟨c, hc, hcc⟩, hB⟩ := hIx.part hSp
              rw [← HTD.out, ← HNN.out] at hc
              refine wpIn_exit ?_
              exact ⟨rfl, D, rfl, hD, hKd, ⟨c, hc, hcc⟩, hB⟩
            case body =>
              rintro l pre ⟨xi, xv⟩ W hW ⟨⟨hp, hC⟩, ⟨hc, hf⟩, hB⟩ hlt
              have SW := SN0.out.bel hB hln0
              obtain ⟨qm, _, qr, qf⟩ := SW.cm.cells
              have qv := SW.va
              have qs := SW.vs
              have hct := (hB.cell (p := ⟨tb0, 0, none⟩) (by show tb0 < nb0; omega)).trans (cell_blk TN0.out 0 (.int .i64 0) rfl)
              have hmore := prefix_more (some_ ls k') pre (xi, xv) hp
              have hl3 := SW.l3
              have hl4 := SW.l4
              obtain ⟨pl, hpl⟩ : ∃ pl, pl = pre.length := ⟨_, rfl⟩
              rw [← hpl] at hc hmore hlt hC
              have HMore := Lib.hid hmore
              have HBl := Lib.hid hB
              have HPL := Lib.hid hpl
              have HC := Lib.hid hC
              have hres : w.heap.size + 1 + 1 < wn0.heap.size := by omega
              by_cases hin : pl < n'
              · obtain ⟨g, rfl, hgl, hgc⟩ := SW.ra (by omega)
                obtain ⟨g', rfl, hgl', hgc'⟩ := SW.rs (by omega)
                have ha := hgc pl hin
                have hs := hgc' pl hin
                obtain ⟨⟨ya, yz⟩, hy⟩ : ∃ y, T[pl]? = some y := ⟨T[pl]'(by have := HNN.out; omega), by simp⟩
                rw [hy] at ha hs
                simp only [Option.getD_some] at ha hs
                have HY := Lib.hid hy
                have hgt : decide ((n' : Int) ≤ pl) = false := by simp; omega
                have hgt2 : decide (n' ≤ pl) = false := by simp; omega
                have hlt2 : (pl : Int) < n' := by omega
                have hpl2 : pl ≤ 30 := by omega
                clear hmore hp hB hpl hC SW hgc hgc' hy hl3 hl4
                by_cases e1 : xi = ya
                · subst e1
                  by_cases e2 : xv = yz
                  · subst e2
                    have hvv : (xv != xv) = false := by simp
                    have hT1 : (some_ ls k')[pl]? = some (xi, xv) := by rw [← HTD.out]; exact HY.out
                    have HP2 := Lib.hid (HMore.out.2 hT1)
                    clear hT1
                    by_cases hmy : many ≤ (pl : Int) + 1
                    · have dm : decide (many ≤ (pl : Int) + 1) = true := by simpa using hmy
                      gi_wp2
                      exact ⟨(Stays.refl _ _).setCell (p := ⟨nb0, 0, none⟩) (by show nb0 < _; omega) _, Rxt.more HP2.out (by rw [HPL.out]) hmy (by have := HC.out; have := HPL.out; omega) (by rw [hc]; rfl) hf HBl.out⟩
                    · have dm : decide (many ≤ (pl : Int) + 1) = false := by simpa using hmy
                      gi_wp2
                      exact ⟨(Stays.refl _ _).setCell (p := ⟨nb0, 0, none⟩) (by show nb0 < _; omega) _, (Below.refl nb0 W).setCell (p := ⟨nb0, 0, none⟩) (Nat.le_refl _) _, Rnd.more HP2.out (by rw [HPL.out]) (by omega) (by rw [hc]; rfl) hf HBl.out⟩
                  · have d2 : (xv != yz) = true := by simpa using e2
                    gi_wp2
                    exact ⟨(Stays.refl _ _).setCell (p := ⟨w.heap.size + 1 + 1, 0, none⟩) hres _, .inl ⟨rfl, fun h => e2 (by have h1 := HMore.out.1 h; rw [← HTD.out, HY.out] at h1; cases h1; rfl)⟩⟩
                · have d1 : ((xi : Int) != (ya : Int)) = true := by simp; omega
                  gi_wp2
                  exact ⟨(Stays.refl _ _).setCell (p := ⟨w.heap.size + 1 + 1, 0, none⟩) hres _, .inl ⟨rfl, fun h => e1 (by have h1 := HMore.out.1 h; rw [← HTD.out, HY.out] at h1; cases h1; rfl)⟩⟩
              · have hgt : decide ((n' : Int) ≤ pl) = true := by simp; omega
                have hgt2 : decide (n' ≤ pl) = true := by simp; omega
                clear hmore hp hB hpl hC SW hl3 hl4
                gi_wp2
                exact ⟨(Stays.refl _ _).setCell (p := ⟨w.heap.size + 1 + 1, 0, none⟩) hres _, .inl ⟨rfl, fun h => by have h1 := HMore.out.1 h; rw [← HTD.out] at h1; have h2 := (List.getElem?_eq_some_iff.1 h1).1; have := HNN.out; omega⟩⟩
          case rest0 =>
            rintro D0 W0 ⟨hD0, hKd0, ⟨c0, hgood, hcc⟩, hB0⟩
            dsimp only
            have SW0 := Lib.hid (SN0.out.bel hB0 hln0)
            have TW0 := Lib.hid ((hB0.block tb0 htn0).trans TN0.out)
            have hct := cell_blk TW0.out 0 (.int .i64 0) rfl
            have HDz0 := Lib.hid hKd0
            have hsz0 := hB0.size
            have hca := SW0.out.va
            obtain ⟨hcm, _, _, _⟩ := SW0.out.cm.cells
            clear hB0 hKd0 SN0 TN0 NC0 NF0
            go_upto_region 32 with fail
            go_cut [179] from 159 to 179 (fun v179 wx => v179 = .bool false ∧ wx = W0)
            case first =>
              have key : (many < 1 ∧ (n' < 1 ∧ c0 = 0 ∨ 1 < n' ∧ c0 = 1 ∨ n' = 1 ∧ c0 = 1)) ∨ (many = 1 ∧ (n' < 1 ∧ c0 = 0 ∨ 1 < n' ∧ c0 = 1 ∨ n' = 1 ∧ c0 = 1)) ∨ (1 < many ∧ ((n' : Int) < many ∧ c0 = n' ∨ many < (n' : Int) ∧ (c0 : Int) = many ∨ (n' : Int) = many ∧ c0 = n')) := by omega
              clear hgood
              rcases key with ⟨k1, ⟨k2, rfl⟩ | ⟨k2, rfl⟩ | ⟨rfl, rfl⟩⟩ | ⟨rfl, ⟨k2, rfl⟩ | ⟨k2, rfl⟩ | ⟨rfl, rfl⟩⟩ | ⟨k1, ⟨k2, rfl⟩ | ⟨k2, k3⟩ | ⟨k2, rfl⟩⟩
              · obtain rfl : n' = 0 := by omega
                go_wp2
                go_meet
                exact ⟨rfl, rfl⟩
              · have k3 : (1 : Int) < n' := by omega
                go_wp2
                go_meet
                exact ⟨rfl, rfl⟩
              · skip
                go_wp2
                go_meet
                exact ⟨rfl, rfl⟩
              · obtain rfl : n' = 0 := by omega
                go_wp2
                go_meet
                exact ⟨rfl, rfl⟩
              · have k3 : (1 : Int) < n' := by omega
                go_wp2
                go_meet
                exact ⟨rfl, rfl⟩
              · skip
                go_wp2
                go_meet
                exact ⟨rfl, rfl⟩
              · skip
                go_wp2
                go_meet
                exact ⟨rfl, rfl⟩
              · obtain rfl : many = (c0 : Int) := k3.symm
                go_wp2
                go_meet
                exact ⟨rfl, rfl⟩
              · obtain rfl : many = (c0 : Int) := k2.symm
                go_wp2
                go_meet
                exact ⟨rfl, rfl⟩
            case rest =>
              obtain ⟨rfl, hwc⟩ := hcut
              obtain rfl : W0 = wc := hwc.symm
              clear hcm hca
              go_wp2_with fail
              obtain ⟨tb1, htb⟩ : ∃ B, B = W0.heap.size := ⟨_, rfl⟩
              obtain ⟨wa1, hwa⟩ : ∃ W, W = W0.alloc (.cells #[.int .i64 1] 3) := ⟨_, rfl⟩
              have hbT := (Below.refl _ W0).alloc (Nat.le_refl _) (.cells #[.int .i64 1] 3)
              have hkT := alloc_blk_new W0 (.cells #[.int .i64 1] 3)
              rw [← htb, ← hwa] at hkT
              rw [← hwa] at hbT
              rw [← htb, ← hwa]
              have hlW := SW0.out.l4
              have SA1 := Lib.hid (SW0.out.bel hbT hlW)
              have TK1 := Lib.hid hkT
              have htlt1 : tb1 < wa1.heap.size := blk_lt hkT
              have hlt1 : lim ≤ tb1 := by omega
              have hD0l := (Array.getElem?_eq_some_iff.1 HDz0.out).1
              have HD0a1 := Lib.hid ((hbT.block D0 hD0l).trans HDz0.out)
              have hD0lt1 : D0 < wa1.heap.size := by omega
              have hlD0 : lim ≤ D0 := by omega
              clear hbT hkT htb hwa SW0 TW0 HDz0 hct
              rw [rounds_succ]
              have htc := cell_blk TK1.out 0 (.int .i64 1) rfl
              have htf := frozen_blk TK1.out 0
              go_upto_block 6 with fail
              clear htc htf
              have hbN := (Below.refl _ wa1).alloc (Nat.le_refl _) (.cells #[.int .i64 0] 3)
              obtain ⟨nb1, hnb⟩ : ∃ B, B = wa1.heap.size := ⟨_, rfl⟩
              obtain ⟨wn1, hwn⟩ : ∃ W, W = wa1.alloc (.cells #[.int .i64 0] 3) := ⟨_, rfl⟩
              have hkN := alloc_blk_new wa1 (.cells #[.int .i64 0] 3)
              rw [← hnb, ← hwn] at hkN
              rw [← hwn] at hbN
              rw [← hnb, ← hwn]
              have hnlt1 : nb1 < wn1.heap.size := blk_lt hkN
              have htn1 : tb1 < nb1 := by omega
              have NC1 := Lib.hid (cell_blk hkN 0 (.int .i64 0) rfl)
              have NF1 := Lib.hid (frozen_blk hkN 0)
              have hla1 := SA1.out.l4
              have SN1 := Lib.hid (SA1.out.bel hbN hla1)
              have TN1 := Lib.hid ((hbN.block tb1 htlt1).trans TK1.out)
              have HE0 := Lib.hid ((hbN.block D0 hD0lt1).trans HD0a1.out)
              have hD0n : D0 < nb1 := by omega
              have hln1 : lim ≤ nb1 := by omega
              clear hbN hkN hnb hwn SA1 TK1
              refine range_cut (fun D W => wn1.heap.size ≤ D ∧ W.heap[D]? = some (.deferred (some [])) ∧ (∃ c : Nat, (c : Int) = min (n' : Int) (max 1 ((k' : Int) + 2)) ∧ W.cell? ⟨nb1, 0, none⟩ = some (.int .i64 c)) ∧ Below nb1 wn1 W) ?first1 ?rest1
              case first1 =>
                go_wp2_with fail
                refine (wpIn_wide (n := 5)).1 ?_
                have hs1 := SN1.out.l2
                refine' wpIn_range_deep (F := Fence.wide) rfl (by omega) (gf := 35) (lb := #[.pointer (some ⟨Bq, 0, none⟩)]) rfl trivial (enters_of Try.func35 (by kernel_rfl) rfl) (n₀ := nb1) (by omega)
                  (shares1_deep 4 (by omega) Bq nb1 ao3 k' cap3 ls (by omega) wn1 (by omega) (by omega) SN1.out.sc (fun hp => by obtain ⟨g, e, hl, hc⟩ := SN1.out.sd hp; exact ⟨g, 0, e, by omega, hc⟩)) (fun _ => rfl)
                  (Rnd (some_ ls k') (k' + 2) nb1 wn1) (Rxt (some_ ls k') (k' + 2) nb1 wn1 6) (Rnd.ahead (by omega)) (Rxt.ahead (by omega)) (Rnd.start NC1.out NF1.out) _ ?assign ?body ?done ?stop
                case assign =>
                  intro l x W K hK
                  gi_wp2
                  exact hK
                case done =>
                  rintro D ys W hD rfl hI hKd
                  obtain ⟨⟨c, hc, hcc⟩, hB⟩ := hI.whole
                  rw [← HTD.out, ← HNN.out] at hc
                  exact ⟨rfl, D, rfl, hD, hKd, ⟨c, hc, hcc⟩, hB⟩
                case stop =>
                  rintro D c pre W hD hSp hIx hKd
                  obtain ⟨rfl, ⟨c, hc, hcc⟩, hB⟩ := hIx.part hSp
                  rw [← HTD.out, ← HNN.out] at hc
                  refine wpIn_exit ?_
                  exact ⟨rfl, D, rfl, hD, hKd, ⟨c, hc, hcc⟩, hB⟩
                case body =>
                  rintro l pre ⟨xi, xv⟩ W hW ⟨⟨hp, hC⟩, ⟨hc, hf⟩, hB⟩ hlt
                  have SW := SN1.out.bel hB hln1
                  obtain ⟨qm, _, qr, qf⟩ := SW.cm.cells
                  have qv := SW.va
                  have qs := SW.vs
                  have hct := (hB.cell (p := ⟨tb1, 0, none⟩) (by show tb1 < nb1; omega)).trans (cell_blk TN1.out 0 (.int .i64 1) rfl)
                  have hmore := prefix_more (some_ ls k') pre (xi, xv) hp
                  have hl3 := SW.l3
                  have hl4 := SW.l4
                  obtain ⟨pl, hpl⟩ : ∃ pl, pl = pre.length := ⟨_, rfl⟩
                  rw [← hpl] at hc hmore hlt hC
                  have HMore := Lib.hid hmore
                  have HBl := Lib.hid hB
                  have HPL := Lib.hid hpl
                  have HC := Lib.hid hC
                  have hres : w.heap.size + 1 + 1 < wn1.heap.size := by omega
                  by_cases hin : pl < n'
                  · obtain ⟨g, rfl, hgl, hgc⟩ := SW.ra (by omega)
                    obtain ⟨g', rfl, hgl', hgc'⟩ := SW.rs (by omega)
                    have ha := hgc pl hin
                    have hs := hgc' pl hin
                    obtain ⟨⟨ya, yz⟩, hy⟩ : ∃ y, T[pl]? = some y := ⟨T[pl]'(by have := HNN.out; omega), by simp⟩
                    rw [hy] at ha hs
                    simp only [Option.getD_some] at ha hs
                    have HY := Lib.hid hy
                    have hgt : decide ((n' : Int) ≤ pl) = false := by simp; omega
                    have hgt2 : decide (n' ≤ pl) = false := by simp; omega
                    have hlt2 : (pl : Int) < n' := by omega
                    have hpl2 : pl ≤ 30 := by omega
                    clear hmore hp hB hpl hC SW hgc hgc' hy hl3 hl4
                    by_cases e1 : xi = ya
                    · subst e1
                      by_cases e2 : xv = yz
                      · subst e2
                        have hvv : (xv != xv) = false := by simp
                        have hT1 : (some_ ls k')[pl]? = some (xi, xv) := by rw [← HTD.out]; exact HY.out
                        have HP2 := Lib.hid (HMore.out.2 hT1)
                        clear hT1
                        gi_wp2
                        exact ⟨(Stays.refl _ _).setCell (p := ⟨nb1, 0, none⟩) (by show nb1 < _; omega) _, (Below.refl nb1 W).setCell (p := ⟨nb1, 0, none⟩) (Nat.le_refl _) _, Rnd.more HP2.out (by rw [HPL.out]) (by omega) (by rw [hc]; rfl) hf HBl.out⟩
                      · have d2 : (xv != yz) = true := by simpa using e2
                        gi_wp2
                        exact ⟨(Stays.refl _ _).setCell (p := ⟨w.heap.size + 1 + 1, 0, none⟩) hres _, .inl ⟨rfl, fun h => e2 (by have h1 := HMore.out.1 h; rw [← HTD.out, HY.out] at h1; cases h1; rfl)⟩⟩
                    · have d1 : ((xi : Int) != (ya : Int)) = true := by simp; omega
                      gi_wp2
                      exact ⟨(Stays.refl _ _).setCell (p := ⟨w.heap.size + 1 + 1, 0, none⟩) hres _, .inl ⟨rfl, fun h => e1 (by have h1 := HMore.out.1 h; rw [← HTD.out, HY.out] at h1; cases h1; rfl)⟩⟩
                  · have hgt : decide ((n' : Int) ≤ pl) = true := by simp; omega
                    have hgt2 : decide (n' ≤ pl) = true := by simp; omega
                    clear hmore hp hB hpl hC SW hl3 hl4
                    gi_wp2
                    exact ⟨(Stays.refl _ _).setCell (p := ⟨w.heap.size + 1 + 1, 0, none⟩) hres _, .inl ⟨rfl, fun h => by have h1 := HMore.out.1 h; rw [← HTD.out] at h1; have h2 := (List.getElem?_eq_some_iff.1 h1).1; have := HNN.out; omega⟩⟩
              case rest1 =>
                rintro D1 W1 ⟨hD1, hKd1, ⟨c1, hgood, hcc⟩, hB1⟩
                dsimp only
                have SW1 := Lib.hid (SN1.out.bel hB1 hln1)
                have TW1 := Lib.hid ((hB1.block tb1 htn1).trans TN1.out)
                have hct := cell_blk TW1.out 0 (.int .i64 1) rfl
                have HDz1 := Lib.hid hKd1
                have hsz1 := hB1.size
                have HG0 := Lib.hid ((hB1.block D0 hD0n).trans HE0.out)
                have hca := SW1.out.va
                obtain ⟨hcm, _, _, _⟩ := SW1.out.cm.cells
                clear hB1 hKd1 SN1 TN1 NC1 NF1
                go_upto_region 32 with fail
                go_cut [179] from 159 to 179 (fun v179 wx => v179 = .bool false ∧ wx = W1)
                case first =>
                  have hg2 : c1 = n' := by omega
                  clear hgood
                  subst hg2
                  go_wp2
                  go_meet
                  exact ⟨rfl, rfl⟩
                case rest =>
                  obtain ⟨rfl, hwc⟩ := hcut
                  obtain rfl : W1 = wc := hwc.symm
                  clear hcm hca
                  go_wp2_with fail
                  have hlW := SW1.out.l4
                  have SA2 := Lib.hid (SW1.out.bel ((Below.refl _ W1).alloc (Nat.le_refl _) (.cells #[.int .i64 2] 3)) hlW)
                  have HE1_ := Lib.hid (alloc_other HDz1.out (.cells #[.int .i64 2] 3))
                  have HE0_ := Lib.hid (alloc_other HG0.out (.cells #[.int .i64 2] 3))
                  have hlD1 : lim ≤ D1 := by omega
                  have hD01 : D0 < D1 := by omega
                  clear SW1 TW1 HDz1 HG0 hct
                  rw [rounds_succ]
                  go_wp2_with (go_at_call 7; fail)
                  refine (HW.out _).mono ?_
                  rintro e w20 ⟨rfl, hb20⟩
                  have SB := Lib.hid (SA2.out.bel hb20 SA2.out.l4)
                  have HF1 := Lib.hid ((hb20.block D1 (Array.getElem?_eq_some_iff.1 HE1_.out).1).trans HE1_.out)
                  have HF0 := Lib.hid ((hb20.block D0 (Array.getElem?_eq_some_iff.1 HE0_.out).1).trans HE0_.out)
                  have hl3 := SB.out.l3
                  have hl4 := SB.out.l4
                  have hres : w.heap.size + 1 + 1 < w20.heap.size := by omega
                  obtain ⟨_, _, c6, f6⟩ := SB.out.cm.cells
                  clear hb20 SA2 HE1_ HE0_
                  go_wp2_with fail
                  have hk1 := (KeepsOthers.setCell w20 ⟨w.heap.size + 1 + 1, 0, none⟩ (.bool true)).same D1 _ HF1.out rfl
                  have hk0 := (KeepsOthers.setCell w20 ⟨w.heap.size + 1 + 1, 0, none⟩ (.bool true)).same D0 _ HF0.out rfl
                  have hk00 := ((grownBy_putObj' (w20.setCell ⟨w.heap.size + 1 + 1, 0, none⟩ (.bool true)) D1 (.deferred none)).block D0 (Array.getElem?_eq_some_iff.1 hk0).1 (fun e => by cases e; omega)).trans hk0
                  have hc5 := cell_kept (World.cell?_setCell_same' w20 ⟨w.heap.size + 1 + 1, 0, none⟩ (.bool true) (by rw [c6]; rfl)) (grownBy_putObj' _ D1 (.deferred none)) (fun r e => by cases e; exact ⟨_, hk1, rfl⟩)
                  have hc6 := cell_kept hc5 (grownBy_putObj' _ D0 (.deferred none)) (fun r e => by cases e; exact ⟨_, hk00, rfl⟩)
                  refine ⟨by simp, .inl ⟨_, _, rfl, run_takeDeferred hk1, ⟨by simp, .inl ⟨_, _, rfl, run_takeDeferred hk00, ?_⟩⟩⟩⟩
                  refine ⟨.bool true, ?_, rfl, ((SB.out.cm.below.setCell (p := ⟨w.heap.size + 1 + 1, 0, none⟩) (by simp; omega) _).trans (belowK_b (w := w) (Nat.le_refl _) _ D1 _ _ (by omega) hk1 rfl rfl)).trans (belowK_b (w := w) (Nat.le_refl _) _ D0 _ _ (by omega) hk00 rfl rfl)⟩
                  simp [results, Try.f5, go_sem, hc6]
end Go.Proofs.Ytagdenhcbafblaa
