/-
  put: walked.
-/
import Derived.Test.YtneeagabmdpjgaaF
namespace Go.Proofs.Ytneeagabmdpjgaa
open Go.RowKit
set_option linter.unusedVariables false
set_option linter.unusedSimpArgs false

set_option maxHeartbeats 3200000 in
set_option maxRecDepth 100000 in
theorem put_any (base p g : Nat) (m : Int) (sv : Value) (vs : List Int) (pa : Option Addr) (pc : Nat) (ls : List (List Int)) (w : World) (h : QAt w base p sv g m vs) (hg : g ≤ vs.length) (hl : vs.length ≤ 2097152) (hl2 : ls.flatten.length ≤ 2097152) (hln : ls.length ≤ 1000) (hP : Parts (fun k => ¬ FP p sv k) w pa ls) :
    Calls Try.prog 55 #[.pointer (some ⟨p, 0, none⟩), .slice pa ls.length pc] w fun e w' => e = .returned (.tuple #[]) ∧ Put w base p g m sv vs ls ls.length w' := by
  obtain ⟨i0, hi, hz0, hz1, hz2⟩ := info_parts Try.info5
  have HPa := Lib.hid hP
  have HQ := Lib.hid h
  have c0 := h.c0
  have c1 := h.c1
  clear hP
  by_cases hc : vs.length / 2 < g
  · obtain ⟨b, cap, cur, hv, _, _, hnc, _⟩ := row_some h.row (by omega)
    subst hv
    have hc2 : ((vs.length : Int) / 2) < (g : Int) := by omega
    clear h
    go_enter Try.func55, Try.ntmps55
    go_wp2
    go_quiet (fail)
    go_wp2_with fail
    refine wp_region_K 11 (fun W => W.cell? ⟨p, 0, none⟩ = some (.slice (some ⟨b, 0, none⟩) vs.length cap)) (by kernel_rfl) ?_
    have hqd := HQ.out.drewN (nq + 1)
    rw [show w.drewN (nq + 1) = (w.drewN nq).drew from rfl] at hqd
    obtain ⟨wd, hwd⟩ : ∃ W, W = (w.drewN nq).drew := ⟨_, rfl⟩
    rw [← hwd] at hqd ⊢
    have HSD : Hid (Step p (.slice (some ⟨b, 0, none⟩) vs.length cap) (.slice (some ⟨b, 0, none⟩) vs.length cap) w wd) := Lib.hid (by rw [hwd]; exact Step.of_below (Below.drewN' w (nq + 1)))
    have hS0 : wd.cell? ⟨p, 0, none⟩ = some (.slice (some ⟨b, 0, none⟩) vs.length cap) := hqd.c0
    clear hwd c0 c1
    refine wpAnyK_take (i := 0) (v := .pointer (some ⟨p, 0, none⟩)) rfl (by kernel_rfl) (by kernel_rfl) (by kernel_rfl) [10, 9] (by kernel_rfl) (by decide) (by kernel_rfl) (by kernel_rfl) (fun _ _ _ h => h) hS0 (.inl ⟨by rfl, fun W hW => ?_⟩) ?_
    · go_simp
    simp only [Act.put, List.setIfInBounds_toArray, List.set_cons_zero, List.set_cons_succ]
    refine wpAnyK_take (i := 1) (v := .pointer (some ⟨p, 0, none⟩)) rfl (by kernel_rfl) (by kernel_rfl) (by kernel_rfl) [8, 5, 4, 3, 2] (by kernel_rfl) (by decide) (by kernel_rfl) (by kernel_rfl) (fun _ _ _ h => h) hS0 (.inl ⟨by rfl, fun W hW => ?_⟩) ?_
    · go_simp
    simp only [Act.put, List.setIfInBounds_toArray, List.set_cons_zero, List.set_cons_succ]
    refine wpAnyK_take (i := 2) (v := .pointer (some ⟨p, 0, none⟩)) rfl (by kernel_rfl) (by kernel_rfl) (by kernel_rfl) [8, 5, 4, 3] (by kernel_rfl) (by decide) (by kernel_rfl) (by kernel_rfl) (fun _ _ _ h => h) hS0 (.inl ⟨by rfl, fun W hW => ?_⟩) ?_
    · go_simp
    simp only [Act.put, List.setIfInBounds_toArray, List.set_cons_zero, List.set_cons_succ]
    refine wpAnyK_take (i := 3) (v := .pointer (some ⟨p, 0, none⟩)) rfl (by kernel_rfl) (by kernel_rfl) (by kernel_rfl) [8, 5, 4] (by kernel_rfl) (by decide) (by kernel_rfl) (by kernel_rfl) (fun _ _ _ h => h) hS0 (.inl ⟨by rfl, fun W hW => ?_⟩) ?_
    · go_simp
    simp only [Act.put, List.setIfInBounds_toArray, List.set_cons_zero, List.set_cons_succ]
    refine wpAnyK_take (i := 4) (v := .slice (some ⟨b, 0, none⟩) vs.length cap) rfl (by kernel_rfl) (by kernel_rfl) (by kernel_rfl) [8, 5] (by kernel_rfl) (by decide) (by kernel_rfl) (by kernel_rfl) (fun _ _ _ h => h) hS0 (.inl ⟨by rfl, fun W hW => ?_⟩) ?_
    · go_simp
    simp only [Act.put, List.setIfInBounds_toArray, List.set_cons_zero, List.set_cons_succ]
    refine wpAnyK_take (i := 5) (v := .slice (some ⟨b, 0, none⟩) 0 cap) rfl (by kernel_rfl) (by kernel_rfl) (by kernel_rfl) [8] (by kernel_rfl) (by decide) (by kernel_rfl) (by kernel_rfl) (fun _ _ _ h => h) hS0 (.inl ⟨by rfl, fun W hW => ?_⟩) ?_
    · go_simp
    simp only [Act.put, List.setIfInBounds_toArray, List.set_cons_zero, List.set_cons_succ]
    refine wpAnyK_take (i := 6) (v := .pointer (some ⟨p, 0, none⟩)) rfl (by kernel_rfl) (by kernel_rfl) (by kernel_rfl) [8, 7] (by kernel_rfl) (by decide) (by kernel_rfl) (by kernel_rfl) (fun _ _ _ h => h) hS0 (.inl ⟨by rfl, fun W hW => ?_⟩) ?_
    · go_simp
    simp only [Act.put, List.setIfInBounds_toArray, List.set_cons_zero, List.set_cons_succ]
    obtain ⟨ao, hao, hA, hL⟩ := left_any base p g m _ vs wd hqd hg (by omega)
    have HA := Lib.hid hA
    have HL := Lib.hid hL
    clear hA hL
    refine wpAnyK_ready (rs := [7]) (by kernel_rfl) (by simp) ?_
    refine AllReadyK.cons rfl (fun K hK => ?_) AllReadyK.nil
    go_simp
    refine HL.out.mono ?_
    rintro e w' ⟨rfl, q2, rfl⟩
    refine hK.out _ _ (fun _ => hS0) ?_
    clear hK K
    try simp only [Act.put, List.setIfInBounds_toArray, List.set_cons_zero, List.set_cons_succ]
    refine wpAnyK_ready (rs := [8]) (by kernel_rfl) (by simp) ?_
    refine AllReadyK.cons rfl (fun K hK => ?_) AllReadyK.nil
    have hqe := hqd.drewN q2
    have HAe := Lib.hid (HA.out.drewN q2)
    have HSe := Lib.hid (HSD.out.trans (Step.of_below (sv := .slice (some ⟨b, 0, none⟩) vs.length cap) (Below.drewN' wd q2)))
    obtain ⟨we, hwe⟩ : ∃ W, W = wd.drewN q2 := ⟨_, rfl⟩
    rw [← hwe] at hqe HAe HSe ⊢
    have hbw := hqe.lt
    have hlo := hqe.lo
    refine step_append_f rfl (.tmp 22) (.tmp 24) 29 rfl base 5 i0 (.int .u8 0) 1 1 Try.underlying29 hi hz0 hz1 hz2 rfl (by decide) (.slice (some ⟨b, 0, none⟩) 0 cap) 0 [] (by rfl) (row_cut hqe.row) ao (vs.length - g) (vs.length - g) ((vs.drop g).map (.int .u8)) (by rfl) (by simp) (fun e => by have := hao e; omega) HAe.out.news (one_u8 _) (by unfold maxLen; omega) (by omega) (by omega) ?_
    intro v2 w2 hown2 hg2 hf2
    rw [Nat.zero_add] at hown2
    obtain ⟨a2, e2, rfl⟩ := row_slice hown2
    obtain ⟨n1, n2, n3⟩ := hqe.appended (ws := vs.drop g) (row := some b) rfl (by simpa using hown2) hg2 hf2
    have N2 := Lib.hid n2
    have N3 := Lib.hid (HSe.out.trans n3)
    have k0 := cell_blk n1 0 _ rfl
    have kf := frozen_blk n1 0
    have kl := blk_lt n1
    refine hK.out _ _ (fun _ => k0) ?_
    clear hK K n1 n2 n3 hown2 hg2 hf2 hqe hqd hS0
    try simp only [Act.put, List.setIfInBounds_toArray, List.set_cons_zero, List.set_cons_succ]
    refine wpAnyK_ready (rs := [9]) (by kernel_rfl) (by simp) ?_
    refine AllReadyK.cons rfl (fun K hK => ?_) AllReadyK.nil
    go_simp
    refine hK.out _ _ (fun _ => k0) ?_
    clear hK K
    try simp only [Act.put, List.setIfInBounds_toArray, List.set_cons_zero, List.set_cons_succ]
    refine wpAnyK_ready (rs := [10]) (by kernel_rfl) (by simp) ?_
    refine AllReadyK.cons rfl (fun K hK => ?_) AllReadyK.nil
    go_simp
    refine hK.out _ _ (fun _ => k0) ?_
    clear hK K
    try simp only [Act.put, List.setIfInBounds_toArray, List.set_cons_zero, List.set_cons_succ]
    refine wpAnyK_ready (rs := [11]) (by kernel_rfl) (by simp) ?_
    refine AllReadyK.cons rfl (fun K hK => ?_) AllReadyK.nil
    go_simp
    refine hK.out _ _ (fun h => absurd (show true = false from h) (by decide)) ?_
    clear hK K
    try simp only [Act.put, List.setIfInBounds_toArray, List.set_cons_zero, List.set_cons_succ]
    refine wpAnyK_done (by kernel_rfl) ?_ _
    obtain ⟨w3, hw3⟩ : ∃ W, W = w2.setCell ⟨p, 0, none⟩ (.slice a2 (vs.length - g) e2) := ⟨_, rfl⟩
    rw [← hw3] at N2 N3 ⊢
    clear hw3 k0 kf kl
    have c1 := N2.out.c1
    have f1 := N2.out.fz 1
    obtain ⟨g1, g2⟩ := N2.out.setG 0
    have HPut : Hid (Put w base p g m (.slice (some ⟨b, 0, none⟩) vs.length cap) vs ls 0 (w3.setCell ⟨p, 1, none⟩ (.int .i64 0))) := Lib.hid ⟨_, 0, vs.drop g, g1, by omega, by simp, by simp; omega, N3.out.trans g2⟩
    clear g1 g2 N2 N3
    go_wp2_with fail
    obtain ⟨sv, hsv⟩ : ∃ sv, sv = Value.slice (some ⟨b, 0, none⟩) vs.length cap := ⟨_, rfl⟩
    rw [← hsv] at HPut HPa ⊢
    have HSV := Lib.hid hsv
    clear hsv HQ
    go_loopg [33] ls.length (fun gk v33 wr => ∃ i : Nat, v33 = .int .i64 i ∧ i ≤ ls.length ∧ gk = ls.length - i ∧ Put w base p g m sv vs ls i wr)
    case atStart => exact ⟨0, rfl, by omega, rfl, HPut.out⟩
    case round =>
      obtain ⟨i, rfl, hi2, hgk, hP⟩ := hrel
      have HG := Lib.hid hgk
      clear HPut hgk
      by_cases hlt : i < ls.length
      · obtain ⟨sv1, g', vs1, hq, hg1, hd, hl1, hs⟩ := hP
        obtain ⟨pb, off, rfl, hpb, hpT, hpc⟩ := HPa.out (by omega)
        obtain ⟨z, hz⟩ : ∃ z, z = ls.getD i [] := ⟨_, rfl⟩
        obtain ⟨a, c, z1, z2, z3⟩ := hpc i hlt
        rw [← hz] at z1 z2 z3
        have y1 := (hs.mod.cell (p := ⟨pb, off + i, none⟩) hpb hpT).trans z1
        have y2 := Lib.hid (z2.mod hs.mod (fun k h => h))
        have hzl := take_flat ls i hlt
        rw [← hz] at hzl
        obtain ⟨tl, htl⟩ : ∃ tl, tl = (ls.take i).flatten.length := ⟨_, rfl⟩
        have hl2 := hl1
        rw [← htl] at hl2 hzl
        have hpb2 : pb < wr.heap.size := Nat.lt_of_lt_of_le hpb hs.mod.size
        obtain ⟨ao, cap1, rfl⟩ := row_slice hq.row
        have c0 := hq.c0
        have f0 := hq.fz 0
        have hpl := hq.lt
        have hlo := hq.lo
        have HM := Lib.hid (fun (sv2 : Value) (w1 : World) a b c => Put.more (w := w) (sv2 := sv2) (w1 := w1) hq hg1 hd hl1 hs hlt hz a b c)
        have HQ1 := Lib.hid hq
        have HS1 := Lib.hid hs
        clear z1 z2 hpc hz hq hd hl1 hs htl
        go_wp2_with (at_builtin; refine wpList_append_f _ rfl (.tmp 41) (.tmp 42) 29 rfl base 5 i0 (.int .u8 0) 1 1 Try.underlying29 hi hz0 hz1 hz2 rfl (by decide) _ _ _ rfl HQ1.out.row a z.length c (z.map (.int .u8)) rfl (by simp) z3 y2.out.news (one_u8 _) ?c3 ?c4 (by omega) ?_)
        case c3 => unfold maxLen; omega
        case c4 => omega
        intro v2 w1 hown2 hg2 hf2 _
        obtain ⟨a9, e9, rfl⟩ := row_slice hown2
        have hown3 : w1.ownsRow base 5 1 (.slice a9 (vs1.length + z.length) e9) (vs1 ++ z).length ((vs1 ++ z).map (.int .u8)) := by simpa using hown2
        obtain ⟨n1, _, _⟩ := HQ1.out.appended (ws := vs1 ++ z) rfl hown3 hg2 hf2
        have HP2 := Lib.hid (HM.out _ w1 hown3 hg2 hf2)
        have k0 := cell_blk n1 0 _ rfl
        have kf := frozen_blk n1 0
        have kl := blk_lt n1
        clear n1 hown2 hown3 hg2 hf2 HM HQ1 HS1 c0 f0 y1 y2
        go_wp2_with fail
        go_roundg (ls.length - (i + 1))
        case measure => have := HG.out; omega
        case rel => exact ⟨i + 1, by go_num, by omega, rfl, HP2.out⟩
      · obtain rfl : i = ls.length := by omega
        clear HG
        go_wp2_with fail
        go_end0
        have hP2 := hP
        rw [HSV.out] at hP2
        exact ⟨rfl, hP2⟩
  · have hc2 : ¬ ((vs.length : Int) / 2) < (g : Int) := by omega
    obtain ⟨a0, cap, rfl⟩ := row_slice h.row
    have HPut : ∀ q, Hid (Put w base p g m (.slice a0 vs.length cap) vs ls 0 (w.drewN q)) := fun q => Lib.hid ⟨_, g, vs, h.drewN q, hg, by simp, by simp; omega, Step.of_below (Below.drewN' w q)⟩
    clear h
    go_enter Try.func55, Try.ntmps55
    go_wp2
    go_quiet (fail)
    go_wp2_with fail
    have HPut := HPut (nq)
    obtain ⟨sv, hsv⟩ : ∃ sv, sv = Value.slice a0 vs.length cap := ⟨_, rfl⟩
    rw [← hsv] at HPut HPa ⊢
    have HSV := Lib.hid hsv
    clear hsv HQ c0 c1
    go_loopg [33] ls.length (fun gk v33 wr => ∃ i : Nat, v33 = .int .i64 i ∧ i ≤ ls.length ∧ gk = ls.length - i ∧ Put w base p g m sv vs ls i wr)
    case atStart => exact ⟨0, rfl, by omega, rfl, HPut.out⟩
    case round =>
      obtain ⟨i, rfl, hi2, hgk, hP⟩ := hrel
      have HG := Lib.hid hgk
      clear HPut hgk
      by_cases hlt : i < ls.length
      · obtain ⟨sv1, g', vs1, hq, hg1, hd, hl1, hs⟩ := hP
        obtain ⟨pb, off, rfl, hpb, hpT, hpc⟩ := HPa.out (by omega)
        obtain ⟨z, hz⟩ : ∃ z, z = ls.getD i [] := ⟨_, rfl⟩
        obtain ⟨a, c, z1, z2, z3⟩ := hpc i hlt
        rw [← hz] at z1 z2 z3
        have y1 := (hs.mod.cell (p := ⟨pb, off + i, none⟩) hpb hpT).trans z1
        have y2 := Lib.hid (z2.mod hs.mod (fun k h => h))
        have hzl := take_flat ls i hlt
        rw [← hz] at hzl
        obtain ⟨tl, htl⟩ : ∃ tl, tl = (ls.take i).flatten.length := ⟨_, rfl⟩
        have hl2 := hl1
        rw [← htl] at hl2 hzl
        have hpb2 : pb < wr.heap.size := Nat.lt_of_lt_of_le hpb hs.mod.size
        obtain ⟨ao, cap1, rfl⟩ := row_slice hq.row
        have c0 := hq.c0
        have f0 := hq.fz 0
        have hpl := hq.lt
        have hlo := hq.lo
        have HM := Lib.hid (fun (sv2 : Value) (w1 : World) a b c => Put.more (w := w) (sv2 := sv2) (w1 := w1) hq hg1 hd hl1 hs hlt hz a b c)
        have HQ1 := Lib.hid hq
        have HS1 := Lib.hid hs
        clear z1 z2 hpc hz hq hd hl1 hs htl
        go_wp2_with (at_builtin; refine wpList_append_f _ rfl (.tmp 41) (.tmp 42) 29 rfl base 5 i0 (.int .u8 0) 1 1 Try.underlying29 hi hz0 hz1 hz2 rfl (by decide) _ _ _ rfl HQ1.out.row a z.length c (z.map (.int .u8)) rfl (by simp) z3 y2.out.news (one_u8 _) ?c3 ?c4 (by omega) ?_)
        case c3 => unfold maxLen; omega
        case c4 => omega
        intro v2 w1 hown2 hg2 hf2 _
        obtain ⟨a9, e9, rfl⟩ := row_slice hown2
        have hown3 : w1.ownsRow base 5 1 (.slice a9 (vs1.length + z.length) e9) (vs1 ++ z).length ((vs1 ++ z).map (.int .u8)) := by simpa using hown2
        obtain ⟨n1, _, _⟩ := HQ1.out.appended (ws := vs1 ++ z) rfl hown3 hg2 hf2
        have HP2 := Lib.hid (HM.out _ w1 hown3 hg2 hf2)
        have k0 := cell_blk n1 0 _ rfl
        have kf := frozen_blk n1 0
        have kl := blk_lt n1
        clear n1 hown2 hown3 hg2 hf2 HM HQ1 HS1 c0 f0 y1 y2
        go_wp2_with fail
        go_roundg (ls.length - (i + 1))
        case measure => have := HG.out; omega
        case rel => exact ⟨i + 1, by go_num, by omega, rfl, HP2.out⟩
      · obtain rfl : i = ls.length := by omega
        clear HG
        go_wp2_with fail
        go_end0
        have hP2 := hP
        rw [HSV.out] at hP2
        exact ⟨rfl, hP2⟩
end Go.Proofs.Ytneeagabmdpjgaa
