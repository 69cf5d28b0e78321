/-
  The lengths of a queue's frames: put.
-/
import Derived.Test.YtneeagabmdpjgaaOa
namespace Go.Proofs.Ytneeagabmdpjgaa
open Go.RowKit
set_option linter.unusedVariables false
set_option linter.unusedSimpArgs false

theorem OAt.setG {w : World} {base p g q : Nat} {part m : Int} {sv : Value} {vs : List Int} (h : OAt w base p sv g part q m vs) (g' : Nat) :
    OAt (w.setCell ⟨p, 1, none⟩ (.int .i64 g')) base p sv g' part q m vs ∧ Step p sv sv w (w.setCell ⟨p, 1, none⟩ (.int .i64 g')) := by
  have hm : Mod (fun k => k = p) w (w.setCell ⟨p, 1, none⟩ (.int .i64 g')) := (Mod.refl (fun k => k = p) w).setCell ⟨p, 1, none⟩ (.inl rfl) _
  refine ⟨⟨?_, hm.row h.row (fun k hk e => h.ne k hk e), h.ne, h.lo⟩, hm.mono (fun k _ e => .inl e), fun k hk => .inl hk⟩
  rw [setCell_blk h.blk]; rfl

set_option maxHeartbeats 3200000 in
set_option maxRecDepth 100000 in
theorem oput_any {T : Nat → Prop} (base p g q : Nat) (part m : Int) (sv : Value) (vs : List Int) (pa : Option Addr) (pc n : Nat) (zs : List Int) (w : World) (h : OAt w base p sv g part q m vs) (hg : g ≤ vs.length) (hl : vs.length ≤ 3000000) (hl2 : n ≤ 2097152) (hz : Nar T w pa n zs) (hT : ∀ k, T k → ¬ FP p sv k) (hpn : pa = none → n = 0 ∧ pc = 0) :
    Calls Try.prog 32 #[.pointer (some ⟨p, 0, none⟩), .slice pa n pc] w fun e w' => e = .returned (.tuple #[]) ∧ ∃ sv' g' vs', OAt w' base p sv' g' part q m vs' ∧ g' ≤ vs'.length ∧ vs'.drop g' = vs.drop g ++ zs ∧ vs'.length ≤ 2 * (vs.length - g) + n ∧ Step p sv sv' w w' := by
  obtain ⟨i0, hi, hz0, hz1, hz2⟩ := info_parts Try.info3
  have HZ0 := Lib.hid hz
  have HZL := Lib.hid hz.1
  have HQ := Lib.hid h
  have c0 := h.c0
  have c1 := h.c1
  have HTT := Lib.hid hT
  clear hz hT
  by_cases hc : vs.length / 2 < g
  · obtain ⟨b, cap, cur, hv, _, _, hnc, _⟩ := row_some h.row (by omega)
    subst hv
    have hc2 : ((vs.length : Int) / 2) < (g : Int) := by omega
    clear h
    go_enter Try.func32, Try.ntmps32
    go_wp2
    go_quiet (fail)
    go_wp2_with fail
    refine wp_region_K 11 (fun W => W.cell? ⟨p, 0, none⟩ = some (.slice (some ⟨b, 0, none⟩) vs.length cap)) (by kernel_rfl) ?_
    have hqd := HQ.out.drewN (nq + 1)
    rw [show w.drewN (nq + 1) = (w.drewN nq).drew from rfl] at hqd
    obtain ⟨wd, hwd⟩ : ∃ W, W = (w.drewN nq).drew := ⟨_, rfl⟩
    rw [← hwd] at hqd ⊢
    have HSD : Hid (Step p (.slice (some ⟨b, 0, none⟩) vs.length cap) (.slice (some ⟨b, 0, none⟩) vs.length cap) w wd) := Lib.hid (by rw [hwd]; exact Step.of_below (Below.drewN' w (nq + 1)))
    have hS0 : wd.cell? ⟨p, 0, none⟩ = some (.slice (some ⟨b, 0, none⟩) vs.length cap) := hqd.c0
    clear hwd c0 c1
    refine wpAnyK_take (i := 0) (v := .pointer (some ⟨p, 0, none⟩)) rfl (by kernel_rfl) (by kernel_rfl) (by kernel_rfl) [10, 9] (by kernel_rfl) (by decide) (by kernel_rfl) (by kernel_rfl) (fun _ _ _ h => h) hS0 (.inl ⟨by rfl, fun W hW => ?_⟩) ?_
    · go_simp
    simp only [Act.put, List.setIfInBounds_toArray, List.set_cons_zero, List.set_cons_succ]
    refine wpAnyK_take (i := 1) (v := .pointer (some ⟨p, 0, none⟩)) rfl (by kernel_rfl) (by kernel_rfl) (by kernel_rfl) [8, 5, 4, 3, 2] (by kernel_rfl) (by decide) (by kernel_rfl) (by kernel_rfl) (fun _ _ _ h => h) hS0 (.inl ⟨by rfl, fun W hW => ?_⟩) ?_
    · go_simp
    simp only [Act.put, List.setIfInBounds_toArray, List.set_cons_zero, List.set_cons_succ]
    refine wpAnyK_take (i := 2) (v := .pointer (some ⟨p, 0, none⟩)) rfl (by kernel_rfl) (by kernel_rfl) (by kernel_rfl) [8, 5, 4, 3] (by kernel_rfl) (by decide) (by kernel_rfl) (by kernel_rfl) (fun _ _ _ h => h) hS0 (.inl ⟨by rfl, fun W hW => ?_⟩) ?_
    · go_simp
    simp only [Act.put, List.setIfInBounds_toArray, List.set_cons_zero, List.set_cons_succ]
    refine wpAnyK_take (i := 3) (v := .pointer (some ⟨p, 0, none⟩)) rfl (by kernel_rfl) (by kernel_rfl) (by kernel_rfl) [8, 5, 4] (by kernel_rfl) (by decide) (by kernel_rfl) (by kernel_rfl) (fun _ _ _ h => h) hS0 (.inl ⟨by rfl, fun W hW => ?_⟩) ?_
    · go_simp
    simp only [Act.put, List.setIfInBounds_toArray, List.set_cons_zero, List.set_cons_succ]
    refine wpAnyK_take (i := 4) (v := .slice (some ⟨b, 0, none⟩) vs.length cap) rfl (by kernel_rfl) (by kernel_rfl) (by kernel_rfl) [8, 5] (by kernel_rfl) (by decide) (by kernel_rfl) (by kernel_rfl) (fun _ _ _ h => h) hS0 (.inl ⟨by rfl, fun W hW => ?_⟩) ?_
    · go_simp
    simp only [Act.put, List.setIfInBounds_toArray, List.set_cons_zero, List.set_cons_succ]
    refine wpAnyK_take (i := 5) (v := .slice (some ⟨b, 0, none⟩) 0 cap) rfl (by kernel_rfl) (by kernel_rfl) (by kernel_rfl) [8] (by kernel_rfl) (by decide) (by kernel_rfl) (by kernel_rfl) (fun _ _ _ h => h) hS0 (.inl ⟨by rfl, fun W hW => ?_⟩) ?_
    · go_simp
    simp only [Act.put, List.setIfInBounds_toArray, List.set_cons_zero, List.set_cons_succ]
    refine wpAnyK_take (i := 6) (v := .pointer (some ⟨p, 0, none⟩)) rfl (by kernel_rfl) (by kernel_rfl) (by kernel_rfl) [8, 7] (by kernel_rfl) (by decide) (by kernel_rfl) (by kernel_rfl) (fun _ _ _ h => h) hS0 (.inl ⟨by rfl, fun W hW => ?_⟩) ?_
    · go_simp
    simp only [Act.put, List.setIfInBounds_toArray, List.set_cons_zero, List.set_cons_succ]
    obtain ⟨ao, hao, hA, hL⟩ := oleft_any base p g q part m _ vs wd hqd hg (by omega)
    have HA := Lib.hid hA
    have HL := Lib.hid hL
    clear hA hL
    refine wpAnyK_ready (rs := [7]) (by kernel_rfl) (by simp) ?_
    refine AllReadyK.cons rfl (fun K hK => ?_) AllReadyK.nil
    go_simp
    refine HL.out.mono ?_
    rintro e w' ⟨rfl, qx, rfl⟩
    refine hK.out _ _ (fun _ => hS0) ?_
    clear hK K
    try simp only [Act.put, List.setIfInBounds_toArray, List.set_cons_zero, List.set_cons_succ]
    refine wpAnyK_ready (rs := [8]) (by kernel_rfl) (by simp) ?_
    refine AllReadyK.cons rfl (fun K hK => ?_) AllReadyK.nil
    have hqe := hqd.drewN qx
    have HAe := Lib.hid (HA.out.drewN qx)
    have HSe := Lib.hid (HSD.out.trans (Step.of_below (sv := .slice (some ⟨b, 0, none⟩) vs.length cap) (Below.drewN' wd qx)))
    obtain ⟨we, hwe⟩ : ∃ W, W = wd.drewN qx := ⟨_, rfl⟩
    rw [← hwe] at hqe HAe HSe ⊢
    have hbw := hqe.lt
    have hlo := hqe.lo
    refine step_append_f rfl (.tmp 20) (.tmp 22) 50 rfl base 3 i0 (.int .i64 0) 1 8 Try.underlying50 hi hz0 hz1 hz2 rfl (by decide) (.slice (some ⟨b, 0, none⟩) 0 cap) 0 [] (by rfl) (row_cut3 hqe.row) ao (vs.length - g) (vs.length - g) ((vs.drop g).map (.int .i64)) (by rfl) (by simp) (fun e => by have := hao e; omega) HAe.out.news (one_i64 _) (by unfold maxLen; omega) (by omega) (by omega) ?_
    intro v2 w2 hown2 hg2 hf2
    rw [Nat.zero_add] at hown2
    obtain ⟨a2, e2, rfl⟩ := row_slice hown2
    obtain ⟨n1, n2, n3⟩ := hqe.appended (ws := vs.drop g) (row := some b) rfl (by simpa using hown2) hg2 hf2
    have N2 := Lib.hid n2
    have N3 := Lib.hid (HSe.out.trans n3)
    have k0 := cell_blk n1 0 _ rfl
    have kf := frozen_blk n1 0
    have kl := blk_lt n1
    refine hK.out _ _ (fun _ => k0) ?_
    clear hK K n1 n2 n3 hown2 hg2 hf2 hqe hqd hS0
    try simp only [Act.put, List.setIfInBounds_toArray, List.set_cons_zero, List.set_cons_succ]
    refine wpAnyK_ready (rs := [9]) (by kernel_rfl) (by simp) ?_
    refine AllReadyK.cons rfl (fun K hK => ?_) AllReadyK.nil
    go_simp
    refine hK.out _ _ (fun _ => k0) ?_
    clear hK K
    try simp only [Act.put, List.setIfInBounds_toArray, List.set_cons_zero, List.set_cons_succ]
    refine wpAnyK_ready (rs := [10]) (by kernel_rfl) (by simp) ?_
    refine AllReadyK.cons rfl (fun K hK => ?_) AllReadyK.nil
    go_simp
    refine hK.out _ _ (fun _ => k0) ?_
    clear hK K
    try simp only [Act.put, List.setIfInBounds_toArray, List.set_cons_zero, List.set_cons_succ]
    refine wpAnyK_ready (rs := [11]) (by kernel_rfl) (by simp) ?_
    refine AllReadyK.cons rfl (fun K hK => ?_) AllReadyK.nil
    go_simp
    refine hK.out _ _ (fun h => absurd (show true = false from h) (by decide)) ?_
    clear hK K
    try simp only [Act.put, List.setIfInBounds_toArray, List.set_cons_zero, List.set_cons_succ]
    refine wpAnyK_done (by kernel_rfl) ?_ _
    obtain ⟨w3, hw3⟩ : ∃ W, W = w2.setCell ⟨p, 0, none⟩ (.slice a2 (vs.length - g) e2) := ⟨_, rfl⟩
    rw [← hw3] at N2 N3 ⊢
    clear hw3 k0 kf kl
    have c1 := N2.out.c1
    have f1 := N2.out.fz 1
    obtain ⟨g1, g2⟩ := N2.out.setG 0
    obtain ⟨w4, hw4⟩ : ∃ W, W = w3.setCell ⟨p, 1, none⟩ (.int .i64 0) := ⟨_, rfl⟩
    rw [show (w3.setCell ⟨p, 1, none⟩ (.int .i64 (0 : Nat))) = w4 from hw4.symm] at g1 g2
    have HS1 := Lib.hid (N3.out.trans g2)
    have HQ1 := Lib.hid g1
    have HW4 := Lib.hid hw4
    have hhlo := g1.lo
    clear g1 g2 N2 N3 hw4
    go_upto_region 3 with fail
    rw [← HW4.out]
    clear c1 f1
    obtain ⟨vs1, hvs1⟩ : ∃ vs1, vs1 = vs.drop g := ⟨_, rfl⟩
    have hln : vs.length - g = vs1.length := by rw [hvs1, List.length_drop]
    rw [← hvs1] at HQ1
    rw [hln] at HQ1 HS1
    have HL1 : Hid (vs1.length ≤ 2 * (vs.length - g)) := Lib.hid (by omega)
    have hlv : vs1.length ≤ 3000000 := by omega
    have c0 := HQ1.out.c0
    have f0 := HQ1.out.fz 0
    have hpl := HQ1.out.lt
    have hlo := HQ1.out.lo
    have HZ := Lib.hid (HZ0.out.mod HS1.out.mod (fun k hk => HTT.out k hk))
    obtain ⟨g', hg'⟩ : ∃ g' : Nat, g' = 0 := ⟨_, rfl⟩
    rw [← hg'] at HQ1
    have HD : Hid (vs1.drop g' = vs.drop g) := Lib.hid (by rw [hg', hvs1]; rfl)
    have hg1 : g' ≤ vs1.length := by omega
    have HG' := Lib.hid hg'
    have HVS := Lib.hid hvs1
    clear hln hg' hvs1
    go_wp2_with (at_builtin; go_loud (refine wpList_append_f _ rfl (.tmp 33) (.tmp 34) 50 rfl base 3 i0 (.int .i64 0) 1 8 Try.underlying50 hi hz0 hz1 hz2 rfl (by decide) _ _ _ rfl HQ1.out.row pa n pc (zs.map (.int .i64)) rfl (by simpa using HZL.out) hpn HZ.out.news (one_i64 _) ?c3 ?c4 (by omega) ?_))
    case c3 => unfold maxLen; omega
    case c4 => omega
    intro v2 w1 hown2 hg2 hf2 _
    obtain ⟨a9, e9, rfl⟩ := row_slice hown2
    have hown3 : w1.ownsRow base 3 1 (.slice a9 (vs1.length + n) e9) (vs1 ++ zs).length ((vs1 ++ zs).map (.int .i64)) := by simpa [HZL.out] using hown2
    obtain ⟨n1, n2, n3⟩ := HQ1.out.appended (ws := vs1 ++ zs) rfl hown3 hg2 hf2
    have N := Lib.hid (And.intro n2 n3)
    have k0 := cell_blk n1 0 _ rfl
    have kf := frozen_blk n1 0
    have kl := blk_lt n1
    clear n1 n2 n3 hown2 hown3 hg2 hf2 c0 f0
    go_wp2_with fail
    go_end0
    have hd := HD.out
    have hL := HL1.out
    have hzl := HZL.out
    refine ⟨rfl, _, g', vs1 ++ zs, N.out.1, by simp; omega, ?_, by simp; omega, HS1.out.trans N.out.2⟩
    rw [List.drop_append_of_le_length hg1, hd]
  · have hc2 : ¬ ((vs.length : Int) / 2) < (g : Int) := by omega
    obtain ⟨a0, cap, rfl⟩ := row_slice h.row
    clear h
    go_enter Try.func32, Try.ntmps32
    go_wp2
    go_quiet (fail)
    go_upto_region 3 with fail
    have HQ1 := Lib.hid (HQ.out.drewN nq)
    have HS1 : Hid (Step p (.slice a0 vs.length cap) (.slice a0 vs.length cap) w (w.drewN nq)) := Lib.hid (Step.of_below (Below.drewN' w nq))
    have HZ := Lib.hid (HZ0.out.drewN nq)
    have HD : Hid (vs.drop g = vs.drop g) := Lib.hid rfl
    have HL1 : Hid (vs.length ≤ 2 * (vs.length - g)) := Lib.hid (by omega)
    have hg1 := hg
    have hpl := HQ1.out.lt
    have hlo := HQ1.out.lo
    have f0 := HQ1.out.fz 0
    clear c0 c1
    have c0 := HQ1.out.c0
    go_wp2_with (at_builtin; go_loud (refine wpList_append_f _ rfl (.tmp 33) (.tmp 34) 50 rfl base 3 i0 (.int .i64 0) 1 8 Try.underlying50 hi hz0 hz1 hz2 rfl (by decide) _ _ _ rfl HQ1.out.row pa n pc (zs.map (.int .i64)) rfl (by simpa using HZL.out) hpn HZ.out.news (one_i64 _) ?c3 ?c4 (by omega) ?_))
    case c3 => unfold maxLen; omega
    case c4 => omega
    intro v2 w1 hown2 hg2 hf2 _
    obtain ⟨a9, e9, rfl⟩ := row_slice hown2
    have hown3 : w1.ownsRow base 3 1 (.slice a9 (vs.length + n) e9) (vs ++ zs).length ((vs ++ zs).map (.int .i64)) := by simpa [HZL.out] using hown2
    obtain ⟨n1, n2, n3⟩ := HQ1.out.appended (ws := vs ++ zs) rfl hown3 hg2 hf2
    have N := Lib.hid (And.intro n2 n3)
    have k0 := cell_blk n1 0 _ rfl
    have kf := frozen_blk n1 0
    have kl := blk_lt n1
    clear n1 n2 n3 hown2 hown3 hg2 hf2 c0 f0
    go_wp2_with fail
    go_end0
    have hd := HD.out
    have hL := HL1.out
    have hzl := HZL.out
    refine ⟨rfl, _, g, vs ++ zs, N.out.1, by simp; omega, ?_, by simp; omega, HS1.out.trans N.out.2⟩
    rw [List.drop_append_of_le_length hg1]
end Go.Proofs.Ytneeagabmdpjgaa
