/-
  The lengths of a queue's frames: left, in whatever world; goes.
-/
import Derived.Test.YtneeagabmdpjgaaOb
import Derived.Deep.RegionHeld3
namespace Go.Proofs.Ytneeagabmdpjgaa
open Go.RowKit
set_option linter.unusedVariables false
set_option linter.unusedSimpArgs false

theorem OAt.setP {w : World} {base p g q : Nat} {part m : Int} {sv : Value} {vs : List Int} (h : OAt w base p sv g part q m vs) (part' : Int) :
    OAt (w.setCell ⟨p, 2, none⟩ (.int .i64 part')) base p sv g part' q m vs ∧ Mod (fun k => k = p) w (w.setCell ⟨p, 2, none⟩ (.int .i64 part')) := by
  have hm : Mod (fun k => k = p) w (w.setCell ⟨p, 2, none⟩ (.int .i64 part')) := (Mod.refl (fun k => k = p) w).setCell ⟨p, 2, none⟩ (.inl rfl) _
  refine ⟨⟨?_, hm.row h.row (fun k hk e => h.ne k hk e), h.ne, h.lo⟩, hm⟩
  rw [setCell_blk h.blk]; rfl
theorem OAt.setG' {w : World} {base p g q : Nat} {part m : Int} {sv : Value} {vs : List Int} (h : OAt w base p sv g part q m vs) (g' : Nat) (x : Int) (hx : x = g') :
    OAt (w.setCell ⟨p, 1, none⟩ (.int .i64 x)) base p sv g' part q m vs ∧ Mod (fun k => k = p) w (w.setCell ⟨p, 1, none⟩ (.int .i64 x)) := by
  subst hx
  exact ⟨(h.setG g').1, (Mod.refl (fun k => k = p) w).setCell ⟨p, 1, none⟩ (.inl rfl) _⟩

set_option maxHeartbeats 800000 in
theorem oleft_gen (base p g q : Nat) (part m : Int) (sv : Value) (vs : List Int) (w : World) (h : OAt w base p sv g part q m vs) (hg : g ≤ vs.length) (hl : vs.length ≤ 4194304) :
    ∃ ao, (ao = none → vs.length = 0) ∧ Nar (fun k => sv.ownBlock = some k) w ao (vs.length - g) (vs.drop g) ∧
    ∀ W : World, W.heap[p]? = w.heap[p]? → Calls Try.prog 40 #[.pointer (some ⟨p, 0, none⟩)] W fun e w' => e = .returned (.slice ao (vs.length - g) (vs.length - g)) ∧ ∃ q, w' = W.drewN q := by
  have hblk := h.blk
  obtain ⟨a0, cap, rfl⟩ := row_slice h.row
  cases a0 with
  | none =>
    have h0 : vs.length = 0 ∧ cap = 0 := by
      rcases h.row.2 with ⟨e, _⟩ | ⟨g', c', cur, e, _⟩
      · injection e with e1 e2 e3
        exact ⟨e2, e3⟩
      · cases e
    obtain ⟨e1, rfl⟩ := h0
    obtain rfl : g = 0 := by omega
    refine ⟨none, fun _ => e1, ⟨by simp, fun hp => by omega⟩, fun W hW => ?_⟩
    have hb := hW.trans hblk
    have c0 := cell_blk hb 0 _ rfl
    have c1 := cell_blk hb 1 _ rfl
    rw [e1] at c0 ⊢
    clear h hblk hW hb
    go_enter Try.func40, Try.ntmps40
    go_wp2
    go_quiet (fail)
    go_wp2
    go_ret
    exact ⟨rfl, _, rfl⟩
  | some ad =>
    obtain ⟨b, cap', cur, hv, hbb, hgg, hnc, hcm, hcs, htk⟩ : ∃ g' cap' cur, (Value.slice (some ad) vs.length cap) = .slice (some ⟨g', 0, none⟩) vs.length cap' ∧ base ≤ g' ∧ w.heap[g']? = some (.cells cur 3 (0, 0)) ∧ vs.length ≤ cap' ∧ cap' ≤ maxLen ∧ cur.size = cap' * 1 ∧ cur.toList.take (vs.length * 1) = vs.map (.int .i64) := by
      rcases h.row.2 with ⟨e, _⟩ | h'
      · cases e
      · exact h'
    injection hv with e1 e2 e3
    injection e1 with e1
    subst e1; subst e3
    have hw := row_window3 h.row g (vs.length - g) (by omega)
    clear hgg htk hcs h
    by_cases hlt : g < vs.length
    · obtain ⟨b', e, ha⟩ := hw (by omega)
      cases e
      refine ⟨some ⟨b, g, none⟩, by simp, by rw [List.take_of_length_le (by simp)] at ha; exact ha, fun W hW => ?_⟩
      have hb := hW.trans hblk
      have c0 := cell_blk hb 0 _ rfl
      have c1 := cell_blk hb 1 _ rfl
      clear hw ha hb hW hblk
      go_enter Try.func40, Try.ntmps40
      go_wp2
      go_quiet (fail)
      go_wp2
      go_ret
      exact ⟨rfl, _, rfl⟩
    · obtain rfl : g = vs.length := by omega
      refine ⟨some ⟨b, 0, none⟩, by simp, ⟨by simp, fun hp => by omega⟩, fun W hW => ?_⟩
      have hb := hW.trans hblk
      have c0 := cell_blk hb 0 _ rfl
      have c1 := cell_blk hb 1 _ rfl
      clear hw hb hW hblk
      go_enter Try.func40, Try.ntmps40
      go_wp2
      go_quiet (fail)
      go_wp2
      go_ret
      exact ⟨by rw [Nat.sub_self]; rfl, _, rfl⟩

/-- How many of them are gone whole, and what is left over. -/
def goL : List Int → Int → Nat × Int
  | [], t => (0, t)
  | x :: xs, t => if x ≤ t then ((goL xs (t - x)).1 + 1, (goL xs (t - x)).2) else (0, t)
theorem drop_getD {vs : List Int} {g : Nat} (h : g < vs.length) : vs.drop g = vs.getD g 0 :: vs.drop (g + 1) := by
  rw [List.drop_eq_getElem_cons h]; simp [List.getD, h]

set_option maxHeartbeats 6400000 in
set_option maxRecDepth 100000 in
theorem goes_any (base p g q : Nat) (part m n : Int) (sv : Value) (vs : List Int) (w : World) (h : OAt w base p sv g part q m vs) (hg : g ≤ vs.length) (hl : vs.length ≤ 4194304) (hp : ∀ x ∈ vs.drop g, 0 ≤ x) (h0 : 0 ≤ part) (h1 : 0 ≤ n) (h2 : part + n ≤ 4611686018427387904) (k : Nat) (t : Int) (hgo : goL (vs.drop g) (part + n) = (k, t)) :
    Calls Try.prog 37 #[.pointer (some ⟨p, 0, none⟩), .int .i64 n] w fun e w' => e = .returned (.int .i64 k) ∧ OAt w' base p sv (g + k) t q m vs ∧ g + k ≤ vs.length ∧ Mod (fun k => k = p) w w' := by
  have c2 := h.c2
  have f2 := h.fz 2
  have l2 := h.lt
  obtain ⟨P0, hP0⟩ : ∃ P0, P0 = part + n := ⟨_, rfl⟩
  rw [← hP0] at hgo h2
  have hP1 : 0 ≤ P0 := by omega
  obtain ⟨g1, g2⟩ := h.setP P0
  obtain ⟨w1, hw⟩ : ∃ W, W = w.setCell ⟨p, 2, none⟩ (.int .i64 P0) := ⟨_, rfl⟩
  rw [← hw] at g1 g2
  have HQ1 := Lib.hid g1
  have HM1 := Lib.hid g2
  have E1 := Lib.hid hw
  have HGo := Lib.hid hgo
  have HP := Lib.hid hp
  have hPn : part + n = P0 := hP0.symm
  clear h hP0 g1 g2 hw hgo hp
  go_enter Try.func37, Try.ntmps37
  go_wp2_with fail
  rw [← E1.out]
  clear c2 f2
  go_loopg [4] (vs.length - g) (fun gk v4 wr => ∃ (j : Nat) (prt : Int), v4 = .int .i64 j ∧ g + j ≤ vs.length ∧ gk = vs.length - (g + j) ∧ OAt wr base p sv (g + j) prt q m vs ∧ Mod (fun k => k = p) w1 wr ∧ 0 ≤ prt ∧ prt ≤ P0 ∧ k = j + (goL (vs.drop (g + j)) prt).1 ∧ t = (goL (vs.drop (g + j)) prt).2)
  case atStart => exact ⟨0, P0, rfl, by omega, rfl, HQ1.out, Mod.refl _ _, hP1, Int.le_refl _, by rw [Nat.add_zero, HGo.out, Nat.zero_add], by rw [Nat.add_zero, HGo.out]⟩
  case round =>
    obtain ⟨j, prt, rfl, hj, hgk, hq, hm, hp0, hp1, hk, ht⟩ := hrel
    have HG := Lib.hid hgk
    have HQ := Lib.hid hq
    have HM := Lib.hid hm
    have HK := Lib.hid hk
    have HT := Lib.hid ht
    obtain ⟨ao, hao, hA, hL⟩ := oleft_gen base p (g + j) q prt m sv vs wr hq hj hl
    have HL := Lib.hid hL
    have HL2 : Hid (∀ k, Calls Try.prog 40 #[.pointer (some ⟨p, 0, none⟩)] (wr.drewN k) fun e w' => e = .returned (.slice ao (vs.length - (g + j)) (vs.length - (g + j))) ∧ ∃ q, w' = (wr.drewN k).drewN q) := Lib.hid fun k => hL _ rfl
    have c2 := hq.c2
    have f2 := hq.fz 2
    have lp := hq.lt
    clear hgk hm hk ht hL
    by_cases hlt : g + j < vs.length
    · obtain ⟨x, hx⟩ : ∃ x, x = vs.getD (g + j) 0 := ⟨_, rfl⟩
      have hdr := drop_getD hlt
      rw [← hx] at hdr
      have hx0 : 0 ≤ x := HP.out x (by
        have : x ∈ vs.drop (g + j) := by rw [hdr]; simp
        rw [← List.drop_drop] at this
        exact List.mem_of_mem_drop this)
      obtain ⟨b, off, rfl, hb, _, hc⟩ := hA.2 (by omega)
      have hcx : wr.cell? ⟨b, off, none⟩ = some (.int .i64 x) := by
        have := hc 0 (by omega)
        rw [hdr] at this
        exact this
      obtain ⟨N, hN⟩ : ∃ N, N = vs.length - (g + j) := ⟨_, rfl⟩
      have hNp : 0 < N := by omega
      have hNl : N ≤ 4194304 := by omega
      have d0 : decide ((0 : Int) < N) = true := by simpa using hNp
      rw [← hN] at HL HL2
      clear hc hA hao hq hN
      by_cases hle : x ≤ prt
      · have d1 : decide (x ≤ prt) = true := by simpa using hle
        have d2 : (decide (prt < x)) = false := by simp; omega
        have hstep : goL (vs.drop (g + j)) prt = ((goL (vs.drop (g + (j + 1))) (prt - x)).1 + 1, (goL (vs.drop (g + (j + 1))) (prt - x)).2) := by rw [hdr, goL, if_pos hle]; rfl
        have HST := Lib.hid hstep
        have hwx : IntKind.i64.wrap (prt - x) = prt - x := by simp [IntKind.wrap, IntKind.bits, IntKind.signed]; omega
        clear hstep hdr hx
        go_wp2_with fail
        go_quiet ((go_at_call 40; exact Calls.quiet_of (HL2.out _)))
        go_upto_region 4 with fail
        go_cut [] from 30 to 40 (fun wx => OAt wx base p sv (g + j) (prt - x) q m vs ∧ Mod (fun k => k = p) wr wx)
        case first =>
          go_region_with ((go_at_call 40; refine (HL2.out _).mono ?_; rintro e w' ⟨rfl, qx, rfl⟩))
          all_goals
            go_wp2
            go_meet
            exact ⟨((HQ.out.drewN _).setP _).1, ((Mod.of_below (Below.drewN' wr _) _).trans ((HQ.out.drewN _).setP _).2 (fun _ _ e => e))⟩
        case rest =>
          obtain ⟨hq4, hm4⟩ := hcut
          have d1' := hq4.c1
          have f1' := hq4.fz 1
          have l1' := hq4.lt
          obtain ⟨h5, hm5⟩ := hq4.setG' (g + (j + 1)) ((g : Int) + j + 1) (by omega)
          obtain ⟨w5, hw5⟩ : ∃ W, W = wc.setCell ⟨p, 1, none⟩ (.int .i64 ((g : Int) + j + 1)) := ⟨_, rfl⟩
          rw [← hw5] at h5 hm5
          have H5 := Lib.hid h5
          have HM5 := Lib.hid (hm4.trans hm5 (fun _ _ e => e))
          have E5 := Lib.hid hw5
          clear hq4 hm4 h5 hm5 hw5
          go_wp2_with fail
          go_roundg (vs.length - (g + (j + 1)))
          case measure => have := HG.out; omega
          case rel =>
            rw [← E5.out]
            have hk := HK.out
            have ht := HT.out
            rw [HST.out] at hk ht
            exact ⟨j + 1, prt - x, by go_num, by omega, rfl, H5.out, HM.out.trans HM5.out (fun _ _ e => e), by omega, by omega, by rw [hk]; omega, ht⟩
      · have d1 : decide (x ≤ prt) = false := by simpa using hle
        have hstep : goL (vs.drop (g + j)) prt = (0, prt) := by rw [hdr, goL, if_neg hle]
        have HST := Lib.hid hstep
        clear hstep hdr hx
        go_wp2_with fail
        go_quiet ((go_at_call 40; exact Calls.quiet_of (HL2.out _)))
        go_wp2
        go_ret
        have hk := HK.out
        have ht := HT.out
        rw [HST.out] at hk ht
        have hk' : k = j := by simpa using hk
        have ht' : t = prt := ht
        rw [hk', ht']
        exact ⟨rfl, HQ.out.drewN _, hj, (HM1.out.trans HM.out (fun _ _ e => e)).drewN _⟩
    · have hN : vs.length - (g + j) = 0 := by omega
      have hdr : vs.drop (g + j) = [] := List.drop_eq_nil_of_le (by omega)
      have d0 : decide ((0 : Int) < ((0 : Nat) : Int)) = false := by simp
      rw [hN] at HL2
      clear hA hao hq
      go_wp2_with fail
      go_quiet ((go_at_call 40; exact Calls.quiet_of (HL2.out _)))
      go_wp2
      go_ret
      have hk := HK.out
      have ht := HT.out
      rw [hdr] at hk ht
      have hk' : k = j := by simpa [goL] using hk
      have ht' : t = prt := ht
      rw [hk', ht']
      exact ⟨rfl, HQ.out.drewN _, hj, (HM1.out.trans HM.out (fun _ _ e => e)).drewN _⟩
end Go.Proofs.Ytneeagabmdpjgaa
