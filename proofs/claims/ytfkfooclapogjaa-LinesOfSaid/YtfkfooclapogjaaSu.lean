/-
  The document's decoder: Write, walked.
-/
import Derived.Test.YtfkfooclapogjaaSi
import Derived.Test.YtfkfooclapogjaaSj
namespace Go.Proofs.Ytfkfooclapogjaa
open Go.RowKit
set_option linter.unusedVariables false
set_option linter.unusedSimpArgs false

/-- The result's box, and all bytes. -/
structure Dw (w : World) (g : Nat) (W : World) : Prop where
  r : W.heap[w.heap.size + 1]? = some (.cells #[.slice none 0 0] 46 (0, 0))
  g1 : w.heap.size + 1 < g
  below : Below w.heap.size w W

set_option maxHeartbeats 6400000 in
set_option maxRecDepth 100000 in
theorem refWrite_any {T U : Nat → Prop} (da : Option Addr) (dn dc : Nat) (ds : List Int) (bo : Option Addr) (m c : Nat) (bs : List Int) (w : World) (hd : Arg T w da dn ds) (hdn : da = none → dn = 0 ∧ dc = 0) (hb : Arg U w bo m bs) (hbn : bo = none → m = 0 ∧ c = 0) (hyd : Byt ds) (hyb : Byt bs) (hl : dn + m ≤ 1000000) :
    Calls Try.prog 32 #[.agg #[.slice da dn dc], .slice bo m c] w fun e w' => ∃ a n' c', e = .returned (.tuple #[.agg #[.slice a n' c'], .string (strOfNums (enc (pts (ds ++ bs))))]) ∧ Arg (fun k => w.heap.size ≤ k) w' a n' (wts (ds ++ bs)) ∧ (a = none → n' = 0 ∧ c' = 0) ∧ Below w.heap.size w w' := by
  obtain ⟨i0, hi0, hz0, hz1, hz2⟩ := info_parts Try.info5
  obtain ⟨W1, hW1⟩ : ∃ W, W = w.alloc (.cells #[.slice da dn dc] 46) := ⟨_, rfl⟩
  obtain ⟨W2, hW2⟩ : ∃ W, W = W1.alloc (.cells #[.slice none 0 0] 46) := ⟨_, rfl⟩
  obtain ⟨W3, hW3⟩ : ∃ W, W = W2.alloc (.cells #[] 5) := ⟨_, rfl⟩
  have s1 : W1.heap.size = w.heap.size + 1 := by rw [hW1]; simp
  have s2 : W2.heap.size = w.heap.size + 2 := by rw [hW2]; simp [s1]
  have b1 : Below w.heap.size w W1 := by rw [hW1]; exact (Below.refl _ w).alloc (Nat.le_refl _) _
  have b2 : Below w.heap.size w W2 := by rw [hW2]; exact b1.alloc b1.size _
  have b3' : Below W2.heap.size W2 W3 := by rw [hW3]; exact (Below.refl _ W2).alloc (Nat.le_refl _) _
  have b3 : Below w.heap.size w W3 := b2.trans (b3'.mono b2.size)
  have k1 : W2.heap[w.heap.size]? = some (.cells #[.slice da dn dc] 46 (0, 0)) := by rw [hW2]; refine alloc_blk ?_ _; rw [hW1]; exact alloc_blk_new _ _
  have k2 : W2.heap[w.heap.size + 1]? = some (.cells #[.slice none 0 0] 46 (0, 0)) := by rw [hW2, ← s1]; exact alloc_blk_new _ _
  have hr0 : W3.ownsRow (w.heap.size + 2) 5 1 (.slice (some ⟨w.heap.size + 2, 0, none⟩) 0 0) 0 [] := by
    have := World.ownsRow_lit (base := w.heap.size + 2) (e := 5) (size := 1) W2 #[] 0 (by omega) (by simp) rfl
    rw [hW3, ← s2]; rw [← s2] at this; exact this
  have c1 := cell_blk k1 0 (.slice da dn dc) rfl
  have l1 := blk_lt k1
  have K23 := Lib.hid ((b3'.block _ (blk_lt k2)).trans k2)
  have HD3 := Lib.hid (hd.below b3)
  have HB0 := Lib.hid hb
  have HD0 := Lib.hid hd
  have HDL := Lib.hid hd.1
  have HBL := Lib.hid hb.1
  have HR3 := Lib.hid hr0
  have B3 := Lib.hid b3
  have E1 := Lib.hid hW1
  have E2 := Lib.hid hW2
  have E3 := Lib.hid hW3
  have S2 := Lib.hid s2
  have HY := Lib.hid (Byt.append.2 ⟨hyd, hyb⟩)
  have hs3 : w.heap.size + 2 ≤ W3.heap.size := by rw [hW3]; simp [s2]
  clear hd hb hyd hyb b1 b2 b3 b3' k1 k2 hr0 hW1 hW2 hW3 s1 s2
  go_enter Try.func32, Try.ntmps32
  go_upto_region 1 with fail
  rw [← E1.out, ← E2.out]
  go_wp2_with (at_builtin; go_loud (rw [← E3.out]); go_loud (rw [S2.out]); go_loud (refine wpList_append_f _ rfl (.tmp 11) (.tmp 13) 22 rfl (w.heap.size + 2) 5 i0 (.int .u8 0) 1 1 Try.underlying22 hi0 hz0 hz1 hz2 rfl (by decide) (.slice (some ⟨w.heap.size + 2, 0, none⟩) 0 0) 0 [] rfl HR3.out da dn dc (ds.map (.int .u8)) (by go_simp) (by simpa using HDL.out) hdn HD3.out.news (one_u8 _) ?c3 ?c4 (by omega) ?_))
  case c3 => unfold maxLen; omega
  case c4 => omega
  intro v4 w4 hown hg hf _
  have hb4 : Below w.heap.size w w4 := B3.out.grown hg B3.out.size (fun k e => by cases e; show w.heap.size ≤ w.heap.size + 2; omega)
  have k4 := (hg.block _ (blk_lt K23.out) (fun e => by injection e with e; have e' : w.heap.size + 1 = w.heap.size + 2 := e; omega)).trans K23.out
  try rw [Nat.zero_add, List.nil_append] at hown
  obtain ⟨a4, c4, rfl⟩ := row_slice hown
  have HR4 := Lib.hid hown
  have HB4 : Hid (Arg U w4 bo m bs) := Lib.hid (HB0.out.below hb4)
  have B4 := Lib.hid hb4
  have K4 := Lib.hid k4
  have hs4 : w.heap.size + 2 ≤ w4.heap.size := Nat.le_trans hs3 hg.size
  clear hown hg hf hb4 k4 c1 l1 HR3 HD3 B3 K23
  go_wp2_with (at_builtin; go_loud (refine wpList_append_f _ rfl (.tmp 14) (.tmp 15) 22 rfl (w.heap.size + 2) 5 i0 (.int .u8 0) 1 1 Try.underlying22 hi0 hz0 hz1 hz2 rfl (by decide) _ _ _ rfl HR4.out bo m c (bs.map (.int .u8)) rfl (by simpa using HBL.out) hbn HB4.out.news (one_u8 _) ?c3 ?c4 (by omega) ?_))
  case c3 => unfold maxLen; omega
  case c4 => omega
  intro v5 w5 hown hg hf _
  have hb5 : Below w.heap.size w w5 := B4.out.grown hg B4.out.size (fun k e => by have := (HR4.out.lt k e).1; omega)
  have k5 := (hg.block _ (blk_lt K4.out) (fun e => by have := (HR4.out.lt _ e.symm).1; omega)).trans K4.out
  obtain ⟨X, hX⟩ : ∃ X, X = ds ++ bs := ⟨_, rfl⟩
  have hown2 : w5.ownsRow (w.heap.size + 2) 5 1 v5 (dn + m) (X.map (.int .u8)) := by rw [hX]; simpa using hown
  obtain ⟨ao, c5, rfl⟩ := row_slice hown2
  obtain ⟨hxl, hA, hnn⟩ := row_arg hown2
  rw [hxl] at hA hnn
  have hcap : dn + m ≤ c5 ∧ c5 ≤ maxLen := by
    rcases hown2.2 with ⟨e, h0⟩ | ⟨g, cap', cur, e, _, _, e1, e2, _⟩
    · injection e with e1 e2 e3
      subst e3
      unfold maxLen
      omega
    · injection e with e3 e4 e5
      subst e5
      exact ⟨e1, e2⟩
  have hwtb := wts_byt (HY.out)
  rw [← hX] at hwtb
  have HYX : Hid (Byt X) := Lib.hid (by rw [hX]; exact HY.out)
  obtain ⟨PX, hPX⟩ : ∃ PX, PX = pts (ds ++ bs) := ⟨_, rfl⟩
  obtain ⟨WX, hWX⟩ : ∃ WX, WX = wts (ds ++ bs) := ⟨_, rfl⟩
  rw [← hX] at hPX hWX
  have B5 := Lib.hid hb5
  have K5 := Lib.hid k5
  have HA5 := Lib.hid hA
  have HXL := Lib.hid hxl
  have hs5 : w.heap.size + 2 ≤ w5.heap.size := Nat.le_trans hs4 hg.size
  have HPX := Lib.hid (And.intro hPX hWX)
  have hA5 : Arg (fun q => w.heap.size + 2 ≤ q ∧ q < w5.heap.size) w5 ao (dn + m) X := hA.mono fun k h1 h2 => ⟨h2, h1⟩
  have HA6 := Lib.hid hA5
  obtain ⟨hc1, hc2⟩ := hcap
  unfold maxLen at hc2
  have hXe : pts (ds ++ bs) = PX ∧ wts (ds ++ bs) = WX := ⟨by rw [hPX, hX], by rw [hWX, hX]⟩
  have HXE := Lib.hid hXe
  clear hown hown2 hg hf hb5 k5 hX hA hxl hwtb hPX hWX hA5 hXe HR4 HB4 B4 K4 hs4 HA5 HY
  go_wp2_with fail
  go_loopg [6, 7] (dn + m) (fun gk v6 v7 wr => ∃ (k : Nat) (pre : List Int) (a' : Option Addr) (n' c' : Nat), v6 = .slice a' n' c' ∧ gk = n' ∧ Arg (fun q => w.heap.size + 2 ≤ q ∧ q < w5.heap.size) wr a' n' (X.drop k) ∧ (a' = none → n' = 0 ∧ c' = 0) ∧ n' ≤ c' ∧ c' ≤ 9223372036854775807 ∧
    wr.ownsRow w5.heap.size 5 1 v7 (enc pre).length ((enc pre).map (.int .u8)) ∧ Hid (PX = pre ++ pts (X.drop k)) ∧ Hid (WX = wts (X.drop k)) ∧ Below w5.heap.size w5 wr ∧ k + n' = dn + m ∧ pre.length ≤ k)
  case atStart => exact ⟨0, [], ao, dn + m, c5, rfl, rfl, HA6.out, hnn, hc1, hc2, by simpa [enc] using World.ownsRow_nil w5 w5.heap.size 5 1, Lib.hid (by rw [List.drop_zero]; exact HPX.out.1), Lib.hid (by rw [List.drop_zero]; exact HPX.out.2), Below.refl _ _, by omega, by simp⟩
  case round =>
    obtain ⟨k, pre, a', n', c', rfl, hgk, hA, hna, hnc, hcm, hrow, HP, HW, hbw, hkn, hpk⟩ := hrel
    have HG := Lib.hid hgk
    have HA := Lib.hid hA
    have HNA := Lib.hid hna
    have HB := Lib.hid hbw
    have hbs := hbw.size
    obtain ⟨so, sc, rfl⟩ := row_slice hrow
    have HR := Lib.hid hrow
    obtain ⟨_, hAo, hno⟩ := row_arg hrow
    obtain ⟨E, hE⟩ : ∃ E, E = (enc pre).length := ⟨_, rfl⟩
    have hEl : E ≤ 4000000 := by have := enc_len pre; omega
    obtain ⟨SS, hSS⟩ : ∃ SS, SS = strOfNums (enc pre) := ⟨_, rfl⟩
    have HCo : Hid (∀ W, Mod (fun k => k = w.heap.size + 1) wr W → (convert 22 9 (.slice so E sc)).run Try.prog W = .ok (.string SS) W) := Lib.hid fun W hW => by
      rw [hE, hSS]
      exact conv_any sc (hAo.mod hW (fun k hk e => by have h8 : w5.heap.size ≤ k := hk; omega)) hno
    have kr := (hbw.block _ (blk_lt K5.out)).trans K5.out
    have KR := Lib.hid kr
    rw [← hE] at HR ⊢
    have HE := Lib.hid hE
    have HSS := Lib.hid hSS
    have HBx : Hid (Below w.heap.size w wr) := Lib.hid (B5.out.trans (hbw.mono B5.out.size))
    clear hgk hA hna hbw hrow hAo hno hE hSS kr
    by_cases hz : n' = 0
    · subst hz
      have hdr : X.drop k = [] := List.eq_nil_of_length_eq_zero HA.out.1
      have hp := HP.out
      have hw := HW.out
      rw [hdr] at hp hw
      rw [pts_nil, List.append_nil] at hp
      rw [wts_nil] at hw
      have HPW := Lib.hid (And.intro hp hw)
      clear hdr hp hw
      have q5 := cell_blk KR.out 0 (.slice none 0 0) rfl
      have r5 := frozen_blk KR.out 0
      have s5 := blk_lt KR.out
      have t1 := HCo.out wr.drew (Mod.of_below (Below.drewN' wr 1) _)
      have t2 := HCo.out (wr.setCell ⟨w.heap.size + 1, 0, none⟩ (.slice none 0 0)).drew (((Mod.refl (fun k => k = w.heap.size + 1) wr).setCell ⟨w.heap.size + 1, 0, none⟩ (.inl rfl) _).trans (Mod.of_below (Below.drewN' _ 1) _) (fun _ _ e => e))
      go_wp2_with fail
      go_region
      all_goals
        go_wp2
        refine bodyPost_ret (v := .tuple #[.agg #[.slice none 0 0], .string SS]) (by simp [results, Try.results32, go_sem, *]) rfl ⟨none, 0, 0, ?_, ⟨?_, fun hp => by omega⟩, fun _ => ⟨rfl, rfl⟩, ?_⟩
        · rw [HSS.out, HXE.out.1, HPW.out.1]
        · rw [HXE.out.2, HPW.out.2]; rfl
        · exact ((HBx.out.trans ((Below.drewN' wr 1).mono HBx.out.size)).setCell (p := ⟨w.heap.size + 1, 0, none⟩) (by simp) _)
    · have hpos : 0 < n' := by omega
      have d1 : decide (0 < n') = true := by simpa using hpos
      have d2 : decide ((0 : Int) < n') = true := by simpa using hpos
      obtain ⟨b0, off0, rfl⟩ : ∃ b off, a' = some ⟨b, off, none⟩ := by
        obtain ⟨b, off, e, _⟩ := HA.out.2 hpos
        exact ⟨b, off, e⟩
      have hrl := HA.out.1
      have hyr : Byt (X.drop k) := HYX.out.drop k
      have HFi := Lib.hid (refFirst_any _ n' c' (X.drop k) wr HA.out hpos (by omega) hnc hyr)
      have hFl := F_len (X.drop k) (by omega)
      have hPt := F_pt (X.drop k) hyr (by omega)
      obtain ⟨p, hp⟩ : ∃ p, p = (F (X.drop k)).1 := ⟨_, rfl⟩
      obtain ⟨kk, hkk⟩ : ∃ kk, kk = (F (X.drop k)).2.1 := ⟨_, rfl⟩
      obtain ⟨wh, hwh⟩ : ∃ wh, wh = (F (X.drop k)).2.2 := ⟨_, rfl⟩
      rw [← hp, ← hkk, ← hwh] at HFi
      rw [← hkk] at hFl
      rw [← hp] at hPt
      rw [hrl] at hFl
      obtain ⟨hk1, hk2, hk4, _⟩ := hFl
      have HF := Lib.hid (And.intro hp (And.intro hkk hwh))
      have HRL := Lib.hid hrl
      clear hp hkk hwh hrl hyr hz
      go_wp2_with (go_at_call 50; fail)
      refine HFi.out.mono ?_
      rintro e w1 ⟨rfl, hb1⟩
      have HA1 := Lib.hid (HA.out.below hb1)
      have HR1 := Lib.hid ((Mod.of_below hb1 (fun _ => False)).row HR.out (fun _ _ h => h))
      have HB1 := Lib.hid (HB.out.trans (hb1.mono HB.out.size))
      have HBx1 := Lib.hid (HBx.out.trans (hb1.mono HBx.out.size))
      have KR1 := Lib.hid ((hb1.block _ (blk_lt KR.out)).trans KR.out)
      have HCo1 : Hid (∀ W, Mod (fun k => k = w.heap.size + 1) w1 W → (convert 22 9 (.slice so E sc)).run Try.prog W = .ok (.string SS) W) := Lib.hid fun W hW => HCo.out W ((Mod.of_below hb1 _).trans hW (fun _ _ e => e))
      have hs1 := HB1.out.size
      clear hb1 HFi HA HR HB HBx KR HCo
      cases wh with
      | false =>
        have hw := wts_wait (X.drop k) (by have := HRL.out; omega) HF.out.2.2.symm
        have hpp := pts_wait (X.drop k) (by have := HRL.out; omega) HF.out.2.2.symm
        have HPW : Hid (PX = pre ∧ WX = X.drop k) := Lib.hid ⟨by rw [HP.out, hpp, List.append_nil], by rw [HW.out, hw]⟩
        clear hw hpp
        have q5 := cell_blk KR1.out 0 (.slice none 0 0) rfl
        have r5 := frozen_blk KR1.out 0
        have s5 := blk_lt KR1.out
        have t1 := HCo1.out w1.drew (Mod.of_below (Below.drewN' w1 1) _)
        have hm2 : Mod (fun k => k = w.heap.size + 1) w1 (w1.setCell ⟨w.heap.size + 1, 0, none⟩ (.slice (some ⟨b0, off0, none⟩) n' c')).drew := ((Mod.refl (fun k => k = w.heap.size + 1) w1).setCell ⟨w.heap.size + 1, 0, none⟩ (.inl rfl) _).trans (Mod.of_below (Below.drewN' _ 1) _) (fun _ _ e => e)
        have t2 := HCo1.out _ hm2
        have HA2 : Hid (Arg (fun k => w.heap.size ≤ k) (w1.setCell ⟨w.heap.size + 1, 0, none⟩ (.slice (some ⟨b0, off0, none⟩) n' c')).drew (some ⟨b0, off0, none⟩) n' (X.drop k)) := Lib.hid ((HA1.out.mod hm2 (fun k hk e => by omega)).mono fun k _ hk => by omega)
        clear hm2
        go_wp2_with fail
        go_region
        all_goals
          go_wp2
          refine bodyPost_ret (v := .tuple #[.agg #[.slice (some ⟨b0, off0, none⟩) n' c'], .string SS]) (by simp [results, Try.results32, go_sem, *]) rfl ⟨some ⟨b0, off0, none⟩, n', c', ?_, ?_, fun e => by (cases e), ?_⟩
          · rw [HSS.out, HXE.out.1, HPW.out.1]
          · rw [HXE.out.2, HPW.out.2]; exact HA2.out
          · exact ((HBx1.out.trans ((Below.drewN' w1 1).mono HBx1.out.size)).setCell (p := ⟨w.heap.size + 1, 0, none⟩) (by simp) _)
      | true =>
        have hlp := HRL.out
        have hst := wts_step (X.drop k) (by omega) HF.out.2.2.symm
        have hpp := pts_step (X.drop k) (by omega) HF.out.2.2.symm
        rw [← HF.out.2.1, List.drop_drop] at hst hpp
        rw [← HF.out.1] at hpp
        have HP2 : Hid (PX = (pre ++ [p]) ++ pts (X.drop (k + kk))) := Lib.hid (by rw [HP.out, hpp]; simp)
        have HW2 : Hid (WX = wts (X.drop (k + kk))) := Lib.hid (by rw [HW.out, hst])
        have HBy := Lib.hid (refBytes_any p w1 hPt)
        clear hlp hst hpp
        go_wp2_with (go_at_call 35; fail)
        refine HBy.out.mono ?_
        rintro e w2 ⟨ap, cp, rfl, hAp, hnp, hb2⟩
        have HA2 := Lib.hid (HA1.out.below hb2)
        have HR2 := Lib.hid ((Mod.of_below hb2 (fun _ => False)).row HR1.out (fun _ _ h => h))
        have HB2 := Lib.hid (HB1.out.trans (hb2.mono HB1.out.size))
        have hbl4 := bytesL_len p
        obtain ⟨Kp', hKp⟩ : ∃ Kp', Kp' = (bytesL p).length := ⟨_, rfl⟩
        rw [← hKp] at hAp hbl4 ⊢
        have HKP := Lib.hid hKp
        have HAp := Lib.hid hAp
        have hs2 := HB2.out.size
        clear hb2 hAp hKp HBy HA1 HR1 HB1
        go_wp2_with (at_builtin; go_loud (refine wpList_append_f _ rfl (.tmp 32) (.tmp 34) 22 rfl w5.heap.size 5 i0 (.int .u8 0) 1 1 Try.underlying22 hi0 hz0 hz1 hz2 rfl (by decide) _ _ _ rfl HR2.out ap Kp' cp ((bytesL p).map (.int .u8)) rfl (by simp [HKP.out]) (fun e => absurd e hnp) HAp.out.news (one_u8 _) ?c3 ?c4 (by omega) ?_))
        case c3 => unfold maxLen; omega
        case c4 => omega
        intro v3 w3 hown hg hf _
        have hb3 : Below w5.heap.size w5 w3 := HB2.out.grown hg HB2.out.size (fun k e => (HR2.out.lt k e).1)
        have hrow3 : w3.ownsRow w5.heap.size 5 1 v3 (enc (pre ++ [p])).length ((enc (pre ++ [p])).map (.int .u8)) := by
          rw [enc_append, List.length_append, List.map_append, ← HE.out, show enc [p] = bytesL p by simp [enc], ← HKP.out]
          exact hown
        have hA3 : Arg (fun q => w.heap.size + 2 ≤ q ∧ q < w5.heap.size) w3 (some ⟨b0, off0, none⟩) n' (X.drop k) :=
          HA2.out.mod (S := fun q => w5.heap.size ≤ q) ⟨hg.os, hg.tape, hg.output, hg.size, fun q hq hn => hg.block q hq (fun e => hn (HR2.out.lt q e.symm).1)⟩ (fun q hq e => by omega)
        have HA3 := Lib.hid hA3
        have HB3 := Lib.hid hb3
        have HR3 := Lib.hid hrow3
        obtain ⟨so3, sc3, rfl⟩ := row_slice hown
        clear hown hg hf hb3 hrow3 hA3 HA2 HR2 HB2 HAp
        have hdrop : Hid (∀ a2 : Option Addr, (kk < c' → a2 = some ⟨b0, off0 + kk, none⟩) → (kk = c' → a2 = some ⟨b0, off0, none⟩) → Arg (fun q => w.heap.size + 2 ≤ q ∧ q < w5.heap.size) w3 a2 (n' - kk) (X.drop (k + kk)) ∧ (a2 = none → n' - kk = 0 ∧ c' - kk = 0)) := Lib.hid fun a2 e1 e2 => by
          refine ⟨⟨by have := HRL.out; rw [← List.drop_drop, List.length_drop, this], fun hp => ?_⟩, fun e => ?_⟩
          · obtain ⟨b, off, e, hb, hT, hc⟩ := HA3.out.2 hpos
            cases e
            refine ⟨b0, off0 + kk, e1 (by omega), hb, hT, fun j hj => ?_⟩
            have h2 := hc (kk + j) (by omega)
            rw [← Nat.add_assoc] at h2
            rw [h2]
            simp [List.getD, List.getElem?_drop, Nat.add_assoc]
          · rcases Nat.lt_or_ge kk c' with h | h
            · rw [e1 h] at e; cases e
            · rw [e2 (by omega)] at e; cases e
        have hck : kk ≤ c' := by omega
        have hEK : Hid ((enc (pre ++ [p])).length = E + Kp') := Lib.hid (by rw [enc_append, List.length_append, ← HE.out, show enc [p] = bytesL p by simp [enc], ← HKP.out])
        rcases Nat.lt_or_ge kk c' with hkc | hkc
        · have hne : ¬ c' = kk := by omega
          have hne2 : ¬ kk = c' := by omega
          go_wp2
          go_roundg (n' - kk)
          case measure => have := HG.out; omega
          case rel =>
            obtain ⟨h1, h2⟩ := hdrop.out (some ⟨b0, off0 + kk, none⟩) (fun _ => rfl) (fun e => by omega)
            exact ⟨k + kk, pre ++ [p], some ⟨b0, off0 + kk, none⟩, n' - kk, c' - kk, rfl, rfl, h1, h2, by omega, by omega, by have := HR3.out; rw [hEK.out] at this ⊢; exact this, HP2, HW2, HB3.out, by omega, by rw [List.length_append, List.length_singleton]; omega⟩
        · obtain rfl : kk = c' := by omega
          obtain rfl : n' = kk := by omega
          go_wp2
          go_roundg 0
          case measure => have := HG.out; omega
          case rel =>
            obtain ⟨h1, h2⟩ := hdrop.out (some ⟨b0, off0, none⟩) (fun e => by omega) (fun _ => rfl)
            rw [Nat.sub_self] at h1 h2
            exact ⟨k + n', pre ++ [p], some ⟨b0, off0, none⟩, 0, 0, by simp, rfl, h1, h2, by omega, by omega, by have := HR3.out; rw [hEK.out] at this ⊢; exact this, HP2, HW2, HB3.out, by omega, by rw [List.length_append, List.length_singleton]; omega⟩
end Go.Proofs.Ytfkfooclapogjaa
