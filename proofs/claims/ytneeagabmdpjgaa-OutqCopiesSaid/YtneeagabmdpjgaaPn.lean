/-
  A call by both: Push, by its second number.
-/
import Derived.Test.YtneeagabmdpjgaaPl
namespace Go.Proofs.Ytneeagabmdpjgaa
open Go.RowKit
set_option linter.unusedVariables false
set_option linter.unusedSimpArgs false

set_option maxHeartbeats 6400000 in
set_option maxRecDepth 100000 in
theorem act_push1 {w u0 : World} {K Ka : Nat → Prop} {p : Nat} {m part : Int} {fs bs : List Int} {ra : Option Addr} {rc g n : Nat} {ls : List (List Int)} (z : OV) (h : OS w K p m fs part bs u0) (hK : ∀ k, K k → w.heap.size ≤ k) (hd : DQ (fun q => K q ∧ Ka q) u0 ra rc ls) (hnl : ls.length = n) (ht : Tie ls g fs part bs) (hn : n ≤ 90000) (hz : z.Ok (fun k => k < w.heap.size) u0) (hf : Few z) (hw : z.what = 1) :
    Calls Try.prog 19 #[.pointer (some ⟨p, 0, none⟩), dagg ra n rc g m, zagg z] u0 (Acted w K Ka m ls u0) := by
  have HNum := Lib.hid num_any
  obtain ⟨hfx, hb0⟩ := Fx.start u0 (.slice ra n rc) g m z
  have hs0 := (St.start h hK).grow hb0
  obtain ⟨W0, hW0⟩ : ∃ W, W = (((u0.alloc (.cells #[.slice ra n rc, .int .i64 g, .int .i64 m] 43)).alloc (.cells #[.int .i64 z.what, .int .i64 z.n, .slice z.a z.ls.length z.c] 32)).alloc (.cells #[.slice none 0 0, .int .i64 0, .int .i64 0] 43)) := ⟨_, rfl⟩
  rw [← hW0] at hfx hb0 hs0
  obtain ⟨X0, hX0⟩ : ∃ X0, X0 = More K u0 W0 := ⟨_, rfl⟩
  rw [← hX0] at hs0
  have HX0 : Hid (∀ k, u0.heap.size ≤ k → k < W0.heap.size → X0 k) := Lib.hid (fun k h1 h2 => by rw [hX0]; exact .inr ⟨h1, h2⟩)
  have HX00 : Hid (∀ k, X0 k → K k ∨ (u0.heap.size ≤ k ∧ k < W0.heap.size)) := Lib.hid (fun k h1 => by rw [hX0] at h1; exact h1)
  have HD : Hid (DQ (fun k => (K k ∧ Ka k) ∧ k < u0.heap.size) W0 ra rc ls) := Lib.hid ((hd.mono (fun k h1 h2 => ⟨h2, h1⟩)).below hb0)
  have HKL := Lib.hid h.klt
  have HBD := Lib.hid h.bounds
  have HINV := Lib.hid h.inv
  have hu0 := h.below.size
  have HT := Lib.hid ht
  have HNL := Lib.hid hnl
  have HZ := Lib.hid hz
  have HFW := Lib.hid hf
  have HK := Lib.hid hK
  have HF0 := Lib.hid hfx
  have HS0 := Lib.hid hs0
  have HB0 := Lib.hid hb0
  have hl0 := hfx.lt
  obtain ⟨⟨c0, c1, c2⟩, ⟨c3, c4, c5⟩, ⟨c6, c7, c8⟩, f6, f7, f8⟩ := hfx.cells
  obtain ⟨i0, hi0, hz0, hz1, hz2⟩ := info_parts Try.info29
  obtain ⟨j0, hj0, hjz0, hjz1, hjz2⟩ := info_parts Try.info5
  have hbm := h.bounds
  obtain ⟨ls', n', fs', bs', er, hnl', hor, ht', hRP, hOP⟩ := push_un (ns := z.ls) (m := m) hnl ht h.inv (by omega) hbm.2.2 hbm.2.1 hf.1 hf.2
  obtain ⟨L, hL⟩ : ∃ L, L = z.ls.length := ⟨_, rfl⟩
  have hL8 : L ≤ 8 := by rw [hL]; exact hf.1
  have HRP : Hid (∀ W, DQ (fun k => (K k ∧ Ka k) ∧ k < u0.heap.size) W ra rc ls → Parts (fun k => k < w.heap.size) W z.a z.ls → Calls Try.prog 41 #[dagg ra n rc g m, .slice z.a L z.c] W fun e w' => ∃ a' c', e = .returned (.tuple #[dagg a' n' c' g m, .int .i64 er]) ∧ DQ (fun k => ((K k ∧ Ka k) ∧ k < u0.heap.size) ∨ W.heap.size ≤ k) w' a' c' ls' ∧ Below W.heap.size W w') := Lib.hid (fun W hd hP => by rw [hL]; exact hRP ra rc W z.a z.c hd hP)
  have HOP : Hid (∀ X W pa pc, OS w X p m fs part bs W → Parts (fun k => k < w.heap.size ∨ X k) W pa z.ls → Calls Try.prog 11 #[.pointer (some ⟨p, 0, none⟩), .slice pa L pc] W fun e w' => e = .returned (.int .i64 er) ∧ OS w X p m fs' part bs' w' ∧ Mod (fun k => ¬ X k ∧ w.heap.size ≤ k) W w') := Lib.hid (fun X W pa pc ho hP => by rw [hL]; exact hOP pa pc ho hP)
  have HPZ : Hid (Parts (fun k => k < w.heap.size) W0 z.a z.ls) := Lib.hid (hz.ps.below hb0)
  have HOR := Lib.hid (And.intro hor (And.intro hnl' ht'))
  have HLL := Lib.hid hL
  unfold dagg at HRP
  rw [hw] at c3
  rw [← hL] at c5
  unfold zagg dagg
  rw [← hL]
  rw [← hL] at hW0
  have HE := Lib.hid hW0
  clear h hK hd hnl ht hz hf hfx hs0 hb0 hW0 hX0 hbm hRP hOP hor hnl' ht' hL
  go_enter Try.func19, Try.ntmps19
  rw [hw]
  rw [hw] at HE
  go_upto_region 6 with fail
  rw [← HE.out]
  clear c0 c1 c2 c4 c6 c7 c8 f6 f7 f8
  go_wp2_with fail
  go_loopg [9, 10] L (fun gk v9 v10 wr => ∃ (i : Nat) (a : Option Addr) (c' : Nat) (vals : List Value), v9 = .slice a i c' ∧ v10 = .int .i64 i ∧ i ≤ L ∧ gk = L - i ∧ wr.ownsRow W0.heap.size 29 1 (.slice a i c') i vals ∧ Below W0.heap.size W0 wr ∧ Fr W0.heap.size (.slice a i c') vals (z.ls.take i) wr)
  case atStart => exact ⟨0, none, 0, [], rfl, rfl, by omega, rfl, World.ownsRow_nil _ _ _ _, Below.refl _ _, Fr.nil _ _ _⟩
  case round =>
    obtain ⟨i, a, c', vals, rfl, rfl, hi, hgk, hrow, hbw, hv⟩ := hrel
    have HG := Lib.hid hgk
    have HR := Lib.hid hrow
    have HB := Lib.hid hbw
    have HV := Lib.hid hv
    have HFW2 := Lib.hid (HF0.out.bel hbw)
    obtain ⟨⟨c0, c1, c2⟩, ⟨c3, c4, c5⟩, c6⟩ := HFW2.out.cells
    have lw := HFW2.out.lt
    have lw1 : u0.heap.size + 1 < wr.heap.size := by omega
    have lw0 : u0.heap.size < wr.heap.size := by omega
    rw [hw] at c3
    rw [← HLL.out] at c5
    clear hgk hrow hbw hv c6
    by_cases hlt : i < L
    · have l1 : decide ((i : Int) < L) = true := by simpa using hlt
      have hils : i < z.ls.length := by rw [← HLL.out]; exact hlt
      obtain ⟨pb, poff, hpa, hpb, _, hpc⟩ := (HPZ.out.below HB.out) (by omega)
      obtain ⟨fa, fc, f1, f2, f3⟩ := hpc i hils
      obtain ⟨x, hx⟩ : ∃ x, x = z.ls.getD i [] := ⟨_, rfl⟩
      rw [← hx] at f1 f2 f3
      have htk : z.ls.take (i + 1) = z.ls.take i ++ [x] := by
        rw [List.take_succ_eq_append_getElem hils, hx]
        simp [List.getD, hils]
      have hx60 : x.length ≤ 60 := HFW.out.2 x (by rw [hx]; simp [List.getD, hils])
      obtain ⟨M, hM⟩ : ∃ M, M = x.length := ⟨_, rfl⟩
      rw [hpa] at c5
      rw [← hM] at f1 f2 f3
      have hM60 : M ≤ 60 := by omega
      obtain ⟨wa, hwa⟩ : ∃ W, W = wr.alloc (.cells #[] 5) := ⟨_, rfl⟩
      have hba : Below wr.heap.size wr wa := by rw [hwa]; exact (Below.refl _ wr).alloc (Nat.le_refl _) _
      have HRa : Hid (wa.ownsRow wr.heap.size 5 1 (.slice (some ⟨wr.heap.size, 0, none⟩) 0 0) 0 []) := Lib.hid (by rw [hwa]; exact World.ownsRow_lit wr #[] 0 (Nat.le_refl _) (by simp) rfl)
      have HNa := Lib.hid ((f2.below hba).news)
      have hsa : wr.heap.size ≤ wa.heap.size := hba.size
      have hnew : (x.map (Value.int .u8)).length = M * 1 := by rw [List.length_map, hM]; omega
      have HTK := Lib.hid htk
      have Ea := Lib.hid hwa
      have HBa := Lib.hid hba
      have HM := Lib.hid hM
      clear hpc f2 hx htk hx60 hwa hba hM hils hpa
      go_wp2_with (at_builtin; go_loud (rw [← Ea.out]); go_loud (refine wpList_append_f _ rfl (.tmp 44) (.tmp 49) 29 rfl wr.heap.size 5 j0 (.int .u8 0) 1 1 Try.underlying29 hj0 hjz0 hjz1 hjz2 rfl (by decide) _ _ _ rfl HRa.out fa M fc (x.map (.int .u8)) rfl hnew f3 HNa.out (one_u8 x) ?c3 ?c4 hsa ?_))
      case c3 => unfold maxLen; omega
      case c4 => omega
      intro v1 wb hown hg hf _
      have hown : wb.ownsRow wr.heap.size 5 1 v1 M (x.map (.int .u8)) := by simpa using hown
      have hbb : Below wr.heap.size wr wb := HBa.out.grown hg hsa (fun k e => (HRa.out.lt k e).1)
      obtain ⟨a1, c1, rfl⟩ := row_slice hown
      have HRb := Lib.hid hown
      have HBb := Lib.hid hbb
      obtain ⟨wc, hwc⟩ : ∃ W, W = wb.alloc (.cells #[.slice a1 M c1] 29) := ⟨_, rfl⟩
      have hbc : Below wb.heap.size wb wc := by rw [hwc]; exact (Below.refl _ wb).alloc (Nat.le_refl _) _
      have kc : wc.heap[wb.heap.size]? = some (.cells #[.slice a1 M c1] 29 (0, 0)) := by rw [hwc]; exact alloc_blk_new _ _
      have HRc := Lib.hid ((Mod.of_below (hbb.trans (hbc.mono hbb.size)) (fun _ => False)).row HR.out (fun _ _ h => h))
      have HNc := Lib.hid (fun (ad : Addr) (e : some (⟨wb.heap.size, 0, none⟩ : Addr) = some ad) j u (hj : [Value.slice a1 M c1][j]? = some u) => (show wc.cell? (ad.add j) = some u by
        cases e
        match j, hj with
        | 0, hj => cases hj; exact cell_blk kc 0 _ rfl))
      have hsc : W0.heap.size ≤ wc.heap.size := by have := HB.out.size; have := hbb.size; have := hbc.size; omega
      have Ec := Lib.hid hwc
      have HBc := Lib.hid hbc
      clear hown hg hf hbb hbc kc hwc HNa Ea HRa hnew f3 f1
      go_wp2_with (at_builtin; go_loud (rw [← Ec.out]); go_loud (refine wpList_append_f _ rfl (.tmp 43) (.tmp 51) 30 rfl W0.heap.size 29 i0 (.slice none 0 0) 1 24 Try.underlying30 hi0 hz0 hz1 hz2 rfl (by decide) _ _ _ rfl HRc.out (some ⟨wb.heap.size, 0, none⟩) 1 1 [.slice a1 M c1] rfl rfl (fun e => by cases e) HNc.out (fun u hu => by simp at hu; subst hu; rfl) ?d3 ?d4 hsc ?_))
      case d3 => unfold maxLen; omega
      case d4 => omega
      intro v2 wd hown hg hf _
      obtain ⟨a2, c2', rfl⟩ := row_slice hown
      have hfr : Fr W0.heap.size (.slice a2 (i + 1) c2') (vals ++ [.slice a1 M c1]) (z.ls.take (i + 1)) wd := by
        rw [HTK.out]
        have hM' := HM.out
        have hE := Ec.out
        have hr := HRb.out
        subst hM'
        rw [hE] at hg hf
        exact Fr.more (i := 0) HV.out ⟨_, _, HR.out⟩ HB.out.size HBb.out hr hg hf
      have hbd : Below W0.heap.size W0 wd := (HB.out.trans ((HBb.out.trans (HBc.out.mono HBb.out.size)).mono HB.out.size)).grown hg hsc (fun k e => (HRc.out.lt k e).1)
      have HFr := Lib.hid hfr
      have HRd := Lib.hid hown
      have HBd := Lib.hid hbd
      clear hown hg hf hfr hbd HRc HNc Ec hsc
      go_wp2_with fail
      go_roundg (L - (i + 1))
      case measure => have := HG.out; omega
      case rel => exact ⟨i + 1, a2, c2', _, rfl, by go_num, by omega, rfl, HRd.out, HBd.out, HFr.out⟩
    · obtain rfl : i = L := by omega
      obtain ⟨wq, hwq⟩ : ∃ W, W = wr := ⟨_, rfl⟩
      subst hwq
      have htk : z.ls.take i = z.ls := List.take_of_length_le (by rw [← HLL.out]; omega)
      have HV1 : Hid (Fr W0.heap.size (.slice a i c') vals z.ls wq) := Lib.hid (by have := HV.out; rwa [htk] at this)
      have HRP1 := Lib.hid (HRP.out wq (HD.out.below HB.out) (HPZ.out.below HB.out))
      clear htk HV
      go_wp2_with (go_at_call 41; fail)
      clear c0 c1 c2 c3 c4 c5
      refine HRP1.out.mono ?_
      rintro e w1 ⟨ra1, rc1, rfl, hd1, hb1⟩
      obtain ⟨B4, hB4⟩ : ∃ B, B = w1.heap.size := ⟨_, rfl⟩
      obtain ⟨W2, hW2⟩ : ∃ W, W = w1.alloc (.cells #[.slice ra1 n' rc1, .int .i64 g, .int .i64 m] 43) := ⟨_, rfl⟩
      have hb2 : Below w1.heap.size w1 W2 := by rw [hW2]; exact (Below.refl _ w1).alloc (Nat.le_refl _) _
      have k2 : W2.heap[B4]? = some (.cells #[.slice ra1 n' rc1, .int .i64 g, .int .i64 m] 43 (0, 0)) := by rw [hW2, hB4]; exact alloc_blk_new _ _
      have hb12 := hb1.trans (hb2.mono hb1.size)
      have hb02 := HB.out.trans (hb12.mono HB.out.size)
      have hB4s : wq.heap.size ≤ B4 := by have := hb1.size; omega
      have hwrs := HB.out.size
      have HB02 := Lib.hid hb02
      have K2 := Lib.hid k2
      have E2 := Lib.hid hW2
      have E4 := Lib.hid hB4
      obtain ⟨X2, hX2⟩ : ∃ X, X = More X0 W0 W2 := ⟨_, rfl⟩
      have HS2 : Hid (St w u0 K X2 p m fs part bs W2) := Lib.hid (by rw [hX2]; exact HS0.out.grow hb02)
      have HX02 : Hid (∀ q, X0 q → X2 q) := Lib.hid (fun q hq => by rw [hX2]; exact .inl hq)
      have HX2 : Hid (∀ q, u0.heap.size ≤ q → q < W2.heap.size → X2 q) := Lib.hid (fun q h1 h2 => by
        rw [hX2]
        rcases Nat.lt_or_ge q W0.heap.size with h | h
        · exact .inl (HX0.out q h1 h)
        · exact .inr ⟨h, h2⟩)
      have HD2 := Lib.hid ((hd1.below hb2).mono (U := fun k => ((K k ∧ Ka k) ∧ k < u0.heap.size) ∨ (wq.heap.size ≤ k ∧ k < W2.heap.size)) (fun k h1 h2 => h2.imp id (fun h => ⟨h, h1⟩)))
      have hm12 : Mod (fun _ => False) wq W2 := Mod.of_below hb12 _
      have HV2 := Lib.hid (HV1.out.mod hm12 (fun _ _ _ h => h))
      have HR2 := Lib.hid (hm12.row HR.out (fun _ _ h => h))
      have hL1 : z.ls.length = i := HLL.out.symm
      have hP2 := HV2.out.parts (T := fun k => k < w.heap.size ∨ X2 k) hL1 HR2.out (fun k h1 h2 => .inr (HX2.out k (by have := HB0.out.size; omega) h2))
      have HOP2 := Lib.hid (HOP.out X2 W2 a c' HS2.out.os hP2)
      have F2 := Lib.hid (HF0.out.bel hb02)
      clear hb1 hb2 k2 hb12 hb02 hW2 hB4 hX2 HRP1 hd1 hm12 hP2 HOP HRP
      go_wp2_with (go_at_call 11; fail)
      rw [← E2.out, ← E4.out]
      refine HOP2.out.mono ?_
      rintro e w3 ⟨rfl, ho3, hm3⟩
      have HS3 := Lib.hid (HS2.out.step ho3 hm3)
      have F3 := Lib.hid (F2.out.mod hm3 (fun q h1 h2 e => e.1 (HX02.out q (HX0.out q h1 (by omega)))))
      have K3 := Lib.hid ((hm3.block B4 (blk_lt K2.out) (fun e => e.1 (HX2.out B4 (by have := HB0.out.size; omega) (blk_lt K2.out)))).trans K2.out)
      have HD3 := Lib.hid (HD2.out.mod hm3 (fun q hq e => e.1 (by
        rcases hq with hq | hq
        · exact HX02.out q (HS0.out.sub q hq.1.1)
        · exact HX2.out q (by have := HB0.out.size; omega) hq.2)))
      have HV3 := Lib.hid (HV2.out.mod hm3 (fun k h1 h2 e => e.1 (HX2.out k (by have := HB0.out.size; omega) h2)))
      have hR3 := hm3.row HR2.out (fun k hk e => e.1 (HX2.out k (by have := (HR2.out.lt k hk).1; have := HB0.out.size; omega) (by have := (HR2.out.lt k hk).2; exact this)))
      obtain ⟨SS, hSS⟩ : ∃ SS : Nat → Prop, SS = fun k => W0.heap.size ≤ k ∧ k < wq.heap.size ∧ (Value.slice a i c').ownBlock ≠ some k := ⟨_, rfl⟩
      have HSS : Hid (∀ k, SS k → W0.heap.size ≤ k ∧ k < wq.heap.size ∧ (Value.slice a i c').ownBlock ≠ some k) := Lib.hid (fun k hk => by rw [hSS] at hk; exact hk)
      have hwr3 : Wr SS vals z.ls w3 := fun j hj => by
        obtain ⟨aj, cj, e1, e2⟩ := HV3.out.wr j hj
        obtain ⟨aj', cj', e1', e2', _⟩ := HV1.out.2 j hj
        rw [e1] at e1'
        injection e1' with e1'
        injection e1' with q1 q2 q3
        refine ⟨aj, cj, e1, fun hp => ?_⟩
        obtain ⟨b, e, hS, hb, hx⟩ := e2 hp
        refine ⟨b, e, ?_, hb, hx⟩
        rw [hSS]
        refine ⟨hS.1, ?_, hS.2.2⟩
        rw [q1.symm.trans rfl, e] at e2'
        exact (e2'.lt b rfl).2
      have HW3 := Lib.hid hwr3
      have HR3 := Lib.hid hR3
      clear ho3 hm3 hR3 hwr3 hSS HOP2
      go_wp2_with fail
      go_loopg [14, 15] i (fun gk v14 v15 wx => ∃ ii : Nat, v14 = .int .i64 ii ∧ ii ≤ i ∧ gk = i - ii ∧ Mod SS w3 wx ∧ Wr SS vals z.ls wx)
      case atStart => exact ⟨0, rfl, by omega, rfl, Mod.refl _ _, HW3.out⟩
      case round =>
        obtain ⟨ii, rfl, hii, hgk2, hmx, hwx⟩ := hrel
        have HG2 := Lib.hid hgk2
        have HMX := Lib.hid hmx
        have HWX := Lib.hid hwx
        clear hgk2 hwx hmx
        by_cases hlt2 : ii < i
        · have l2 : decide ((ii : Int) < i) = true := by simpa using hlt2
          have hrx := HMX.out.row HR3.out (fun k hk e => (HSS.out k e).2.2 hk)
          obtain ⟨g9, cap9, cur9, e9, hgb9, hgg9, _, _, _, htk9⟩ := row_some hrx (by omega)
          injection e9 with v1 v2 v3
          subst v1
          obtain ⟨aj, cj, e1, _⟩ := HWX.out ii (by rw [← HLL.out]; exact hlt2)
          obtain ⟨M, hM⟩ : ∃ M, M = (z.ls.getD ii []).length := ⟨_, rfl⟩
          rw [← hM] at e1
          have hM60 : M ≤ 60 := by
            have hil : ii < z.ls.length := by rw [← HLL.out]; exact hlt2
            have := HFW.out.2 (z.ls.getD ii []) (by simp [List.getD, hil])
            omega
          have y1 : wr.cell? ⟨g9, ii, none⟩ = some (.slice aj M cj) := by rw [hrx.cellAt ii (by omega), e1]
          have lg9 := blk_lt hgg9
          have E1 := Lib.hid e1
          have HM := Lib.hid hM
          clear hrx hgb9 hgg9 htk9 e1 hM
          try clear v2
          try clear v3
          go_wp2_with fail
          clear y1 lg9
          go_loopg [15] M (fun gk v15 wy => ∃ kk : Nat, v15 = .int .i64 kk ∧ kk ≤ M ∧ gk = M - kk ∧ Mod SS w3 wy ∧ Wr SS vals z.ls wy)
          case atStart => exact ⟨0, rfl, by omega, rfl, HMX.out, HWX.out⟩
          case round =>
            obtain ⟨kk, rfl, hkk, hgk3, hmy, hwy⟩ := hrel
            have HG3 := Lib.hid hgk3
            have HMY := Lib.hid hmy
            have HWY := Lib.hid hwy
            have hry := HMY.out.row HR3.out (fun k hk e => (HSS.out k e).2.2 hk)
            obtain ⟨g8, cap8, cur8, e8, hgb8, hgg8, _, _, _, htk8⟩ := row_some hry (by omega)
            injection e8 with v1 v2 v3
            injection v1 with v1
            injection v1 with v1
            subst v1
            have y1 : wr.cell? ⟨g9, ii, none⟩ = some (.slice aj M cj) := by rw [hry.cellAt ii (by omega), E1.out]
            have lg9 := blk_lt hgg8
            clear hgk3 hmy hwy hry hgb8 hgg8 htk8
            try clear v2
            try clear v3
            by_cases hlt3 : kk < M
            · have l3 : decide ((kk : Int) < M) = true := by simpa using hlt3
              obtain ⟨aj', cj', e1', e2'⟩ := HWY.out ii (by rw [← HLL.out]; exact hlt2)
              rw [E1.out] at e1'
              injection e1' with e1'
              injection e1' with q1 q2 q3
              obtain ⟨b9, rfl, hS9, hb9, hx9⟩ := e2' (by rw [← HM.out]; omega)
              obtain ⟨⟨x9, hc9⟩, hf9⟩ := hx9 kk (by rw [← HM.out]; exact hlt3)
              subst q1
              have HS9 := Lib.hid hS9
              have hsome : (wr.cell? ⟨b9, kk, none⟩).isSome = true := by rw [hc9]; rfl
              have HWY2 := Lib.hid (fun x => HWY.out.set b9 kk x hsome)
              clear e2' q2 q3 hx9 hS9 hsome
              go_wp2_with fail
              go_roundg (M - (kk + 1))
              case measure => have := HG3.out; omega
              case rel => exact ⟨kk + 1, by go_num, by omega, rfl, HMY.out.setCell ⟨b9, kk, none⟩ (.inl HS9.out) _, HWY2.out _⟩
            · obtain rfl : kk = M := by omega
              have l3 : decide ((kk : Int) < kk) = false := by simp
              go_wp2_with fail
              go_roundg (i - (ii + 1))
              case measure => have := HG2.out; omega
              case rel => exact ⟨ii + 1, by go_num, by omega, rfl, HMY.out, HWY.out⟩
        · obtain rfl : ii = i := by omega
          have hB0 := HB0.out.size
          have HSR := Lib.hid (HS3.out.write HMX.out (fun q hq => ⟨HX2.out q (by have := (HSS.out q hq).1; omega) (by have := (HSS.out q hq).2.1; have := blk_lt K2.out; omega), by have := (HSS.out q hq).1; omega⟩))
          have FR := Lib.hid (F3.out.mod HMX.out (fun q g1 g2 e => by have := (HSS.out q e).1; omega))
          have KR := Lib.hid ((HMX.out.block B4 (blk_lt K3.out) (fun e => by have := (HSS.out B4 e).2.1; omega)).trans K3.out)
          have HDR := Lib.hid (HD3.out.mod HMX.out (fun q hq e => by
            have h1 := HSS.out q e
            rcases hq with hq | hq
            · have := hq.2; omega
            · have := hq.1; omega))
          obtain ⟨c0, c1, c2⟩ := cell3 KR.out
          have de : (er == er) = true := by simp
          go_upto_region 19 with fail
          obtain ⟨wd, hwd⟩ : ∃ W, W = (wr).drew := ⟨_, rfl⟩
          have HBd : Hid (Below (wr).heap.size (wr) wd) := Lib.hid (by rw [hwd]; exact Below.drewN' (wr) 1)
          have hS0 : (fun W : World => W.cell? ⟨B4, 0, none⟩ = some (.slice ra1 n' rc1) ∧ W.cell? ⟨B4, 1, none⟩ = some (.int .i64 g) ∧ W.cell? ⟨B4, 2, none⟩ = some (.int .i64 m)) wd := by rw [hwd]; exact ⟨c0, c1, c2⟩
          refine wp_region_held_drew (S := fun W => W.cell? ⟨B4, 0, none⟩ = some (.slice ra1 n' rc1) ∧ W.cell? ⟨B4, 1, none⟩ = some (.int .i64 g) ∧ W.cell? ⟨B4, 2, none⟩ = some (.int .i64 m)) (by kernel_rfl) (by rw [← hwd]; exact hS0) (fun hHeld => ?_)
          rw [← hwd] at hHeld ⊢
          clear hwd hS0
          refine' wpAnyH_take (i := 0) (oi := { dst := some 87, op := Op.move (Operand.tmp 0), type := 25, pos := "law.go:66", after := #[], guard := none }) (v := ?v6001) rfl (by kernel_rfl) (by kernel_rfl) (by kernel_rfl) (fun _ _ _ h => h) (.inl ⟨by first | rfl | simp [Region.wanted, yielded], ?hy6001⟩) (by assumption) ?rest6001
          case hy6001 => (intro W hW; obtain ⟨f1, f2, f3⟩ := hW; go_simp; try with_reducible rfl)
          simp only [Act.put, List.setIfInBounds_toArray, List.set_cons_zero, List.set_cons_succ]
          refine' wpAnyH_take (i := 1) (oi := { dst := some 88, op := Op.load 43 (Operand.tmp 11), type := 43, pos := "law.go:66", after := #[{ on := 6, ground := Ground.gcOnly Departure.lateStores }], guard := none }) (v := ?v6002) rfl (by kernel_rfl) (by kernel_rfl) (by kernel_rfl) (fun _ _ _ h => h) (.inl ⟨by first | rfl | simp [Region.wanted, yielded], ?hy6002⟩) (by assumption) ?rest6002
          case hy6002 => (intro W hW; obtain ⟨f1, f2, f3⟩ := hW; go_simp; try with_reducible rfl)
          simp only [Act.put, List.setIfInBounds_toArray, List.set_cons_zero, List.set_cons_succ]
          refine' wpAnyH_take (i := 2) (oi := { dst := some 89, op := Op.move (Operand.tmp 13), type := 26, pos := "law.go:66", after := #[], guard := none }) (v := ?v6003) rfl (by kernel_rfl) (by kernel_rfl) (by kernel_rfl) (fun _ _ _ h => h) (.inl ⟨by first | rfl | simp [Region.wanted, yielded], ?hy6003⟩) (by assumption) ?rest6003
          case hy6003 => (intro W hW; obtain ⟨f1, f2, f3⟩ := hW; go_simp; try with_reducible rfl)
          simp only [Act.put, List.setIfInBounds_toArray, List.set_cons_zero, List.set_cons_succ]
          refine' wpAnyH_take (i := 4) (oi := { dst := some 91, op := Op.move (Operand.tmp 12), type := 3, pos := "law.go:66", after := #[{ on := 7, ground := Ground.gcOnly Departure.lateStores }], guard := none }) (v := ?v6004) rfl (by kernel_rfl) (by kernel_rfl) (by kernel_rfl) (fun _ _ _ h => h) (.inl ⟨by first | rfl | simp [Region.wanted, yielded], ?hy6004⟩) (by assumption) ?rest6004
          case hy6004 => (intro W hW; obtain ⟨f1, f2, f3⟩ := hW; go_simp; try with_reducible rfl)
          simp only [Act.put, List.setIfInBounds_toArray, List.set_cons_zero, List.set_cons_succ]
          refine wpAnyH_ready (rs := [3]) (by kernel_rfl) (by simp) ?_
          refine AllReadyH.cons (o := { dst := some 90, op := Op.call { callee := Callee.value (Operand.func 10), args := #[Operand.tmp 89], argTypes := #[26] }, type := 3, pos := "law.go:66", after := #[{ on := 2, ground := Ground.data }], guard := none }) rfl (fun KK hK => ?_) (AllReadyH.nil)
          try simp only [List.getElem_toArray, List.getElem_cons_succ, List.getElem_cons_zero]
          go_simp
          refine (HNum.out _ _).mono ?_
          rintro e w' ⟨rfl, rfl⟩
          refine hK.out _ _ (by assumption) (fun hHeld => ?_)
          clear hK KK
          try simp only [Act.put, List.setIfInBounds_toArray, List.set_cons_zero, List.set_cons_succ]
          refine' wpAnyH_take (i := 5) (oi := { dst := some 92, op := Op.binOp BinOp.eql 3 (Operand.tmp 90) (Operand.tmp 91) 3, type := 4, pos := "law.go:66", after := #[{ on := 3, ground := Ground.data }, { on := 4, ground := Ground.data }, { on := 7, ground := Ground.gcOnly Departure.lateStores }], guard := none }) (v := ?v6005) rfl (by kernel_rfl) (by kernel_rfl) (by kernel_rfl) (fun _ _ _ h => h) (.inl ⟨by first | rfl | simp [Region.wanted, yielded], ?hy6005⟩) (by assumption) ?rest6005
          case hy6005 => (intro W hW; obtain ⟨f1, f2, f3⟩ := hW; go_simp; try with_reducible rfl)
          simp only [Act.put, List.setIfInBounds_toArray, List.set_cons_zero, List.set_cons_succ]
          refine' wpAnyH_take (i := 6) (oi := { dst := some 6, op := Op.assign (Operand.tmp 87), type := 25, pos := "law.go:66", after := #[{ on := 0, ground := Ground.data }, { on := 3, ground := Ground.chain }, { on := 0, ground := Ground.phase }, { on := 1, ground := Ground.textOnly Departure.lateStores }, { on := 2, ground := Ground.textOnly Departure.lateStores }, { on := 3, ground := Ground.textOnly Departure.lateStoresUnsure }, { on := 4, ground := Ground.textOnly Departure.lateStores }, { on := 5, ground := Ground.textOnly Departure.lateStores }], guard := none }) (v := ?v6006) rfl (by kernel_rfl) (by kernel_rfl) (by kernel_rfl) (fun _ _ _ h => h) (.inl ⟨by first | rfl | simp [Region.wanted, yielded], ?hy6006⟩) (by assumption) ?rest6006
          case hy6006 => (intro W hW; obtain ⟨f1, f2, f3⟩ := hW; go_simp; try with_reducible rfl)
          simp only [Act.put, List.setIfInBounds_toArray, List.set_cons_zero, List.set_cons_succ]
          refine wpAnyH_ready (rs := [7]) (by kernel_rfl) (by simp) ?_
          refine AllReadyH.cons (o := { dst := none, op := Op.store 43 (Operand.tmp 7) (Operand.tmp 88), type := 0, pos := "law.go:66", after := #[{ on := 1, ground := Ground.data }, { on := 6, ground := Ground.chain }, { on := 0, ground := Ground.phase }, { on := 1, ground := Ground.phase }, { on := 2, ground := Ground.textOnly Departure.lateStores }, { on := 3, ground := Ground.textOnly Departure.lateStoresUnsure }, { on := 4, ground := Ground.textOnly Departure.lateStores }, { on := 5, ground := Ground.textOnly Departure.lateStores }, { on := 6, ground := Ground.phase }], guard := none }) rfl (fun KK hK => ?_) (AllReadyH.nil)
          try simp only [List.getElem_toArray, List.getElem_cons_succ, List.getElem_cons_zero]
          have FD := FR.out.bel HBd.out
          have KD := (HBd.out.block B4 (blk_lt KR.out)).trans KR.out
          obtain ⟨s0, s1, s2⟩ := cell3 FD.b2
          have s3 := frozen_blk FD.b2 0
          have s4 := frozen_blk FD.b2 1
          have s5 := frozen_blk FD.b2 2
          have s6 := blk_lt FD.b2
          go_simp
          obtain ⟨hb6, hm6⟩ := set3 (a := .slice ra1 n' rc1) (b := .int .i64 g) (c := .int .i64 m) FD.b2
          have hx6 := (hm6.block _ (blk_lt KD) (by omega)).trans KD
          have hSn2 : (fun W : World => W.cell? ⟨B4, 0, none⟩ = some (.slice ra1 n' rc1) ∧ W.cell? ⟨B4, 1, none⟩ = some (.int .i64 g) ∧ W.cell? ⟨B4, 2, none⟩ = some (.int .i64 m)) (((wd.setCell ⟨u0.heap.size + 1 + 1, 0, none⟩ (.slice ra1 n' rc1)).setCell ⟨u0.heap.size + 1 + 1, 1, none⟩ (.int .i64 g)).setCell ⟨u0.heap.size + 1 + 1, 2, none⟩ (.int .i64 m)) := cell3 hx6
          have HB6 := Lib.hid hb6
          have HM6 := Lib.hid hm6
          clear s0 s1 s2 s3 s4 s5 s6 hb6 hm6 hx6
          clear FD KD
          refine hK.out _ _ (by assumption) (fun hHeld => ?_)
          clear hK KK
          try simp only [Act.put, List.setIfInBounds_toArray, List.set_cons_zero, List.set_cons_succ]
          refine' wpAnyH_take (i := 8) (oi := { dst := some 8, op := Op.assign (Operand.tmp 92), type := 4, pos := "law.go:66", after := #[{ on := 5, ground := Ground.data }, { on := 7, ground := Ground.chain }, { on := 0, ground := Ground.phase }, { on := 1, ground := Ground.phase }, { on := 2, ground := Ground.phase }, { on := 3, ground := Ground.phase }, { on := 4, ground := Ground.phase }, { on := 5, ground := Ground.phase }, { on := 6, ground := Ground.phase }, { on := 7, ground := Ground.phase }], guard := none }) (v := ?v6007) rfl (by kernel_rfl) (by kernel_rfl) (by kernel_rfl) (fun _ _ _ h => h) (.inl ⟨by first | rfl | simp [Region.wanted, yielded], ?hy6007⟩) (by assumption) ?rest6007
          case hy6007 => (intro W hW; obtain ⟨f1, f2, f3⟩ := hW; go_simp; try with_reducible rfl)
          simp only [Act.put, List.setIfInBounds_toArray, List.set_cons_zero, List.set_cons_succ]
          refine wpAnyH_done (by kernel_rfl) ?_ _
          have e0 : (((wd.setCell ⟨u0.heap.size + 1 + 1, 0, none⟩ (.slice ra1 n' rc1)).setCell ⟨u0.heap.size + 1 + 1, 1, none⟩ (.int .i64 g)).setCell ⟨u0.heap.size + 1 + 1, 2, none⟩ (.int .i64 m)).cell? ⟨u0.heap.size + 1 + 1, 0, none⟩ = some (.slice ra1 n' rc1) := (cell3 HB6.out).1
          have e1 : (((wd.setCell ⟨u0.heap.size + 1 + 1, 0, none⟩ (.slice ra1 n' rc1)).setCell ⟨u0.heap.size + 1 + 1, 1, none⟩ (.int .i64 g)).setCell ⟨u0.heap.size + 1 + 1, 2, none⟩ (.int .i64 m)).cell? ⟨u0.heap.size + 1 + 1, 1, none⟩ = some (.int .i64 g) := (cell3 HB6.out).2.1
          have e2 : (((wd.setCell ⟨u0.heap.size + 1 + 1, 0, none⟩ (.slice ra1 n' rc1)).setCell ⟨u0.heap.size + 1 + 1, 1, none⟩ (.int .i64 g)).setCell ⟨u0.heap.size + 1 + 1, 2, none⟩ (.int .i64 m)).cell? ⟨u0.heap.size + 1 + 1, 2, none⟩ = some (.int .i64 m) := (cell3 HB6.out).2.2
          obtain ⟨w6, hw6⟩ : ∃ W, W = (((wd.setCell ⟨u0.heap.size + 1 + 1, 0, none⟩ (.slice ra1 n' rc1)).setCell ⟨u0.heap.size + 1 + 1, 1, none⟩ (.int .i64 g)).setCell ⟨u0.heap.size + 1 + 1, 2, none⟩ (.int .i64 m)) := ⟨_, rfl⟩
          rw [← hw6] at e0 e1 e2 ⊢
          have HM6' : Hid (Mod (fun k => k = u0.heap.size + 2) wd w6) := Lib.hid (by rw [hw6]; exact HM6.out)
          clear hw6 hSn2 HM6 HB6
          go_wp2
          refine bodyPost_ret (v := .tuple #[.pointer (some ⟨p, 0, none⟩), .agg #[.slice ra1 n' rc1, .int .i64 g, .int .i64 m], .bool true]) (by simp [results, Try.results19, go_sem, *]) rfl ?_
          have hs1 := HB0.out.size
          have hdd := HDR.out.below HBd.out
          obtain ⟨hor, hnl', ht'⟩ := HOR.out
          exact acted_fin (HSR.out.grow HBd.out) (hdd.mono (fun q _ hq => by
            rcases hq with hq | hq
            · exact ⟨⟨.inl (.inl (HX02.out q (HS0.out.sub q hq.1.1))), .inl hq.1.2⟩, by have := hq.2; omega⟩
            · exact ⟨⟨.inl (.inl (HX2.out q (by omega) hq.2)), .inr (by omega)⟩, by omega⟩)) ht' hnl' (.inl (.inl (HX2.out _ (by omega) (by have := blk_lt K2.out; omega)))) (by omega) HM6'.out (by
              rcases hor with h | h
              · rw [← hnl', h, List.length_append, ← HLL.out]; omega
              · rw [← hnl', h]; omega) (fun hby => by
              rcases hor with h | h
              · rw [h]; exact hby.append HZ.out.by_
              · rw [h]; exact hby)
end Go.Proofs.Ytneeagabmdpjgaa
