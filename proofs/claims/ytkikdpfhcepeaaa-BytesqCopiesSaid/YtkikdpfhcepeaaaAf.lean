/-
  A call by both: more of act.
-/
import Derived.Test.YtkikdpfhcepeaaaAe
namespace Go.Proofs.Ytkikdpfhcepeaaa
open Go.RowKit
set_option linter.unusedVariables false
set_option linter.unusedSimpArgs false

/-- A byte of a row of one's own is turned. -/
theorem row_store {w : World} {base b n cap : Nat} {zs : List Int} (h : w.ownsRow base 5 1 (.slice (some ⟨b, 0, none⟩) n cap) n (zs.map (.int .u8))) (i : Nat) (hi : i < n) :
    w.cell? ⟨b, i, none⟩ = some (.int .u8 (zs.getD i 0)) ∧ w.frozen? ⟨b, i, none⟩ = false ∧ b < w.heap.size ∧ ∀ x : Int, (w.setCell ⟨b, i, none⟩ (.int .u8 x)).ownsRow base 5 1 (.slice (some ⟨b, 0, none⟩) n cap) n ((zs.set i x).map (.int .u8)) := by
  have hl : zs.length = n := by simpa using h.1
  obtain ⟨q, cap', cur, hv, hbq, hgq, hnc, hcm, hcs, htk⟩ := row_some h (by omega)
  injection hv with e1 e2 e3
  injection e1 with e1
  injection e1 with e1
  subst e1; subst e3
  refine ⟨?_, frozen_blk hgq i, blk_lt hgq, fun x => ⟨by simp; omega, .inr ⟨b, cap, _, rfl, hbq, setCell_blk hgq i _, hnc, hcm, by simpa using hcs, ?_⟩⟩⟩
  · refine cell_blk hgq i _ ?_
    have := congrArg (fun l => l[i]?) htk
    simp only [Nat.mul_one] at this
    rw [List.getElem?_take_of_lt hi] at this
    rw [← Array.getElem?_toList, this, List.getElem?_map]
    simp [List.getD, show i < zs.length by omega]
  · simp only [Array.toList_setIfInBounds, List.map_set]
    rw [← htk, List.take_set]

set_option maxHeartbeats 3200000 in
set_option maxRecDepth 100000 in
theorem act_peek {w u0 : World} {K Ka : Nat → Prop} {p : Nat} {m : Int} {bs : List Int} {ra : Option Addr} {rc : Nat} (z : AV) (h : QS w K p m bs u0) (hK : ∀ k, K k → w.heap.size ≤ k) (hR : Rf (fun q => K q ∧ Ka q) u0 ra rc bs) (hw : z.what = 4) (h0 : 0 ≤ z.n) :
    Calls Try.prog 15 #[.pointer (some ⟨p, 0, none⟩), qagg ra bs.length rc m, zagg z] u0 (Acted w K Ka m bs u0) := by
  have HNum := Lib.hid num_any
  obtain ⟨hfx, hb0⟩ := Fx.start u0 (.slice ra bs.length rc) m z
  have hq0 := h.grow hb0
  obtain ⟨W0, hW0⟩ : ∃ W, W = (((u0.alloc (.cells #[.slice ra bs.length rc, .int .i64 m] 39)).alloc (.cells #[.int .i64 z.what, .int .i64 z.n, .slice z.a z.xa.length z.ca, .slice z.b z.xb.length z.cb] 31)).alloc (.cells #[.slice none 0 0, .int .i64 0] 39)) := ⟨_, rfl⟩
  rw [← hW0] at hfx hb0 hq0
  obtain ⟨K0, hK0⟩ : ∃ K0, K0 = More K u0 W0 := ⟨_, rfl⟩
  rw [← hK0] at hq0
  have hK0s : ∀ k, K0 k → w.heap.size ≤ k := fun k hk => by
    rw [hK0] at hk
    rcases hk with hk | hk
    · exact hK k hk
    · have := h.below.size; omega
  have hK00 : ∀ k, K k → K0 k := fun k hk => by rw [hK0]; exact .inl hk
  have hKb : ∀ k, u0.heap.size ≤ k → k ≤ u0.heap.size + 2 → K0 k := fun k h1 h2 => by rw [hK0]; exact .inr ⟨h1, by have := hfx.lt; omega⟩
  obtain ⟨KA, hKA⟩ : ∃ KA : Nat → Prop, KA = fun q => K0 q ∧ Ka q := ⟨_, rfl⟩
  have HKA : Hid (∀ q, KA q → K0 q ∧ Ka q) := Lib.hid (fun q hq => by rw [hKA] at hq; exact hq)
  have HR := Lib.hid (hR.at_.mono (U := fun q => KA q ∧ q < u0.heap.size) (fun k h1 hk => ⟨by rw [hKA]; exact ⟨hK00 k hk.1, hk.2⟩, h1⟩))
  clear hKA
  have HRf := Lib.hid hR
  have hbd := h.bounds
  have HF0 := Lib.hid hfx
  have HQ0 := Lib.hid hq0
  have HB0 := Lib.hid hb0
  have HE := Lib.hid hW0
  have HK0 := Lib.hid hK0s
  have HK1 := Lib.hid hK00
  have HKB := Lib.hid hKb
  have hlen : bs.length ≤ 1048576 := by omega
  unfold zagg qagg
  obtain ⟨k, hk⟩ : ∃ k, kOf z.n bs.length = k := ⟨_, rfl⟩
  have hk1 := kOf_le z.n bs.length
  have HRT := Lib.hid (refTake_ok (fun q => KA q ∧ q < u0.heap.size) ra bs.length rc m z.n bs W0 (HR.out.below hb0) hR.na hR.sp hR.cl hR.cm hlen h0)
  rw [hk] at HRT hk1
  unfold qagg at HRT
  have HKk := Lib.hid hk
  obtain ⟨⟨c0, c1⟩, ⟨c2, c3, c4, c5⟩, c6, c7, f6, f7⟩ := hfx.cells
  have hl0 := hfx.lt
  rw [hw] at c2
  clear h hK hR hfx hb0 hq0 hW0 hK0 hK0s hK00 hKb hk hbd
  go_enter Try.func15, Try.ntmps15
  rw [hw]
  go_wp2_with (go_at_call 28; fail)
  rw [hw] at HE
  rw [← HE.out]
  refine HRT.out.mono ?_
  rintro e w1 ⟨ra1, rc1, rfl, hA1, na1, sp1, cl1, cm1, hb1⟩
  obtain ⟨W2, hW2⟩ : ∃ W, W = w1.alloc (.cells #[.slice ra1 (bs.length - k) rc1, .int .i64 m] 39) := ⟨_, rfl⟩
  have hb2 : Below W0.heap.size W0 W2 := by rw [hW2]; exact hb1.alloc hb1.size _
  obtain ⟨K2, hK2⟩ : ∃ K2, K2 = More K0 W0 W2 := ⟨_, rfl⟩
  have hq2 := HQ0.out.grow hb2
  rw [← hK2] at hq2
  have Q2 := Lib.hid hq2
  have F2 := Lib.hid (HF0.out.bel hb2)
  have hlt2 : w1.heap.size < W2.heap.size := by rw [hW2]; simp
  have B15 : Hid (W2.heap[w1.heap.size]? = some (.cells #[.slice ra1 (bs.length - k) rc1, .int .i64 m] 39 (0, 0))) := Lib.hid (by rw [hW2]; exact alloc_blk_new _ _)
  have hs1 := hb1.size
  have A2 : Hid (Arg (fun q => (K2 q ∧ Ka q) ∧ q < u0.heap.size) W2 ra1 (bs.length - k) (bs.drop k)) := Lib.hid ((hA1.below hb2).mono fun q _ hq => by rw [hK2]; exact ⟨⟨.inl (HKA.out q hq.1).1, (HKA.out q hq.1).2⟩, hq.2⟩)
  have T2 : Hid (Arg (fun q => K2 q ∧ q < u0.heap.size) W2 ra k (bs.take k)) := Lib.hid (((HR.out.below HB0.out).take k (by omega)).below hb2 |>.mono fun q _ hq => by rw [hK2]; exact ⟨.inl (HKA.out q hq.1).1, hq.2⟩)
  have hk2 : (bs.take k).length = k := by rw [List.length_take]; omega
  have hB15 : K2 w1.heap.size := by rw [hK2]; exact .inr ⟨hs1, hlt2⟩
  have KB2 : Hid (∀ q, u0.heap.size ≤ q → q ≤ u0.heap.size + 2 → K2 q) := Lib.hid (fun q h1 h2 => by rw [hK2]; exact .inl (HKB.out q h1 h2))
  have K02 : Hid (∀ q, K0 q → K2 q) := Lib.hid (fun q hq => by rw [hK2]; exact .inl hq)
  have K2s : Hid (∀ q, K2 q → w.heap.size ≤ q) := Lib.hid (fun q hq => by
    rw [hK2] at hq
    rcases hq with hq | hq
    · exact HK0.out q hq
    · have := HQ0.out.below.size; omega)
  have HB2 := Lib.hid hb2
  have HE2 := Lib.hid hW2
  have NA := Lib.hid (And.intro na1 (And.intro sp1 (And.intro cl1 cm1)))
  clear hA1 na1 sp1 cl1 cm1
  clear hb2 hK2 hq2 hb1 HQ0 HF0 hW2 c0 c1 c2 c3 c4 c5 c6 c7 f6 f7
  go_upto_region 19 with fail
  rw [← HE2.out]
  obtain ⟨⟨c0, c1⟩, ⟨c2, c3, c4, c5⟩, c6, c7, f6, f7⟩ := F2.out.cells
  have hl2 := F2.out.lt
  clear c2
  go_wp2_with (go_at_call 19; fail)
  clear c0 c1 c3 c4 c5 c6 c7 f6 f7
  refine (Q2.out.peek z.n h0 k HKk.out (bs.take k) rfl).mono ?_
  rintro e w3 ⟨a3, c3', rfl, hr3, hq3, hb3⟩
  have hm3 : Mod (fun q => ¬ K2 q ∧ w.heap.size ≤ q) W2 w3 := Mod.of_below hb3 _
  obtain ⟨_, hA3, hn3⟩ := row_arg hr3
  have T3 := Lib.hid (T2.out.keep hm3 (fun _ e => e.1))
  have HRW := Lib.hid hr3
  obtain ⟨K3, hK3⟩ : ∃ K3, K3 = More K2 W2 w3 := ⟨_, rfl⟩
  rw [← hK3] at hq3
  have K23 : Hid (∀ q, K2 q → K3 q) := Lib.hid (fun q hq => by rw [hK3]; exact .inl hq)
  have K3s : Hid (∀ q, K3 q → w.heap.size ≤ q) := Lib.hid (fun q hq => by
    rw [hK3] at hq
    rcases hq with hq | hq
    · exact K2s.out q hq
    · have := Q2.out.below.size; omega)
  have K3r : Hid (∀ q, W2.heap.size ≤ q → q < w3.heap.size → K3 q) := Lib.hid (fun q g1 g2 => by rw [hK3]; exact .inr ⟨g1, g2⟩)
  clear hK3
  have hs3 := hm3.size
  have F3 := Lib.hid (F2.out.mod hm3 (fun q h1 h2 e => e.1 (KB2.out q h1 h2)))
  have B3 := Lib.hid ((hm3.block _ hlt2 (fun e => e.1 hB15)).trans B15.out)
  have A3 := Lib.hid (A2.out.keep hm3 (fun _ e => e.1.1))
  have Q3 := Lib.hid hq3
  have M3 := Lib.hid hm3
  clear hq3
  obtain ⟨S, hS⟩ : ∃ S, S = strOfNums (bs.take k) := ⟨_, rfl⟩
  have HS : Hid (∀ W, Mod (fun q => q = u0.heap.size + 2) w3 W → (W.cell? ⟨w1.heap.size, 0, none⟩ = some (.slice ra1 (bs.length - k) rc1) ∧ W.cell? ⟨w1.heap.size, 1, none⟩ = some (.int .i64 m)) ∧ (convert 29 9 (.slice a3 k c3')).run Try.prog W = .ok (.string S) W ∧ (convert 29 9 (.slice ra k rc)).run Try.prog W = .ok (.string S) W) := Lib.hid (fun W hm => by
    have hne : w1.heap.size ≠ u0.heap.size + 2 := by have := hs1; omega
    have hb := (hm.block w1.heap.size (blk_lt B3.out) hne).trans B3.out
    have hW2s : u0.heap.size + 2 < W2.heap.size := F2.out.lt
    have h1 := conv_any c3' ((hA3).mod hm (fun q hq e => by omega)) hn3
    have h2 := conv_any (a := ra) rc (by rw [hk2]; exact (T3.out).mod hm (fun q hq e => by have := hq.2; omega)) (fun e => by have := HRf.out.na e; rw [hk2]; omega)
    rw [hk2, ← hS] at h1 h2
    exact ⟨cell2 hb, h1, h2⟩)
  clear hS
  obtain ⟨_, cv1, cv2⟩ := HS.out _ (Mod.refl _ _)
  have hl3 := F3.out.lt
  have HB3 := Lib.hid hb3
  clear hm3 hA3 hn3 hr3 HS hb3
  go_upto_region 21 with (go_at_call 10; refine (HNum.out _ _).mono ?_; rintro e w' ⟨rfl, rfl⟩)
  clear cv1 cv2
  go_wp2_with fail
  go_loopg [26] k (fun gk v wr => ∃ i : Nat, v = .int .i64 i ∧ i ≤ k ∧ gk = k - i ∧ ∃ zs : List Int, wr.ownsRow W2.heap.size 5 1 (.slice a3 k c3') k (zs.map (.int .u8)) ∧ Mod (fun q => (Value.slice a3 k c3').ownBlock = some q) w3 wr)
  case atStart => exact ⟨0, rfl, by omega, rfl, _, HRW.out, Mod.refl _ _⟩
  case round =>
    obtain ⟨i, rfl, hi, hgk, zs, hrow, hmr⟩ := hrel
    have HG := Lib.hid hgk
    have HROW := Lib.hid hrow
    have HMR := Lib.hid hmr
    clear hgk hmr
    by_cases hlt : i < k
    · obtain ⟨b, cap', cur, hv, _⟩ := row_some hrow (by omega)
      injection hv with v1 v2 v3
      subst v1
      clear v2 v3
      obtain ⟨y1, y2, y3, y4⟩ := row_store hrow i hlt
      have HY4 := Lib.hid y4
      obtain ⟨z1, hz1⟩ : ∃ z1, z1 = zs.getD i 0 := ⟨_, rfl⟩
      rw [← hz1] at y1
      clear hrow y4 hz1
      go_wp2_with fail
      go_roundg (k - (i + 1))
      case measure => have := HG.out; omega
      case rel => exact ⟨i + 1, by go_num, by omega, rfl, _, HY4.out _, HMR.out.trans (Mod.setCell (S := fun q => (Value.slice (some ⟨b, 0, none⟩) k c3').ownBlock = some q) (Mod.refl _ _) ⟨b, i, none⟩ (.inl rfl) _) (fun _ _ e => e)⟩
    · obtain rfl : i = k := by omega
      clear hrow
      have hW2s : u0.heap.size + 2 < W2.heap.size := F2.out.lt
      have hsub : ∀ q, (Value.slice a3 i c3').ownBlock = some q → W2.heap.size ≤ q ∧ q < w3.heap.size := fun q hq => HRW.out.lt q hq
      have hbl := HMR.out.mono (T := fun q => W2.heap.size ≤ q) (fun q _ hq => (hsub q hq).1)
      have hqr := Q3.out.turn (HMR.out.mono (T := K3) (fun q _ hq => K3r.out q (hsub q hq).1 (hsub q hq).2)) K3s.out
      have FR := Lib.hid (F3.out.mod hbl (fun q g1 g2 e => by omega))
      have hB3 : Below W2.heap.size W2 wr := (Mod.trans (S := fun q => W2.heap.size ≤ q) (Mod.of_below HB3.out _) hbl (fun q _ e => e)).below (fun q hq e => by omega)
      have BW : Hid (Below u0.heap.size u0 wr) := Lib.hid (HB0.out.trans ((HB2.out.trans (hB3.mono HB2.out.size)).mono HB0.out.size))
      obtain ⟨K5, hK5⟩ : ∃ K5, K5 = More K3 w3 wr := ⟨_, rfl⟩
      rw [← hK5] at hqr
      have K05 : Hid (∀ q, K0 q → K5 q) := Lib.hid (fun q hq => by rw [hK5]; exact .inl (K23.out q (K02.out q hq)))
      have K5s : Hid (∀ q, K5 q → w.heap.size ≤ q) := Lib.hid (fun q hq => by
        rw [hK5] at hq
        rcases hq with hq | hq
        · exact K3s.out q hq
        · have := Q3.out.below.size; omega)
      have QR := Lib.hid hqr
      clear hqr hK5 hbl hsub hB3
      go_wp2_with fail
      refine wp_region_K 5 (fun W => W.cell? ⟨u0.heap.size, 0, none⟩ = some (.slice ra bs.length rc) ∧ W.cell? ⟨u0.heap.size, 1, none⟩ = some (.int .i64 m)) (by kernel_rfl) ?_
      obtain ⟨wd, hwd⟩ : ∃ W, W = wr.drew := ⟨_, rfl⟩
      rw [← hwd]
      have HWD := Lib.hid hwd
      have F4 := Lib.hid (FR.out.bel (W' := wd) (by rw [hwd]; exact Below.drewN' wr 1))
      have Q4 := Lib.hid (QR.out.drewN 1)
      rw [show wr.drewN 1 = wr.drew from rfl, ← hwd] at Q4
      have B4 : Hid (Below u0.heap.size u0 wd) := Lib.hid (by rw [hwd]; exact BW.out.trans ((Below.drewN' wr 1).mono BW.out.size))
      clear hwd
      have hS0 := cell2 F4.out.b0
      refine wpAnyK_take (i := 0) (v := .pointer (some ⟨p, 0, none⟩)) rfl (by kernel_rfl) (by kernel_rfl) (by kernel_rfl) [] (by kernel_rfl) (by decide) (by kernel_rfl) (by kernel_rfl) (fun _ _ _ h => h) hS0 (.inl ⟨by rfl, fun W hW => ?_⟩) ?_
      · obtain ⟨q0, q1⟩ := hW
        go_simp
      simp only [Act.put, List.setIfInBounds_toArray, List.set_cons_zero, List.set_cons_succ]
      refine wpAnyK_take (i := 1) (v := .agg #[.slice ra bs.length rc, .int .i64 m]) rfl (by kernel_rfl) (by kernel_rfl) (by kernel_rfl) [] (by kernel_rfl) (by decide) (by kernel_rfl) (by kernel_rfl) (fun _ _ _ h => h) hS0 (.inl ⟨by rfl, fun W hW => ?_⟩) ?_
      · obtain ⟨q0, q1⟩ := hW
        go_simp
      simp only [Act.put, List.setIfInBounds_toArray, List.set_cons_zero, List.set_cons_succ]
      refine wpAnyK_take (i := 2) (v := .bool true) rfl (by kernel_rfl) (by kernel_rfl) (by kernel_rfl) [] (by kernel_rfl) (by decide) (by kernel_rfl) (by kernel_rfl) (fun _ _ _ h => h) hS0 (.inl ⟨by rfl, fun W hW => ?_⟩) ?_
      · obtain ⟨q0, q1⟩ := hW
        go_simp
      simp only [Act.put, List.setIfInBounds_toArray, List.set_cons_zero, List.set_cons_succ]
      refine wpAnyK_ready (rs := [3]) (by kernel_rfl) (by simp) ?_
      refine AllReadyK.cons rfl (fun K hK => ?_) AllReadyK.nil
      go_simp
      refine hK.out _ _ (fun _ => hS0) ?_
      clear hK K
      try simp only [Act.put, List.setIfInBounds_toArray, List.set_cons_zero, List.set_cons_succ]
      have B7 := Lib.hid F4.out.b2
      obtain ⟨c6, c7⟩ := cell2 B7.out
      have f6 := frozen_blk B7.out 0
      have f7 := frozen_blk B7.out 1
      have l7 := blk_lt B7.out
      have hmB := ((Mod.refl (fun q => q = u0.heap.size + 2) wd).setCell ⟨u0.heap.size + 2, 0, none⟩ (.inl rfl) (.slice ra bs.length rc)).setCell ⟨u0.heap.size + 2, 1, none⟩ (.inl rfl) (.int .i64 m)
      have hS2 := cell2 ((hmB.block u0.heap.size (by omega) (by omega)).trans F4.out.b0)
      refine wpAnyK_ready (rs := [4]) (by kernel_rfl) (by simp) ?_
      refine AllReadyK.cons rfl (fun K hK => ?_) AllReadyK.nil
      go_simp
      refine hK.out _ _ (fun _ => hS2) ?_
      clear hK K
      try simp only [Act.put, List.setIfInBounds_toArray, List.set_cons_zero, List.set_cons_succ]
      refine wpAnyK_ready (rs := [5]) (by kernel_rfl) (by simp) ?_
      refine AllReadyK.cons rfl (fun K hK => ?_) AllReadyK.nil
      go_simp
      refine hK.out _ _ (fun h => absurd (show true = false from h) (by decide)) ?_
      clear hK K
      try simp only [Act.put, List.setIfInBounds_toArray, List.set_cons_zero, List.set_cons_succ]
      refine wpAnyK_done (by kernel_rfl) ?_ _
      have hbk := setCell_blk (setCell_blk B7.out 0 (.slice ra bs.length rc)) 1 (.int .i64 m)
      obtain ⟨w5, hw5⟩ : ∃ W, W = (wd.setCell ⟨u0.heap.size + 2, 0, none⟩ (.slice ra bs.length rc)).setCell ⟨u0.heap.size + 2, 1, none⟩ (.int .i64 m) := ⟨_, rfl⟩
      try rw [show u0.heap.size + 1 + 1 = u0.heap.size + 2 from rfl]
      rw [← hw5] at hbk hmB ⊢
      have d0 : w5.cell? ⟨u0.heap.size + 2, 0, none⟩ = some (.slice ra bs.length rc) := cell_blk hbk 0 _ rfl
      have d1 : w5.cell? ⟨u0.heap.size + 2, 1, none⟩ = some (.int .i64 m) := cell_blk hbk 1 _ rfl
      have HMB := Lib.hid hmB
      clear hbk hmB hw5
      go_wp2
      refine bodyPost_ret (v := .tuple #[.pointer (some ⟨p, 0, none⟩), .agg #[.slice ra bs.length rc, .int .i64 m], .bool true]) (by simp [results, Try.f15, go_sem, *]) rfl ?_
      exact acted_fin (K3 := K5) (fun q hq => K05.out q (HK1.out q hq)) K5s.out Q4.out ((HR.out.below B4.out).mono fun q _ hq => ⟨⟨K05.out q (HKA.out q hq.1).1, .inl (HKA.out q hq.1).2⟩, by omega⟩) HRf.out.na HRf.out.sp HRf.out.cl HRf.out.cm (K05.out _ (HKB.out _ (by omega) (by omega))) (by omega) (Mod.of_below B4.out _) HMB.out (fun hx => hx)

set_option maxHeartbeats 3200000 in
set_option maxRecDepth 100000 in
theorem act_peek_bad {w u0 : World} {K Ka : Nat → Prop} {p : Nat} {m : Int} {bs : List Int} {ra : Option Addr} {rc : Nat} (z : AV) (h : QS w K p m bs u0) (hK : ∀ k, K k → w.heap.size ≤ k) (hR : Rf (fun q => K q ∧ Ka q) u0 ra rc bs) (hw : z.what = 4) (h0 : z.n < 0) :
    Calls Try.prog 15 #[.pointer (some ⟨p, 0, none⟩), qagg ra bs.length rc m, zagg z] u0 (Acted w K Ka m bs u0) := by
  have HNum := Lib.hid num_any
  obtain ⟨hfx, hb0⟩ := Fx.start u0 (.slice ra bs.length rc) m z
  have hq0 := h.grow hb0
  obtain ⟨W0, hW0⟩ : ∃ W, W = (((u0.alloc (.cells #[.slice ra bs.length rc, .int .i64 m] 39)).alloc (.cells #[.int .i64 z.what, .int .i64 z.n, .slice z.a z.xa.length z.ca, .slice z.b z.xb.length z.cb] 31)).alloc (.cells #[.slice none 0 0, .int .i64 0] 39)) := ⟨_, rfl⟩
  rw [← hW0] at hfx hb0 hq0
  obtain ⟨K0, hK0⟩ : ∃ K0, K0 = More K u0 W0 := ⟨_, rfl⟩
  rw [← hK0] at hq0
  have hK0s : ∀ k, K0 k → w.heap.size ≤ k := fun k hk => by
    rw [hK0] at hk
    rcases hk with hk | hk
    · exact hK k hk
    · have := h.below.size; omega
  have hK00 : ∀ k, K k → K0 k := fun k hk => by rw [hK0]; exact .inl hk
  have hKb : ∀ k, u0.heap.size ≤ k → k ≤ u0.heap.size + 2 → K0 k := fun k h1 h2 => by rw [hK0]; exact .inr ⟨h1, by have := hfx.lt; omega⟩
  obtain ⟨KA, hKA⟩ : ∃ KA : Nat → Prop, KA = fun q => K0 q ∧ Ka q := ⟨_, rfl⟩
  have HKA : Hid (∀ q, KA q → K0 q ∧ Ka q) := Lib.hid (fun q hq => by rw [hKA] at hq; exact hq)
  have HR := Lib.hid (hR.at_.mono (U := fun q => KA q ∧ q < u0.heap.size) (fun k h1 hk => ⟨by rw [hKA]; exact ⟨hK00 k hk.1, hk.2⟩, h1⟩))
  clear hKA
  have HRf := Lib.hid hR
  have hbd := h.bounds
  have HF0 := Lib.hid hfx
  have HQ0 := Lib.hid hq0
  have HB0 := Lib.hid hb0
  have HE := Lib.hid hW0
  have HK0 := Lib.hid hK0s
  have HK1 := Lib.hid hK00
  have HKB := Lib.hid hKb
  have hlen : bs.length ≤ 1048576 := by omega
  unfold zagg qagg
  have HRT := Lib.hid (refTake_bad ra bs.length rc m z.n W0 h0)
  unfold qagg at HRT
  obtain ⟨⟨c0, c1⟩, ⟨c2, c3, c4, c5⟩, c6, c7, f6, f7⟩ := hfx.cells
  have hl0 := hfx.lt
  rw [hw] at c2
  clear h hK hR hfx hb0 hq0 hW0 hK0 hK0s hK00 hKb hbd
  go_enter Try.func15, Try.ntmps15
  rw [hw]
  go_wp2_with (go_at_call 28; fail)
  rw [hw] at HE
  rw [← HE.out]
  refine HRT.out.mono ?_
  rintro e w1 ⟨rfl, hb1⟩
  obtain ⟨W2, hW2⟩ : ∃ W, W = w1.alloc (.cells #[.slice ra bs.length rc, .int .i64 m] 39) := ⟨_, rfl⟩
  have hb2 : Below W0.heap.size W0 W2 := by rw [hW2]; exact hb1.alloc hb1.size _
  obtain ⟨K2, hK2⟩ : ∃ K2, K2 = More K0 W0 W2 := ⟨_, rfl⟩
  have hq2 := HQ0.out.grow hb2
  rw [← hK2] at hq2
  have Q2 := Lib.hid hq2
  have F2 := Lib.hid (HF0.out.bel hb2)
  have hlt2 : w1.heap.size < W2.heap.size := by rw [hW2]; simp
  have B15 : Hid (W2.heap[w1.heap.size]? = some (.cells #[.slice ra bs.length rc, .int .i64 m] 39 (0, 0))) := Lib.hid (by rw [hW2]; exact alloc_blk_new _ _)
  have hs1 := hb1.size
  have A2 : Hid (Arg (fun q => (K2 q ∧ Ka q) ∧ q < u0.heap.size) W2 ra (bs.length) (bs)) := Lib.hid (((HR.out.below HB0.out).below hb2).mono fun q _ hq => by rw [hK2]; exact ⟨⟨.inl (HKA.out q hq.1).1, (HKA.out q hq.1).2⟩, hq.2⟩)
  have hB15 : K2 w1.heap.size := by rw [hK2]; exact .inr ⟨hs1, hlt2⟩
  have KB2 : Hid (∀ q, u0.heap.size ≤ q → q ≤ u0.heap.size + 2 → K2 q) := Lib.hid (fun q h1 h2 => by rw [hK2]; exact .inl (HKB.out q h1 h2))
  have K02 : Hid (∀ q, K0 q → K2 q) := Lib.hid (fun q hq => by rw [hK2]; exact .inl hq)
  have K2s : Hid (∀ q, K2 q → w.heap.size ≤ q) := Lib.hid (fun q hq => by
    rw [hK2] at hq
    rcases hq with hq | hq
    · exact HK0.out q hq
    · have := HQ0.out.below.size; omega)
  have HB2 := Lib.hid hb2
  have HE2 := Lib.hid hW2
  have NA := Lib.hid (And.intro HRf.out.na (And.intro HRf.out.sp (And.intro HRf.out.cl HRf.out.cm)))
  clear hb2 hK2 hq2 hb1 HQ0 HF0 hW2 c0 c1 c2 c3 c4 c5 c6 c7 f6 f7
  go_upto_region 19 with fail
  rw [← HE2.out]
  obtain ⟨⟨c0, c1⟩, ⟨c2, c3, c4, c5⟩, c6, c7, f6, f7⟩ := F2.out.cells
  have hl2 := F2.out.lt
  clear c2
  go_wp2_with (go_at_call 19; fail)
  clear c0 c1 c3 c4 c5 c6 c7 f6 f7
  refine (calls_swap (Q2.out.peek_bad z.n h0)).mono ?_
  rintro e w3 ⟨rfl, hw3⟩
  have hq3 := Q2.out
  have hm3 : Mod (fun q => ¬ K2 q ∧ w.heap.size ≤ q) W2 w3 := by rw [hw3]; exact Mod.refl _ _
  have hb3 : Below W2.heap.size W2 w3 := by rw [hw3]; exact Below.refl _ _
  rw [← hw3] at hq3
  clear hw3
  have K23 : Hid (∀ q, K2 q → K2 q) := Lib.hid (fun _ h => h)
  have K3s := K2s
  have hs3 := hm3.size
  have F3 := Lib.hid (F2.out.mod hm3 (fun q h1 h2 e => e.1 (KB2.out q h1 h2)))
  have B3 := Lib.hid ((hm3.block _ hlt2 (fun e => e.1 hB15)).trans B15.out)
  have A3 := Lib.hid (A2.out.keep hm3 (fun _ e => e.1.1))
  have Q3 := Lib.hid hq3
  have M3 := Lib.hid hm3
  clear hq3
  obtain ⟨S, hS⟩ : ∃ S, S = strOfNums ([]) := ⟨_, rfl⟩
  have HS : Hid (∀ W, Mod (fun q => q = u0.heap.size + 2) w3 W → (W.cell? ⟨w1.heap.size, 0, none⟩ = some (.slice ra bs.length rc) ∧ W.cell? ⟨w1.heap.size, 1, none⟩ = some (.int .i64 m)) ∧ (convert 29 9 (.slice none 0 0)).run Try.prog W = .ok (.string S) W ∧ (convert 29 9 (.slice none 0 0)).run Try.prog W = .ok (.string S) W) := Lib.hid (fun W hm => by
    have hne : w1.heap.size ≠ u0.heap.size + 2 := by have := hs1; omega
    have hb := (hm.block w1.heap.size (blk_lt B3.out) hne).trans B3.out
    have hW2s : u0.heap.size + 2 < W2.heap.size := F2.out.lt
    have h1 := conv_any (xs := []) 0 (⟨rfl, fun h => by simp at h⟩ : Arg (fun _ => True) W none 0 []) (fun _ => ⟨rfl, rfl⟩)
    have h2 := conv_any (xs := []) 0 (⟨rfl, fun h => by simp at h⟩ : Arg (fun _ => True) W none 0 []) (fun _ => ⟨rfl, rfl⟩)
    rw [← hS] at h1 h2
    exact ⟨cell2 hb, h1, h2⟩)
  clear hS
  obtain ⟨_, cv1, cv2⟩ := HS.out _ (Mod.refl _ _)
  have hl3 := F3.out.lt
  have HB3 := Lib.hid hb3
  clear hm3 HS hb3
  go_upto_region 21 with (go_at_call 10; refine (HNum.out _ _).mono ?_; rintro e w' ⟨rfl, rfl⟩)
  clear cv1 cv2
  go_wp2_with fail
  go_loopg [26] 0 (fun gk v wr => v = .int .i64 0 ∧ wr = w3)
  case atStart => exact ⟨rfl, rfl⟩
  case round =>
    obtain ⟨rfl, hwr⟩ := hrel
    have FR : Hid (Fx u0 (.slice ra bs.length rc) m z wr) := Lib.hid (by rw [hwr]; exact F3.out)
    have BW : Hid (Below u0.heap.size u0 wr) := Lib.hid (by rw [hwr]; exact HB0.out.trans ((HB2.out.trans (HB3.out.mono HB2.out.size)).mono HB0.out.size))
    have QR : Hid (QS w K2 p m bs wr) := Lib.hid (by rw [hwr]; exact Q3.out)
    have K05 := K02
    have K5s := K2s
    clear hwr
    go_wp2_with fail
    refine wp_region_K 5 (fun W => W.cell? ⟨u0.heap.size, 0, none⟩ = some (.slice ra bs.length rc) ∧ W.cell? ⟨u0.heap.size, 1, none⟩ = some (.int .i64 m)) (by kernel_rfl) ?_
    obtain ⟨wd, hwd⟩ : ∃ W, W = wr.drew := ⟨_, rfl⟩
    rw [← hwd]
    have HWD := Lib.hid hwd
    have F4 := Lib.hid (FR.out.bel (W' := wd) (by rw [hwd]; exact Below.drewN' wr 1))
    have Q4 := Lib.hid (QR.out.drewN 1)
    rw [show wr.drewN 1 = wr.drew from rfl, ← hwd] at Q4
    have B4 : Hid (Below u0.heap.size u0 wd) := Lib.hid (by rw [hwd]; exact BW.out.trans ((Below.drewN' wr 1).mono BW.out.size))
    clear hwd
    have hS0 := cell2 F4.out.b0
    refine wpAnyK_take (i := 0) (v := .pointer (some ⟨p, 0, none⟩)) rfl (by kernel_rfl) (by kernel_rfl) (by kernel_rfl) [] (by kernel_rfl) (by decide) (by kernel_rfl) (by kernel_rfl) (fun _ _ _ h => h) hS0 (.inl ⟨by rfl, fun W hW => ?_⟩) ?_
    · obtain ⟨q0, q1⟩ := hW
      go_simp
    simp only [Act.put, List.setIfInBounds_toArray, List.set_cons_zero, List.set_cons_succ]
    refine wpAnyK_take (i := 1) (v := .agg #[.slice ra bs.length rc, .int .i64 m]) rfl (by kernel_rfl) (by kernel_rfl) (by kernel_rfl) [] (by kernel_rfl) (by decide) (by kernel_rfl) (by kernel_rfl) (fun _ _ _ h => h) hS0 (.inl ⟨by rfl, fun W hW => ?_⟩) ?_
    · obtain ⟨q0, q1⟩ := hW
      go_simp
    simp only [Act.put, List.setIfInBounds_toArray, List.set_cons_zero, List.set_cons_succ]
    refine wpAnyK_take (i := 2) (v := .bool true) rfl (by kernel_rfl) (by kernel_rfl) (by kernel_rfl) [] (by kernel_rfl) (by decide) (by kernel_rfl) (by kernel_rfl) (fun _ _ _ h => h) hS0 (.inl ⟨by rfl, fun W hW => ?_⟩) ?_
    · obtain ⟨q0, q1⟩ := hW
      go_simp
    simp only [Act.put, List.setIfInBounds_toArray, List.set_cons_zero, List.set_cons_succ]
    refine wpAnyK_ready (rs := [3]) (by kernel_rfl) (by simp) ?_
    refine AllReadyK.cons rfl (fun K hK => ?_) AllReadyK.nil
    go_simp
    refine hK.out _ _ (fun _ => hS0) ?_
    clear hK K
    try simp only [Act.put, List.setIfInBounds_toArray, List.set_cons_zero, List.set_cons_succ]
    have B7 := Lib.hid F4.out.b2
    obtain ⟨c6, c7⟩ := cell2 B7.out
    have f6 := frozen_blk B7.out 0
    have f7 := frozen_blk B7.out 1
    have l7 := blk_lt B7.out
    have hmB := ((Mod.refl (fun q => q = u0.heap.size + 2) wd).setCell ⟨u0.heap.size + 2, 0, none⟩ (.inl rfl) (.slice ra bs.length rc)).setCell ⟨u0.heap.size + 2, 1, none⟩ (.inl rfl) (.int .i64 m)
    have hS2 := cell2 ((hmB.block u0.heap.size (by omega) (by omega)).trans F4.out.b0)
    refine wpAnyK_ready (rs := [4]) (by kernel_rfl) (by simp) ?_
    refine AllReadyK.cons rfl (fun K hK => ?_) AllReadyK.nil
    go_simp
    refine hK.out _ _ (fun _ => hS2) ?_
    clear hK K
    try simp only [Act.put, List.setIfInBounds_toArray, List.set_cons_zero, List.set_cons_succ]
    refine wpAnyK_ready (rs := [5]) (by kernel_rfl) (by simp) ?_
    refine AllReadyK.cons rfl (fun K hK => ?_) AllReadyK.nil
    go_simp
    refine hK.out _ _ (fun h => absurd (show true = false from h) (by decide)) ?_
    clear hK K
    try simp only [Act.put, List.setIfInBounds_toArray, List.set_cons_zero, List.set_cons_succ]
    refine wpAnyK_done (by kernel_rfl) ?_ _
    have hbk := setCell_blk (setCell_blk B7.out 0 (.slice ra bs.length rc)) 1 (.int .i64 m)
    obtain ⟨w5, hw5⟩ : ∃ W, W = (wd.setCell ⟨u0.heap.size + 2, 0, none⟩ (.slice ra bs.length rc)).setCell ⟨u0.heap.size + 2, 1, none⟩ (.int .i64 m) := ⟨_, rfl⟩
    try rw [show u0.heap.size + 1 + 1 = u0.heap.size + 2 from rfl]
    rw [← hw5] at hbk hmB ⊢
    have d0 : w5.cell? ⟨u0.heap.size + 2, 0, none⟩ = some (.slice ra bs.length rc) := cell_blk hbk 0 _ rfl
    have d1 : w5.cell? ⟨u0.heap.size + 2, 1, none⟩ = some (.int .i64 m) := cell_blk hbk 1 _ rfl
    have HMB := Lib.hid hmB
    clear hbk hmB hw5
    go_wp2
    refine bodyPost_ret (v := .tuple #[.pointer (some ⟨p, 0, none⟩), .agg #[.slice ra bs.length rc, .int .i64 m], .bool true]) (by simp [results, Try.f15, go_sem, *]) rfl ?_
    exact acted_fin (K3 := K2) (fun q hq => K05.out q (HK1.out q hq)) K5s.out Q4.out ((HR.out.below B4.out).mono fun q _ hq => ⟨⟨K05.out q (HKA.out q hq.1).1, .inl (HKA.out q hq.1).2⟩, by omega⟩) HRf.out.na HRf.out.sp HRf.out.cl HRf.out.cm (K05.out _ (HKB.out _ (by omega) (by omega))) (by omega) (Mod.of_below B4.out _) HMB.out (fun hx => hx)
end Go.Proofs.Ytkikdpfhcepeaaa
