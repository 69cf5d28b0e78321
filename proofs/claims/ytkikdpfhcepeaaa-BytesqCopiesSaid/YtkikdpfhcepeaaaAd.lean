/-
  A call by both: more of act.
-/
import Derived.Test.YtkikdpfhcepeaaaAc
namespace Go.Proofs.Ytkikdpfhcepeaaa
open Go.RowKit
set_option linter.unusedVariables false
set_option linter.unusedSimpArgs false

set_option maxHeartbeats 3200000 in
set_option maxRecDepth 100000 in
theorem act_drop {w u0 : World} {K Ka : Nat → Prop} {p : Nat} {m : Int} {bs : List Int} {ra : Option Addr} {rc : Nat} (z : AV) (h : QS w K p m bs u0) (hK : ∀ k, K k → w.heap.size ≤ k) (hR : Rf (fun q => K q ∧ Ka q) u0 ra rc bs) (hw : z.what = 5) (h0 : 0 ≤ z.n) :
    Calls Try.prog 15 #[.pointer (some ⟨p, 0, none⟩), qagg ra bs.length rc m, zagg z] u0 (Acted w K Ka m bs u0) := by
  have HNum := Lib.hid num_any
  obtain ⟨hfx, hb0⟩ := Fx.start u0 (.slice ra bs.length rc) m z
  have hq0 := h.grow hb0
  obtain ⟨W0, hW0⟩ : ∃ W, W = (((u0.alloc (.cells #[.slice ra bs.length rc, .int .i64 m] 39)).alloc (.cells #[.int .i64 z.what, .int .i64 z.n, .slice z.a z.xa.length z.ca, .slice z.b z.xb.length z.cb] 31)).alloc (.cells #[.slice none 0 0, .int .i64 0] 39)) := ⟨_, rfl⟩
  rw [← hW0] at hfx hb0 hq0
  obtain ⟨K0, hK0⟩ : ∃ K0, K0 = More K u0 W0 := ⟨_, rfl⟩
  rw [← hK0] at hq0
  have hK0s : ∀ k, K0 k → w.heap.size ≤ k := fun k hk => by
    rw [hK0] at hk
    rcases hk with hk | hk
    · exact hK k hk
    · have := h.below.size; omega
  have hK00 : ∀ k, K k → K0 k := fun k hk => by rw [hK0]; exact .inl hk
  have hKb : ∀ k, u0.heap.size ≤ k → k ≤ u0.heap.size + 2 → K0 k := fun k h1 h2 => by rw [hK0]; exact .inr ⟨h1, by have := hfx.lt; omega⟩
  obtain ⟨KA, hKA⟩ : ∃ KA : Nat → Prop, KA = fun q => K0 q ∧ Ka q := ⟨_, rfl⟩
  have HKA : Hid (∀ q, KA q → K0 q ∧ Ka q) := Lib.hid (fun q hq => by rw [hKA] at hq; exact hq)
  have HR := Lib.hid (hR.at_.mono (U := fun q => KA q ∧ q < u0.heap.size) (fun k h1 hk => ⟨by rw [hKA]; exact ⟨hK00 k hk.1, hk.2⟩, h1⟩))
  clear hKA
  have HRf := Lib.hid hR
  have hbd := h.bounds
  have HF0 := Lib.hid hfx
  have HQ0 := Lib.hid hq0
  have HB0 := Lib.hid hb0
  have HE := Lib.hid hW0
  have HK0 := Lib.hid hK0s
  have HK1 := Lib.hid hK00
  have HKB := Lib.hid hKb
  have hlen : bs.length ≤ 1048576 := by omega
  unfold zagg qagg
  obtain ⟨k, hk⟩ : ∃ k, kOf z.n bs.length = k := ⟨_, rfl⟩
  have hk1 := kOf_le z.n bs.length
  have HRT := Lib.hid (refTake_ok (fun q => KA q ∧ q < u0.heap.size) ra bs.length rc m z.n bs W0 (HR.out.below hb0) hR.na hR.sp hR.cl hR.cm hlen h0)
  rw [hk] at HRT hk1
  unfold qagg at HRT
  have HKk := Lib.hid hk
  obtain ⟨⟨c0, c1⟩, ⟨c2, c3, c4, c5⟩, c6, c7, f6, f7⟩ := hfx.cells
  have hl0 := hfx.lt
  rw [hw] at c2
  clear h hK hR hfx hb0 hq0 hW0 hK0 hK0s hK00 hKb hk hbd
  go_enter Try.func15, Try.ntmps15
  rw [hw]
  go_wp2_with (go_at_call 28; fail)
  rw [hw] at HE
  rw [← HE.out]
  refine HRT.out.mono ?_
  rintro e w1 ⟨ra1, rc1, rfl, hA1, na1, sp1, cl1, cm1, hb1⟩
  obtain ⟨W2, hW2⟩ : ∃ W, W = w1.alloc (.cells #[.slice ra1 (bs.length - k) rc1, .int .i64 m] 39) := ⟨_, rfl⟩
  have hb2 : Below W0.heap.size W0 W2 := by rw [hW2]; exact hb1.alloc hb1.size _
  obtain ⟨K2, hK2⟩ : ∃ K2, K2 = More K0 W0 W2 := ⟨_, rfl⟩
  have hq2 := HQ0.out.grow hb2
  rw [← hK2] at hq2
  have Q2 := Lib.hid hq2
  have F2 := Lib.hid (HF0.out.bel hb2)
  have hlt2 : w1.heap.size < W2.heap.size := by rw [hW2]; simp
  have B15 : Hid (W2.heap[w1.heap.size]? = some (.cells #[.slice ra1 (bs.length - k) rc1, .int .i64 m] 39 (0, 0))) := Lib.hid (by rw [hW2]; exact alloc_blk_new _ _)
  have hs1 := hb1.size
  have A2 : Hid (Arg (fun q => (K2 q ∧ Ka q) ∧ q < u0.heap.size) W2 ra1 (bs.length - k) (bs.drop k)) := Lib.hid ((hA1.below hb2).mono fun q _ hq => by rw [hK2]; exact ⟨⟨.inl (HKA.out q hq.1).1, (HKA.out q hq.1).2⟩, hq.2⟩)
  have T2 : Hid (Arg (fun q => K2 q ∧ q < u0.heap.size) W2 ra k (bs.take k)) := Lib.hid (((HR.out.below HB0.out).take k (by omega)).below hb2 |>.mono fun q _ hq => by rw [hK2]; exact ⟨.inl (HKA.out q hq.1).1, hq.2⟩)
  have hk2 : (bs.take k).length = k := by rw [List.length_take]; omega
  have hB15 : K2 w1.heap.size := by rw [hK2]; exact .inr ⟨hs1, hlt2⟩
  have KB2 : Hid (∀ q, u0.heap.size ≤ q → q ≤ u0.heap.size + 2 → K2 q) := Lib.hid (fun q h1 h2 => by rw [hK2]; exact .inl (HKB.out q h1 h2))
  have K02 : Hid (∀ q, K0 q → K2 q) := Lib.hid (fun q hq => by rw [hK2]; exact .inl hq)
  have K2s : Hid (∀ q, K2 q → w.heap.size ≤ q) := Lib.hid (fun q hq => by
    rw [hK2] at hq
    rcases hq with hq | hq
    · exact HK0.out q hq
    · have := HQ0.out.below.size; omega)
  have HB2 := Lib.hid hb2
  have HE2 := Lib.hid hW2
  have NA := Lib.hid (And.intro na1 (And.intro sp1 (And.intro cl1 cm1)))
  clear hA1 na1 sp1 cl1 cm1
  clear hb2 hK2 hq2 hb1 HQ0 HF0 hW2 c0 c1 c2 c3 c4 c5 c6 c7 f6 f7
  go_upto_region 28 with fail
  rw [← HE2.out]
  obtain ⟨⟨c0, c1⟩, ⟨c2, c3, c4, c5⟩, c6, c7, f6, f7⟩ := F2.out.cells
  have hl2 := F2.out.lt
  clear c2
  go_wp2_with (go_at_call 20; fail)
  clear c0 c1 c3 c4 c5 c6 c7 f6 f7
  refine (Q2.out.drop z.n h0 k HKk.out (bs.drop k) rfl).mono ?_
  rintro e w3 ⟨rfl, hq3, hm3⟩
  have K23 : Hid (∀ q, K2 q → K2 q) := Lib.hid (fun _ h => h)
  have K3s := K2s
  have hs3 := hm3.size
  have F3 := Lib.hid (F2.out.mod hm3 (fun q h1 h2 e => e.1 (KB2.out q h1 h2)))
  have B3 := Lib.hid ((hm3.block _ hlt2 (fun e => e.1 hB15)).trans B15.out)
  have A3 := Lib.hid (A2.out.keep hm3 (fun _ e => e.1.1))
  have Q3 := Lib.hid hq3
  have M3 := Lib.hid hm3
  clear hq3
  have HS : Hid (∀ W, Mod (fun q => q = u0.heap.size + 2) w3.drew W → W.cell? ⟨w1.heap.size, 0, none⟩ = some (.slice ra1 (bs.length - k) rc1) ∧ W.cell? ⟨w1.heap.size, 1, none⟩ = some (.int .i64 m)) := Lib.hid (fun W hm => by
    have hne : w1.heap.size ≠ u0.heap.size + 2 := by have := hs1; omega
    exact cell2 ((hm.block w1.heap.size (blk_lt B3.out) hne).trans B3.out))
  have hS0 := HS.out _ (Mod.refl _ _)
  have hl3 := F3.out.lt
  have hl4 := blk_lt B3.out
  clear hm3
  go_upto_region 29 with fail
  refine wp_region_K 14 (fun W => W.cell? ⟨w1.heap.size, 0, none⟩ = some (.slice ra1 (bs.length - k) rc1) ∧ W.cell? ⟨w1.heap.size, 1, none⟩ = some (.int .i64 m)) (by kernel_rfl) ?_
  obtain ⟨wd, hwd⟩ : ∃ W, W = w3.drew := ⟨_, rfl⟩
  rw [← hwd]
  have HWD := Lib.hid hwd
  rw [← hwd] at hS0 HS
  clear hwd
  refine wpAnyK_take (i := 0) (v := .pointer (some ⟨p, 0, none⟩)) rfl (by kernel_rfl) (by kernel_rfl) (by kernel_rfl) [] (by kernel_rfl) (by decide) (by kernel_rfl) (by kernel_rfl) (fun _ _ _ h => h) hS0 (.inl ⟨by rfl, fun W hW => ?_⟩) ?_
  · obtain ⟨q0, q1⟩ := hW
    go_simp
  simp only [Act.put, List.setIfInBounds_toArray, List.set_cons_zero, List.set_cons_succ]
  refine wpAnyK_take (i := 1) (v := .agg #[.slice ra1 (bs.length - k) rc1, .int .i64 m]) rfl (by kernel_rfl) (by kernel_rfl) (by kernel_rfl) [] (by kernel_rfl) (by decide) (by kernel_rfl) (by kernel_rfl) (fun _ _ _ h => h) hS0 (.inl ⟨by rfl, fun W hW => ?_⟩) ?_
  · obtain ⟨q0, q1⟩ := hW
    go_simp
  simp only [Act.put, List.setIfInBounds_toArray, List.set_cons_zero, List.set_cons_succ]
  refine wpAnyK_take (i := 2) (v := .int .i64 k) rfl (by kernel_rfl) (by kernel_rfl) (by kernel_rfl) [] (by kernel_rfl) (by decide) (by kernel_rfl) (by kernel_rfl) (fun _ _ _ h => h) hS0 (.inl ⟨by rfl, fun W hW => ?_⟩) ?_
  · obtain ⟨q0, q1⟩ := hW
    go_simp
  simp only [Act.put, List.setIfInBounds_toArray, List.set_cons_zero, List.set_cons_succ]
  refine wpAnyK_take (i := 3) (v := .slice ra k rc) rfl (by kernel_rfl) (by kernel_rfl) (by kernel_rfl) [] (by kernel_rfl) (by decide) (by kernel_rfl) (by kernel_rfl) (fun _ _ _ h => h) hS0 (.inl ⟨by rfl, fun W hW => ?_⟩) ?_
  · obtain ⟨q0, q1⟩ := hW
    go_simp
  simp only [Act.put, List.setIfInBounds_toArray, List.set_cons_zero, List.set_cons_succ]
  refine wpAnyK_take (i := 4) (v := .int .i64 k) rfl (by kernel_rfl) (by kernel_rfl) (by kernel_rfl) [] (by kernel_rfl) (by decide) (by kernel_rfl) (by kernel_rfl) (fun _ _ _ h => h) hS0 (.inl ⟨by rfl, fun W hW => ?_⟩) ?_
  · obtain ⟨q0, q1⟩ := hW
    go_simp
  simp only [Act.put, List.setIfInBounds_toArray, List.set_cons_zero, List.set_cons_succ]
  refine wpAnyK_take (i := 5) (v := .bool true) rfl (by kernel_rfl) (by kernel_rfl) (by kernel_rfl) [] (by kernel_rfl) (by decide) (by kernel_rfl) (by kernel_rfl) (fun _ _ _ h => h) hS0 (.inl ⟨by rfl, fun W hW => ?_⟩) ?_
  · obtain ⟨q0, q1⟩ := hW
    go_simp
  simp only [Act.put, List.setIfInBounds_toArray, List.set_cons_zero, List.set_cons_succ]
  refine wpAnyK_take (i := 6) (v := .bool true) rfl (by kernel_rfl) (by kernel_rfl) (by kernel_rfl) [] (by kernel_rfl) (by decide) (by kernel_rfl) (by kernel_rfl) (fun _ _ _ h => h) hS0 (.inl ⟨by rfl, fun W hW => ?_⟩) ?_
  · obtain ⟨q0, q1⟩ := hW
    go_simp
  simp only [Act.put, List.setIfInBounds_toArray, List.set_cons_zero, List.set_cons_succ]
  refine wpAnyK_take (i := 7) (v := .int .i64 0) rfl (by kernel_rfl) (by kernel_rfl) (by kernel_rfl) [] (by kernel_rfl) (by decide) (by kernel_rfl) (by kernel_rfl) (fun _ _ _ h => h) hS0 (.inl ⟨by simp [Region.wanted, yielded], fun W hW => ?_⟩) ?_
  · obtain ⟨q0, q1⟩ := hW
    go_simp
  simp only [Act.put, List.setIfInBounds_toArray, List.set_cons_zero, List.set_cons_succ]
  refine wpAnyK_take (i := 9) (v := .int .i64 0) rfl (by kernel_rfl) (by kernel_rfl) (by kernel_rfl) [] (by kernel_rfl) (by decide) (by kernel_rfl) (by kernel_rfl) (fun _ _ _ h => h) hS0 (.inl ⟨by simp [Region.wanted, yielded], fun W hW => ?_⟩) ?_
  · obtain ⟨q0, q1⟩ := hW
    go_simp
  simp only [Act.put, List.setIfInBounds_toArray, List.set_cons_zero, List.set_cons_succ]
  refine wpAnyK_ready (rs := [8]) (by kernel_rfl) (by simp) ?_
  refine AllReadyK.cons rfl (fun K hK => ?_) AllReadyK.nil
  go_simp
  refine (HNum.out _ _).mono ?_
  rintro e w' ⟨rfl, rfl⟩
  refine hK.out _ _ (fun _ => hS0) ?_
  clear hK K
  try simp only [Act.put, List.setIfInBounds_toArray, List.set_cons_zero, List.set_cons_succ]
  refine wpAnyK_take (i := 10) (v := .bool true) rfl (by kernel_rfl) (by kernel_rfl) (by kernel_rfl) [] (by kernel_rfl) (by decide) (by kernel_rfl) (by kernel_rfl) (fun _ _ _ h => h) hS0 (.inl ⟨by simp [Region.wanted, yielded], fun W hW => ?_⟩) ?_
  · obtain ⟨q0, q1⟩ := hW
    go_simp
  simp only [Act.put, List.setIfInBounds_toArray, List.set_cons_zero, List.set_cons_succ]
  refine wpAnyK_take (i := 11) (v := .bool true) rfl (by kernel_rfl) (by kernel_rfl) (by kernel_rfl) [] (by kernel_rfl) (by decide) (by kernel_rfl) (by kernel_rfl) (fun _ _ _ h => h) hS0 (.inl ⟨by rfl, fun W hW => ?_⟩) ?_
  · obtain ⟨q0, q1⟩ := hW
    go_simp
  simp only [Act.put, List.setIfInBounds_toArray, List.set_cons_zero, List.set_cons_succ]
  refine wpAnyK_ready (rs := [12]) (by kernel_rfl) (by simp) ?_
  refine AllReadyK.cons rfl (fun K hK => ?_) AllReadyK.nil
  go_simp
  refine hK.out _ _ (fun _ => hS0) ?_
  clear hK K
  try simp only [Act.put, List.setIfInBounds_toArray, List.set_cons_zero, List.set_cons_succ]
  have B7 : Hid (wd.heap[u0.heap.size + 2]? = some (.cells #[.slice none 0 0, .int .i64 0] 39 (0, 0))) := Lib.hid (by rw [HWD.out]; exact F3.out.b2)
  obtain ⟨c6, c7⟩ := cell2 B7.out
  have f6 := frozen_blk B7.out 0
  have f7 := frozen_blk B7.out 1
  have l7 := blk_lt B7.out
  have Q4 := Lib.hid (Q3.out.drewN 1)
  have A4 := Lib.hid (A3.out.drewN 1)
  have M4 := Lib.hid (M3.out.drewN 1)
  rw [show w3.drewN 1 = w3.drew from rfl, ← HWD.out] at Q4 A4 M4
  have hmB := ((Mod.refl (fun q => q = u0.heap.size + 2) wd).setCell ⟨u0.heap.size + 2, 0, none⟩ (.inl rfl) (.slice ra1 (bs.length - k) rc1)).setCell ⟨u0.heap.size + 2, 1, none⟩ (.inl rfl) (.int .i64 m)
  refine wpAnyK_ready (rs := [13]) (by kernel_rfl) (by simp) ?_
  refine AllReadyK.cons rfl (fun K hK => ?_) AllReadyK.nil
  go_simp
  refine hK.out _ _ (fun _ => HS.out _ hmB) ?_
  clear hK K
  try simp only [Act.put, List.setIfInBounds_toArray, List.set_cons_zero, List.set_cons_succ]
  refine wpAnyK_ready (rs := [14]) (by kernel_rfl) (by simp) ?_
  refine AllReadyK.cons rfl (fun K hK => ?_) AllReadyK.nil
  go_simp
  refine hK.out _ _ (fun h => absurd (show true = false from h) (by decide)) ?_
  clear hK K
  try simp only [Act.put, List.setIfInBounds_toArray, List.set_cons_zero, List.set_cons_succ]
  refine wpAnyK_done (by kernel_rfl) ?_ _
  have hbk := setCell_blk (setCell_blk B7.out 0 (.slice ra1 (bs.length - k) rc1)) 1 (.int .i64 m)
  obtain ⟨w5, hw5⟩ : ∃ W, W = (wd.setCell ⟨u0.heap.size + 2, 0, none⟩ (.slice ra1 (bs.length - k) rc1)).setCell ⟨u0.heap.size + 2, 1, none⟩ (.int .i64 m) := ⟨_, rfl⟩
  try rw [show u0.heap.size + 1 + 1 = u0.heap.size + 2 from rfl]
  rw [← hw5] at hbk hmB ⊢
  have d0 : w5.cell? ⟨u0.heap.size + 2, 0, none⟩ = some (.slice ra1 (bs.length - k) rc1) := cell_blk hbk 0 _ rfl
  have d1 : w5.cell? ⟨u0.heap.size + 2, 1, none⟩ = some (.int .i64 m) := cell_blk hbk 1 _ rfl
  have HMB := Lib.hid hmB
  clear hbk hmB hw5
  go_wp2
  refine bodyPost_ret (v := .tuple #[.pointer (some ⟨p, 0, none⟩), .agg #[.slice ra1 (bs.length - k) rc1, .int .i64 m], .bool true]) (by simp [results, Try.f15, go_sem, *]) rfl ?_
  obtain ⟨na1, sp1, cl1, cm1⟩ := NA.out
  have A5 := A4.out
  have hbl : (bs.drop k).length = bs.length - k := by rw [List.length_drop]
  rw [← hbl] at na1 cl1 A5 ⊢
  exact acted_fin (K3 := K2) (fun q hq => K23.out q (K02.out q (HK1.out q hq))) K3s.out Q4.out (A5.mono (fun q _ hq => ⟨⟨K23.out q hq.1.1, .inl hq.1.2⟩, by omega⟩)) na1 sp1 cl1 cm1 (K23.out _ (KB2.out _ (by omega) (by omega))) (by omega)
    (((Mod.of_below HB0.out _).trans (Mod.of_below HB2.out _) (fun q hq e => e)).trans M4.out (fun q hq e => ⟨fun e' => e.1 (K02.out q (HK1.out q e')), e.2⟩)) HMB.out (fun hx x hxm => hx x (List.mem_of_mem_drop hxm))

set_option maxHeartbeats 3200000 in
set_option maxRecDepth 100000 in
theorem act_drop_bad {w u0 : World} {K Ka : Nat → Prop} {p : Nat} {m : Int} {bs : List Int} {ra : Option Addr} {rc : Nat} (z : AV) (h : QS w K p m bs u0) (hK : ∀ k, K k → w.heap.size ≤ k) (hR : Rf (fun q => K q ∧ Ka q) u0 ra rc bs) (hw : z.what = 5) (h0 : z.n < 0) :
    Calls Try.prog 15 #[.pointer (some ⟨p, 0, none⟩), qagg ra bs.length rc m, zagg z] u0 (Acted w K Ka m bs u0) := by
  have HNum := Lib.hid num_any
  obtain ⟨hfx, hb0⟩ := Fx.start u0 (.slice ra bs.length rc) m z
  have hq0 := h.grow hb0
  obtain ⟨W0, hW0⟩ : ∃ W, W = (((u0.alloc (.cells #[.slice ra bs.length rc, .int .i64 m] 39)).alloc (.cells #[.int .i64 z.what, .int .i64 z.n, .slice z.a z.xa.length z.ca, .slice z.b z.xb.length z.cb] 31)).alloc (.cells #[.slice none 0 0, .int .i64 0] 39)) := ⟨_, rfl⟩
  rw [← hW0] at hfx hb0 hq0
  obtain ⟨K0, hK0⟩ : ∃ K0, K0 = More K u0 W0 := ⟨_, rfl⟩
  rw [← hK0] at hq0
  have hK0s : ∀ k, K0 k → w.heap.size ≤ k := fun k hk => by
    rw [hK0] at hk
    rcases hk with hk | hk
    · exact hK k hk
    · have := h.below.size; omega
  have hK00 : ∀ k, K k → K0 k := fun k hk => by rw [hK0]; exact .inl hk
  have hKb : ∀ k, u0.heap.size ≤ k → k ≤ u0.heap.size + 2 → K0 k := fun k h1 h2 => by rw [hK0]; exact .inr ⟨h1, by have := hfx.lt; omega⟩
  obtain ⟨KA, hKA⟩ : ∃ KA : Nat → Prop, KA = fun q => K0 q ∧ Ka q := ⟨_, rfl⟩
  have HKA : Hid (∀ q, KA q → K0 q ∧ Ka q) := Lib.hid (fun q hq => by rw [hKA] at hq; exact hq)
  have HR := Lib.hid (hR.at_.mono (U := fun q => KA q ∧ q < u0.heap.size) (fun k h1 hk => ⟨by rw [hKA]; exact ⟨hK00 k hk.1, hk.2⟩, h1⟩))
  clear hKA
  have HRf := Lib.hid hR
  have hbd := h.bounds
  have HF0 := Lib.hid hfx
  have HQ0 := Lib.hid hq0
  have HB0 := Lib.hid hb0
  have HE := Lib.hid hW0
  have HK0 := Lib.hid hK0s
  have HK1 := Lib.hid hK00
  have HKB := Lib.hid hKb
  have hlen : bs.length ≤ 1048576 := by omega
  unfold zagg qagg
  have HRT := Lib.hid (refTake_bad ra bs.length rc m z.n W0 h0)
  unfold qagg at HRT
  obtain ⟨⟨c0, c1⟩, ⟨c2, c3, c4, c5⟩, c6, c7, f6, f7⟩ := hfx.cells
  have hl0 := hfx.lt
  rw [hw] at c2
  clear h hK hR hfx hb0 hq0 hW0 hK0 hK0s hK00 hKb hbd
  go_enter Try.func15, Try.ntmps15
  rw [hw]
  go_wp2_with (go_at_call 28; fail)
  rw [hw] at HE
  rw [← HE.out]
  refine HRT.out.mono ?_
  rintro e w1 ⟨rfl, hb1⟩
  obtain ⟨W2, hW2⟩ : ∃ W, W = w1.alloc (.cells #[.slice ra bs.length rc, .int .i64 m] 39) := ⟨_, rfl⟩
  have hb2 : Below W0.heap.size W0 W2 := by rw [hW2]; exact hb1.alloc hb1.size _
  obtain ⟨K2, hK2⟩ : ∃ K2, K2 = More K0 W0 W2 := ⟨_, rfl⟩
  have hq2 := HQ0.out.grow hb2
  rw [← hK2] at hq2
  have Q2 := Lib.hid hq2
  have F2 := Lib.hid (HF0.out.bel hb2)
  have hlt2 : w1.heap.size < W2.heap.size := by rw [hW2]; simp
  have B15 : Hid (W2.heap[w1.heap.size]? = some (.cells #[.slice ra bs.length rc, .int .i64 m] 39 (0, 0))) := Lib.hid (by rw [hW2]; exact alloc_blk_new _ _)
  have hs1 := hb1.size
  have A2 : Hid (Arg (fun q => (K2 q ∧ Ka q) ∧ q < u0.heap.size) W2 ra (bs.length) (bs)) := Lib.hid (((HR.out.below HB0.out).below hb2).mono fun q _ hq => by rw [hK2]; exact ⟨⟨.inl (HKA.out q hq.1).1, (HKA.out q hq.1).2⟩, hq.2⟩)
  have hB15 : K2 w1.heap.size := by rw [hK2]; exact .inr ⟨hs1, hlt2⟩
  have KB2 : Hid (∀ q, u0.heap.size ≤ q → q ≤ u0.heap.size + 2 → K2 q) := Lib.hid (fun q h1 h2 => by rw [hK2]; exact .inl (HKB.out q h1 h2))
  have K02 : Hid (∀ q, K0 q → K2 q) := Lib.hid (fun q hq => by rw [hK2]; exact .inl hq)
  have K2s : Hid (∀ q, K2 q → w.heap.size ≤ q) := Lib.hid (fun q hq => by
    rw [hK2] at hq
    rcases hq with hq | hq
    · exact HK0.out q hq
    · have := HQ0.out.below.size; omega)
  have HB2 := Lib.hid hb2
  have HE2 := Lib.hid hW2
  have NA := Lib.hid (And.intro HRf.out.na (And.intro HRf.out.sp (And.intro HRf.out.cl HRf.out.cm)))
  clear hb2 hK2 hq2 hb1 HQ0 HF0 hW2 c0 c1 c2 c3 c4 c5 c6 c7 f6 f7
  go_upto_region 28 with fail
  rw [← HE2.out]
  obtain ⟨⟨c0, c1⟩, ⟨c2, c3, c4, c5⟩, c6, c7, f6, f7⟩ := F2.out.cells
  have hl2 := F2.out.lt
  clear c2
  go_wp2_with (go_at_call 20; fail)
  clear c0 c1 c3 c4 c5 c6 c7 f6 f7
  refine (calls_swap (Q2.out.drop_bad z.n h0)).mono ?_
  rintro e w3 ⟨rfl, hw3⟩
  have hq3 := Q2.out
  have hm3 : Mod (fun q => ¬ K2 q ∧ w.heap.size ≤ q) W2 w3 := by rw [hw3]; exact Mod.refl _ _
  rw [← hw3] at hq3
  clear hw3
  have K23 : Hid (∀ q, K2 q → K2 q) := Lib.hid (fun _ h => h)
  have K3s := K2s
  have hs3 := hm3.size
  have F3 := Lib.hid (F2.out.mod hm3 (fun q h1 h2 e => e.1 (KB2.out q h1 h2)))
  have B3 := Lib.hid ((hm3.block _ hlt2 (fun e => e.1 hB15)).trans B15.out)
  have A3 := Lib.hid (A2.out.keep hm3 (fun _ e => e.1.1))
  have Q3 := Lib.hid hq3
  have M3 := Lib.hid hm3
  clear hq3
  have HS : Hid (∀ W, Mod (fun q => q = u0.heap.size + 2) w3.drew W → W.cell? ⟨w1.heap.size, 0, none⟩ = some (.slice ra bs.length rc) ∧ W.cell? ⟨w1.heap.size, 1, none⟩ = some (.int .i64 m)) := Lib.hid (fun W hm => by
    have hne : w1.heap.size ≠ u0.heap.size + 2 := by have := hs1; omega
    exact cell2 ((hm.block w1.heap.size (blk_lt B3.out) hne).trans B3.out))
  have hS0 := HS.out _ (Mod.refl _ _)
  have hl3 := F3.out.lt
  have hl4 := blk_lt B3.out
  clear hm3
  go_upto_region 29 with fail
  refine wp_region_K 14 (fun W => W.cell? ⟨w1.heap.size, 0, none⟩ = some (.slice ra bs.length rc) ∧ W.cell? ⟨w1.heap.size, 1, none⟩ = some (.int .i64 m)) (by kernel_rfl) ?_
  obtain ⟨wd, hwd⟩ : ∃ W, W = w3.drew := ⟨_, rfl⟩
  rw [← hwd]
  have HWD := Lib.hid hwd
  rw [← hwd] at hS0 HS
  clear hwd
  refine wpAnyK_take (i := 0) (v := .pointer (some ⟨p, 0, none⟩)) rfl (by kernel_rfl) (by kernel_rfl) (by kernel_rfl) [] (by kernel_rfl) (by decide) (by kernel_rfl) (by kernel_rfl) (fun _ _ _ h => h) hS0 (.inl ⟨by rfl, fun W hW => ?_⟩) ?_
  · obtain ⟨q0, q1⟩ := hW
    go_simp
  simp only [Act.put, List.setIfInBounds_toArray, List.set_cons_zero, List.set_cons_succ]
  refine wpAnyK_take (i := 1) (v := .agg #[.slice ra bs.length rc, .int .i64 m]) rfl (by kernel_rfl) (by kernel_rfl) (by kernel_rfl) [] (by kernel_rfl) (by decide) (by kernel_rfl) (by kernel_rfl) (fun _ _ _ h => h) hS0 (.inl ⟨by rfl, fun W hW => ?_⟩) ?_
  · obtain ⟨q0, q1⟩ := hW
    go_simp
  simp only [Act.put, List.setIfInBounds_toArray, List.set_cons_zero, List.set_cons_succ]
  refine wpAnyK_take (i := 2) (v := .int .i64 0) rfl (by kernel_rfl) (by kernel_rfl) (by kernel_rfl) [] (by kernel_rfl) (by decide) (by kernel_rfl) (by kernel_rfl) (fun _ _ _ h => h) hS0 (.inl ⟨by rfl, fun W hW => ?_⟩) ?_
  · obtain ⟨q0, q1⟩ := hW
    go_simp
  simp only [Act.put, List.setIfInBounds_toArray, List.set_cons_zero, List.set_cons_succ]
  refine wpAnyK_take (i := 3) (v := .slice none 0 0) rfl (by kernel_rfl) (by kernel_rfl) (by kernel_rfl) [] (by kernel_rfl) (by decide) (by kernel_rfl) (by kernel_rfl) (fun _ _ _ h => h) hS0 (.inl ⟨by rfl, fun W hW => ?_⟩) ?_
  · obtain ⟨q0, q1⟩ := hW
    go_simp
  simp only [Act.put, List.setIfInBounds_toArray, List.set_cons_zero, List.set_cons_succ]
  refine wpAnyK_take (i := 4) (v := .int .i64 0) rfl (by kernel_rfl) (by kernel_rfl) (by kernel_rfl) [] (by kernel_rfl) (by decide) (by kernel_rfl) (by kernel_rfl) (fun _ _ _ h => h) hS0 (.inl ⟨by rfl, fun W hW => ?_⟩) ?_
  · obtain ⟨q0, q1⟩ := hW
    go_simp
  simp only [Act.put, List.setIfInBounds_toArray, List.set_cons_zero, List.set_cons_succ]
  refine wpAnyK_take (i := 5) (v := .bool true) rfl (by kernel_rfl) (by kernel_rfl) (by kernel_rfl) [] (by kernel_rfl) (by decide) (by kernel_rfl) (by kernel_rfl) (fun _ _ _ h => h) hS0 (.inl ⟨by rfl, fun W hW => ?_⟩) ?_
  · obtain ⟨q0, q1⟩ := hW
    go_simp
  simp only [Act.put, List.setIfInBounds_toArray, List.set_cons_zero, List.set_cons_succ]
  refine wpAnyK_take (i := 6) (v := .bool true) rfl (by kernel_rfl) (by kernel_rfl) (by kernel_rfl) [] (by kernel_rfl) (by decide) (by kernel_rfl) (by kernel_rfl) (fun _ _ _ h => h) hS0 (.inl ⟨by rfl, fun W hW => ?_⟩) ?_
  · obtain ⟨q0, q1⟩ := hW
    go_simp
  simp only [Act.put, List.setIfInBounds_toArray, List.set_cons_zero, List.set_cons_succ]
  refine wpAnyK_take (i := 7) (v := .int .i64 2) rfl (by kernel_rfl) (by kernel_rfl) (by kernel_rfl) [] (by kernel_rfl) (by decide) (by kernel_rfl) (by kernel_rfl) (fun _ _ _ h => h) hS0 (.inl ⟨by simp [Region.wanted, yielded], fun W hW => ?_⟩) ?_
  · obtain ⟨q0, q1⟩ := hW
    go_simp
  simp only [Act.put, List.setIfInBounds_toArray, List.set_cons_zero, List.set_cons_succ]
  refine wpAnyK_take (i := 9) (v := .int .i64 2) rfl (by kernel_rfl) (by kernel_rfl) (by kernel_rfl) [] (by kernel_rfl) (by decide) (by kernel_rfl) (by kernel_rfl) (fun _ _ _ h => h) hS0 (.inl ⟨by simp [Region.wanted, yielded], fun W hW => ?_⟩) ?_
  · obtain ⟨q0, q1⟩ := hW
    go_simp
  simp only [Act.put, List.setIfInBounds_toArray, List.set_cons_zero, List.set_cons_succ]
  refine wpAnyK_ready (rs := [8]) (by kernel_rfl) (by simp) ?_
  refine AllReadyK.cons rfl (fun K hK => ?_) AllReadyK.nil
  go_simp
  refine (HNum.out _ _).mono ?_
  rintro e w' ⟨rfl, rfl⟩
  refine hK.out _ _ (fun _ => hS0) ?_
  clear hK K
  try simp only [Act.put, List.setIfInBounds_toArray, List.set_cons_zero, List.set_cons_succ]
  refine wpAnyK_take (i := 10) (v := .bool true) rfl (by kernel_rfl) (by kernel_rfl) (by kernel_rfl) [] (by kernel_rfl) (by decide) (by kernel_rfl) (by kernel_rfl) (fun _ _ _ h => h) hS0 (.inl ⟨by simp [Region.wanted, yielded], fun W hW => ?_⟩) ?_
  · obtain ⟨q0, q1⟩ := hW
    go_simp
  simp only [Act.put, List.setIfInBounds_toArray, List.set_cons_zero, List.set_cons_succ]
  refine wpAnyK_take (i := 11) (v := .bool true) rfl (by kernel_rfl) (by kernel_rfl) (by kernel_rfl) [] (by kernel_rfl) (by decide) (by kernel_rfl) (by kernel_rfl) (fun _ _ _ h => h) hS0 (.inl ⟨by rfl, fun W hW => ?_⟩) ?_
  · obtain ⟨q0, q1⟩ := hW
    go_simp
  simp only [Act.put, List.setIfInBounds_toArray, List.set_cons_zero, List.set_cons_succ]
  refine wpAnyK_ready (rs := [12]) (by kernel_rfl) (by simp) ?_
  refine AllReadyK.cons rfl (fun K hK => ?_) AllReadyK.nil
  go_simp
  refine hK.out _ _ (fun _ => hS0) ?_
  clear hK K
  try simp only [Act.put, List.setIfInBounds_toArray, List.set_cons_zero, List.set_cons_succ]
  have B7 : Hid (wd.heap[u0.heap.size + 2]? = some (.cells #[.slice none 0 0, .int .i64 0] 39 (0, 0))) := Lib.hid (by rw [HWD.out]; exact F3.out.b2)
  obtain ⟨c6, c7⟩ := cell2 B7.out
  have f6 := frozen_blk B7.out 0
  have f7 := frozen_blk B7.out 1
  have l7 := blk_lt B7.out
  have Q4 := Lib.hid (Q3.out.drewN 1)
  have A4 := Lib.hid (A3.out.drewN 1)
  have M4 := Lib.hid (M3.out.drewN 1)
  rw [show w3.drewN 1 = w3.drew from rfl, ← HWD.out] at Q4 A4 M4
  have hmB := ((Mod.refl (fun q => q = u0.heap.size + 2) wd).setCell ⟨u0.heap.size + 2, 0, none⟩ (.inl rfl) (.slice ra bs.length rc)).setCell ⟨u0.heap.size + 2, 1, none⟩ (.inl rfl) (.int .i64 m)
  refine wpAnyK_ready (rs := [13]) (by kernel_rfl) (by simp) ?_
  refine AllReadyK.cons rfl (fun K hK => ?_) AllReadyK.nil
  go_simp
  refine hK.out _ _ (fun _ => HS.out _ hmB) ?_
  clear hK K
  try simp only [Act.put, List.setIfInBounds_toArray, List.set_cons_zero, List.set_cons_succ]
  refine wpAnyK_ready (rs := [14]) (by kernel_rfl) (by simp) ?_
  refine AllReadyK.cons rfl (fun K hK => ?_) AllReadyK.nil
  go_simp
  refine hK.out _ _ (fun h => absurd (show true = false from h) (by decide)) ?_
  clear hK K
  try simp only [Act.put, List.setIfInBounds_toArray, List.set_cons_zero, List.set_cons_succ]
  refine wpAnyK_done (by kernel_rfl) ?_ _
  have hbk := setCell_blk (setCell_blk B7.out 0 (.slice ra bs.length rc)) 1 (.int .i64 m)
  obtain ⟨w5, hw5⟩ : ∃ W, W = (wd.setCell ⟨u0.heap.size + 2, 0, none⟩ (.slice ra bs.length rc)).setCell ⟨u0.heap.size + 2, 1, none⟩ (.int .i64 m) := ⟨_, rfl⟩
  try rw [show u0.heap.size + 1 + 1 = u0.heap.size + 2 from rfl]
  rw [← hw5] at hbk hmB ⊢
  have d0 : w5.cell? ⟨u0.heap.size + 2, 0, none⟩ = some (.slice ra bs.length rc) := cell_blk hbk 0 _ rfl
  have d1 : w5.cell? ⟨u0.heap.size + 2, 1, none⟩ = some (.int .i64 m) := cell_blk hbk 1 _ rfl
  have HMB := Lib.hid hmB
  clear hbk hmB hw5
  go_wp2
  refine bodyPost_ret (v := .tuple #[.pointer (some ⟨p, 0, none⟩), .agg #[.slice ra bs.length rc, .int .i64 m], .bool true]) (by simp [results, Try.f15, go_sem, *]) rfl ?_
  obtain ⟨na1, sp1, cl1, cm1⟩ := NA.out
  have A5 := A4.out
  exact acted_fin (K3 := K2) (fun q hq => K23.out q (K02.out q (HK1.out q hq))) K3s.out Q4.out (A5.mono (fun q _ hq => ⟨⟨K23.out q hq.1.1, .inl hq.1.2⟩, by omega⟩)) na1 sp1 cl1 cm1 (K23.out _ (KB2.out _ (by omega) (by omega))) (by omega)
    (((Mod.of_below HB0.out _).trans (Mod.of_below HB2.out _) (fun q hq e => e)).trans M4.out (fun q hq e => ⟨fun e' => e.1 (K02.out q (HK1.out q e')), e.2⟩)) HMB.out (fun hx => hx)
end Go.Proofs.Ytkikdpfhcepeaaa
