/-
  A call by both: more of act.
-/
import Derived.Test.YtkikdpfhcepeaaaAc
namespace Go.Proofs.Ytkikdpfhcepeaaa
open Go.RowKit
set_option linter.unusedVariables false
set_option linter.unusedSimpArgs false

/-- A copy, as its callers know it. -/
theorem QS.copy {w wr : World} {K : Nat → Prop} {p : Nat} {m : Int} {bs : List Int} (h : QS w K p m bs wr) :
    Calls Try.prog 17 #[.pointer (some ⟨p, 0, none⟩)] wr fun e w' => ∃ q, e = .returned (.pointer (some ⟨q, 0, none⟩)) ∧ QS w K q m bs w' ∧ Below wr.heap.size wr w' := by
  obtain ⟨sv, g, vs, hq, hK⟩ := h.qu
  refine (Copy_any _ p g m sv vs bs wr hq).mono ?_
  rintro e w' ⟨q, v, rfl, hq', hb⟩
  have hs := h.below.size
  exact ⟨q, rfl, ⟨h.below.trans (hb.mono hs), ⟨v, 0, bs, { hq' with at_ := ⟨hq'.at_.blk, Joins.ownsRow_le hq'.at_.row hs, hq'.at_.ne, Nat.le_trans hs hq'.at_.lo⟩ }, fun k hk hf => by have := (hq'.at_.fplt hf).1; have := h.klt k hk; omega⟩, fun k hk => Nat.lt_of_lt_of_le (h.klt k hk) hb.size⟩, hb⟩

set_option maxHeartbeats 3200000 in
set_option maxRecDepth 100000 in
theorem act_copy {w u0 : World} {K Ka : Nat → Prop} {p : Nat} {m : Int} {bs : List Int} {ra : Option Addr} {rc : Nat} (z : AV) (h : QS w K p m bs u0) (hK : ∀ k, K k → w.heap.size ≤ k) (hR : Rf (fun q => K q ∧ Ka q) u0 ra rc bs) (h0 : z.what ≠ 0) (h1 : z.what ≠ 1) (h2 : z.what ≠ 2) (h3 : z.what ≠ 3) (h4 : z.what ≠ 4) (h5 : z.what ≠ 5) :
    Calls Try.prog 15 #[.pointer (some ⟨p, 0, none⟩), qagg ra bs.length rc m, zagg z] u0 (Acted w K Ka m bs u0) := by
  have HNum := Lib.hid num_any
  obtain ⟨hfx, hb0⟩ := Fx.start u0 (.slice ra bs.length rc) m z
  have hq0 := h.grow hb0
  obtain ⟨W0, hW0⟩ : ∃ W, W = (((u0.alloc (.cells #[.slice ra bs.length rc, .int .i64 m] 39)).alloc (.cells #[.int .i64 z.what, .int .i64 z.n, .slice z.a z.xa.length z.ca, .slice z.b z.xb.length z.cb] 31)).alloc (.cells #[.slice none 0 0, .int .i64 0] 39)) := ⟨_, rfl⟩
  rw [← hW0] at hfx hb0 hq0
  obtain ⟨K0, hK0⟩ : ∃ K0, K0 = More K u0 W0 := ⟨_, rfl⟩
  rw [← hK0] at hq0
  have hK0s : ∀ k, K0 k → w.heap.size ≤ k := fun k hk => by
    rw [hK0] at hk
    rcases hk with hk | hk
    · exact hK k hk
    · have := h.below.size; omega
  have hK00 : ∀ k, K k → K0 k := fun k hk => by rw [hK0]; exact .inl hk
  have hKb : ∀ k, u0.heap.size ≤ k → k ≤ u0.heap.size + 2 → K0 k := fun k h1 h2 => by rw [hK0]; exact .inr ⟨h1, by have := hfx.lt; omega⟩
  obtain ⟨KA, hKA⟩ : ∃ KA : Nat → Prop, KA = fun q => K0 q ∧ Ka q := ⟨_, rfl⟩
  have HKA : Hid (∀ q, KA q → K0 q ∧ Ka q) := Lib.hid (fun q hq => by rw [hKA] at hq; exact hq)
  have HR := Lib.hid (hR.at_.mono (U := fun q => KA q ∧ q < u0.heap.size) (fun k h1 hk => ⟨by rw [hKA]; exact ⟨hK00 k hk.1, hk.2⟩, h1⟩))
  clear hKA
  have HRf := Lib.hid hR
  have hbd := h.bounds
  have HF0 := Lib.hid hfx
  have HQ0 := Lib.hid hq0
  have HB0 := Lib.hid hb0
  have HE := Lib.hid hW0
  have HK0 := Lib.hid hK0s
  have HK1 := Lib.hid hK00
  have HKB := Lib.hid hKb
  have hlen : bs.length ≤ 1048576 := by omega
  unfold zagg qagg
  obtain ⟨⟨c0, c1⟩, ⟨c2, c3, c4, c5⟩, c6, c7, f6, f7⟩ := hfx.cells
  have hl0 := hfx.lt
  have e0 : (z.what == 0) = false := by simpa using h0
  have e1 : (z.what == 1) = false := by simpa using h1
  have e2 : (z.what == 2) = false := by simpa using h2
  have e3 : (z.what == 3) = false := by simpa using h3
  have e4 : (z.what == 4) = false := by simpa using h4
  have e5 : (z.what == 5) = false := by simpa using h5
  clear h hK hR hfx hb0 hq0 hW0 hK0 hK0s hK00 hKb hbd h0 h1 h2 h3 h4 h5
  go_enter Try.func15, Try.ntmps15
  go_upto_region 1 with fail
  rw [← HE.out]
  go_wp2_with fail
  clear c0 c1 c2 c3 c4 c5 c6 c7 f6 f7
  refine wp_region_K 5 (fun W => W.cell? ⟨u0.heap.size, 0, none⟩ = some (.slice ra bs.length rc) ∧ W.cell? ⟨u0.heap.size, 1, none⟩ = some (.int .i64 m)) (by kernel_rfl) ?_
  obtain ⟨wd, hwd⟩ : ∃ W, W = W0.drew := ⟨_, rfl⟩
  rw [← hwd]
  have HWD := Lib.hid hwd
  have F4 := Lib.hid (HF0.out.bel (W' := wd) (by rw [hwd]; exact Below.drewN' W0 1))
  have Q4a := Lib.hid (HQ0.out.drewN 1)
  rw [show W0.drewN 1 = W0.drew from rfl, ← hwd] at Q4a
  have BW0 : Hid (Below u0.heap.size u0 wd) := Lib.hid (by rw [hwd]; exact HB0.out.trans ((Below.drewN' W0 1).mono HB0.out.size))
  clear hwd
  have hS0 := cell2 F4.out.b0
  refine wpAnyK_take (i := 0) (v := .pointer (some ⟨p, 0, none⟩)) rfl (by kernel_rfl) (by kernel_rfl) (by kernel_rfl) [] (by kernel_rfl) (by decide) (by kernel_rfl) (by kernel_rfl) (fun _ _ _ h => h) hS0 (.inl ⟨by rfl, fun W hW => ?_⟩) ?_
  · obtain ⟨q0, q1⟩ := hW
    go_simp
  simp only [Act.put, List.setIfInBounds_toArray, List.set_cons_zero, List.set_cons_succ]
  refine wpAnyK_take (i := 2) (v := .agg #[.slice ra bs.length rc, .int .i64 m]) rfl (by kernel_rfl) (by kernel_rfl) (by kernel_rfl) [] (by kernel_rfl) (by decide) (by kernel_rfl) (by kernel_rfl) (fun _ _ _ h => h) hS0 (.inl ⟨by rfl, fun W hW => ?_⟩) ?_
  · obtain ⟨q0, q1⟩ := hW
    go_simp
  simp only [Act.put, List.setIfInBounds_toArray, List.set_cons_zero, List.set_cons_succ]
  refine wpAnyK_ready (rs := [1]) (by kernel_rfl) (by simp) ?_
  refine AllReadyK.cons rfl (fun K hK => ?_) AllReadyK.nil
  go_simp
  refine Q4a.out.copy.mono ?_
  rintro e w3 ⟨q, rfl, hq3, hb3⟩
  have F3 := Lib.hid (F4.out.bel hb3)
  have B7 := Lib.hid F3.out.b2
  have Q4 := Lib.hid hq3
  have BW := Lib.hid (BW0.out.trans (hb3.mono BW0.out.size))
  have hS1 := cell2 F3.out.b0
  clear hS0 hq3 hb3
  refine hK.out _ _ (fun _ => hS1) ?_
  clear hK K
  try simp only [Act.put, List.setIfInBounds_toArray, List.set_cons_zero, List.set_cons_succ]
  refine wpAnyK_ready (rs := [3]) (by kernel_rfl) (by simp) ?_
  refine AllReadyK.cons rfl (fun K hK => ?_) AllReadyK.nil
  go_simp
  refine hK.out _ _ (fun _ => hS1) ?_
  clear hK K
  try simp only [Act.put, List.setIfInBounds_toArray, List.set_cons_zero, List.set_cons_succ]
  obtain ⟨c6, c7⟩ := cell2 B7.out
  have f6 := frozen_blk B7.out 0
  have f7 := frozen_blk B7.out 1
  have l7 := blk_lt B7.out
  have hmB := ((Mod.refl (fun q => q = u0.heap.size + 2) w3).setCell ⟨u0.heap.size + 2, 0, none⟩ (.inl rfl) (.slice ra bs.length rc)).setCell ⟨u0.heap.size + 2, 1, none⟩ (.inl rfl) (.int .i64 m)
  have hS2 := cell2 ((hmB.block u0.heap.size (by omega) (by omega)).trans F3.out.b0)
  refine wpAnyK_ready (rs := [4]) (by kernel_rfl) (by simp) ?_
  refine AllReadyK.cons rfl (fun K hK => ?_) AllReadyK.nil
  go_simp
  refine hK.out _ _ (fun _ => hS2) ?_
  clear hK K
  try simp only [Act.put, List.setIfInBounds_toArray, List.set_cons_zero, List.set_cons_succ]
  refine wpAnyK_ready (rs := [5]) (by kernel_rfl) (by simp) ?_
  refine AllReadyK.cons rfl (fun K hK => ?_) AllReadyK.nil
  go_simp
  refine hK.out _ _ (fun h => absurd (show true = false from h) (by decide)) ?_
  clear hK K
  try simp only [Act.put, List.setIfInBounds_toArray, List.set_cons_zero, List.set_cons_succ]
  refine wpAnyK_done (by kernel_rfl) ?_ _
  have hbk := setCell_blk (setCell_blk B7.out 0 (.slice ra bs.length rc)) 1 (.int .i64 m)
  obtain ⟨w5, hw5⟩ : ∃ W, W = (w3.setCell ⟨u0.heap.size + 2, 0, none⟩ (.slice ra bs.length rc)).setCell ⟨u0.heap.size + 2, 1, none⟩ (.int .i64 m) := ⟨_, rfl⟩
  try rw [show u0.heap.size + 1 + 1 = u0.heap.size + 2 from rfl]
  rw [← hw5] at hbk hmB ⊢
  have d0 : w5.cell? ⟨u0.heap.size + 2, 0, none⟩ = some (.slice ra bs.length rc) := cell_blk hbk 0 _ rfl
  have d1 : w5.cell? ⟨u0.heap.size + 2, 1, none⟩ = some (.int .i64 m) := cell_blk hbk 1 _ rfl
  have HMB := Lib.hid hmB
  clear hbk hmB hw5
  go_wp2
  refine bodyPost_ret (v := .tuple #[.pointer (some ⟨q, 0, none⟩), .agg #[.slice ra bs.length rc, .int .i64 m], .bool true]) (by simp [results, Try.f15, go_sem, *]) rfl ?_
  exact acted_fin (K3 := K0) HK1.out HK0.out Q4.out (((HR.out.below BW.out).mono fun q _ hq => ⟨⟨(HKA.out q hq.1).1, .inl (HKA.out q hq.1).2⟩, by omega⟩)) HRf.out.na HRf.out.sp HRf.out.cl HRf.out.cm (HKB.out _ (by omega) (by omega)) (by omega) (Mod.of_below BW.out _) HMB.out (fun hx => hx)
end Go.Proofs.Ytkikdpfhcepeaaa
