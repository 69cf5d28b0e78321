/-
  Are two rings the same?
-/
import Derived.Test.YthiajgkifoimcaaTg
import Derived.Test.YthiajgkifoimcaaRb
namespace Go.Proofs.Ythiajgkifoimcaa
open Go.RowKit Go.Shelf
set_option linter.unusedVariables false
set_option linter.unusedSimpArgs false
attribute [local go_sem] Oper.semAt_some

theorem arr54 (d : Nat) (a b c e : Int) (w : World) : (Op.equalIn (d + 2) 54 (.agg #[.int .u64 a, .int .u64 b]) (.agg #[.int .u64 c, .int .u64 e])).run Try.prog w = .ok (a == c && b == e) w := by
  obtain ⟨i, hi⟩ : ∃ i, Try.prog.info? 22 = some i := Option.isSome_iff_exists.1 (by kernel_rfl)
  have hc : Try.prog.cellsOf 22 = 1 := by kernel_rfl
  rw [show d + 2 = (d + 1) + 1 from rfl, run_equalIn_array w (d + 1) _ _ Try.underlying54 hi, hc, show List.range 2 = [0, 1] from rfl]
  simp only [Op.eqItems]
  go_simp
  by_cases h1 : a = c <;> by_cases h2 : b = e <;> simp [h1, h2]
theorem neq54 (a b c e : Int) (w : World) : (binOp .neq 54 (.agg #[.int .u64 a, .int .u64 b]) (.agg #[.int .u64 c, .int .u64 e])).run Try.prog w = .ok (.bool (!(a == c && b == e))) w := by
  simp only [binOp]
  simp [Op.equal, Op.maxDepth, arr54 9998 a b c e w]
attribute [local go_sem high] neq54

set_option maxHeartbeats 3200000 in
set_option maxRecDepth 100000 in
theorem Same_ring (base base' p q : Nat) (F m F' m' : Int) (sv sv' : Value) (L L' : List Int) (w : World) (h : Ring w base p F m sv L) (h' : Ring w base' q F' m' sv' L') :
    Calls Try.prog 21 #[.pointer (some ⟨p, 0, none⟩), .pointer (some ⟨q, 0, none⟩)] w fun e w' => e = .returned (.bool (eqR F m L F' m' L')) ∧ Below w.heap.size w w' := by
  have hnone : ∀ W, Below w.heap.size w W → ∀ x, x = p ∨ x = q → Calls Try.prog 24 #[.pointer (some ⟨x, 0, none⟩)] W fun e w' => e = .returned (.bool false) ∧ W = w' := by
    rintro W hW x (rfl | rfl)
    · obtain ⟨vs, hr, hl⟩ := h.below hW
      exact none_ring x m W (by have := hl.m1; simp; omega) hr.c3
    · obtain ⟨vs, hr, hl⟩ := h'.below hW
      exact none_ring x m' W (by have := hl.m1; simp; omega) hr.c3
  have HN := Lib.hid hnone
  have HR := Lib.hid h
  have HR' := Lib.hid h'
  have hb1 := (Below.refl _ w).alloc (Nat.le_refl _) (.cells #[.pointer (some ⟨q, 0, none⟩)] 25)
  have hb2 := hb1.alloc (by simp) (.cells #[.bool false] 4)
  have k3 := alloc_blk (alloc_blk_new w (.cells #[.pointer (some ⟨q, 0, none⟩)] 25)) (.cells #[.bool false] 4)
  have k4 : ((w.alloc (.cells #[.pointer (some ⟨q, 0, none⟩)] 25)).alloc (.cells #[.bool false] 4)).heap[w.heap.size + 1]? = some (.cells #[.bool false] 4 (0, 0)) := by
    have := alloc_blk_new (w.alloc (.cells #[.pointer (some ⟨q, 0, none⟩)] 25)) (.cells #[.bool false] 4)
    simpa using this
  obtain ⟨W0, hW0⟩ : ∃ W, W = (w.alloc (.cells #[.pointer (some ⟨q, 0, none⟩)] 25)).alloc (.cells #[.bool false] 4) := ⟨_, rfl⟩
  rw [← hW0] at hb2 k3 k4
  have HB := Lib.hid hb2
  have HK3 := Lib.hid k3
  have HK4 := Lib.hid k4
  have HW0 := Lib.hid hW0
  have hbd := h.b
  have hbd' := h'.b
  have HBd := Lib.hid hbd
  have HBd' := Lib.hid hbd'
  obtain ⟨vs, hr, hl⟩ := h.below hb2
  obtain ⟨vs', hr', hl'⟩ := h'.below hb2
  obtain ⟨N, hN⟩ : ∃ N, N = F + (L.length : Int) := ⟨_, rfl⟩
  obtain ⟨N', hN'⟩ : ∃ N, N = F' + (L'.length : Int) := ⟨_, rfl⟩
  rw [← hN] at hr
  rw [← hN'] at hr'
  have a0 := hr.c0
  have a1 := hr.c1
  have a3 := hr.c3
  have b0 := hr'.c0
  have b1 := hr'.c1
  have b3 := hr'.c3
  have hpl := hr.lt
  have hql := hr'.lt
  have HNd := Lib.hid hN
  have HNd' := Lib.hid hN'
  have x3 := cell_blk k3 0 _ rfl
  have x4 := cell_blk k4 0 _ rfl
  have xf := frozen_blk k4 0
  have hl4 := blk_lt k4
  have hl3 : w.heap.size < W0.heap.size := by omega
  clear h h' hnone hb1 hb2 k3 k4 hW0 hr hl hr' hl' hN hN' hbd hbd'
  refine (callsIn_wide (n := 5)).1 ?_
  refine callsIn_of_wp_marks Try.func21 rfl trivial ?_ rfl
  simp only [Try.ntmps21, List.size_toArray, List.length_cons, List.length_nil, Nat.reduceAdd, Nat.reduceSub, Array.replicate_succ, Array.replicate_zero, List.push_toArray, List.append_toArray, List.nil_append, List.cons_append]
  refine wpIn_wide.2 ?_
  go_upto_region 1 with fail
  rw [← HW0.out]
  go_wp2_with (go_at_call 24; refine (HN.out W0 HB.out _ (by first | exact .inl rfl | exact .inr rfl)).mono ?_; rintro e w' ⟨rfl, rfl⟩)
  by_cases e1 : m = m'
  · subst e1
    have d1 : (m != m) = false := by simp
    by_cases e2 : F = F' ∧ N = N'
    · obtain ⟨rfl, rfl⟩ := e2
      have d2 : (F == F) = true := by simp
      have d3 : (N == N) = true := by simp
      go_quiet (fail)
      go_wp2_with fail
      have HFr := Lib.hid (From_ring base p F m 0 sv L (W0.drewN nq) ((HR.out.below HB.out).drewN nq) (by omega) (by omega))
      have HB1 : Hid (Below w.heap.size w (W0.drewN nq)) := Lib.hid ⟨HB.out.os, HB.out.tape, HB.out.output, HB.out.size, HB.out.block⟩
      have HK3 : Hid ((W0.drewN nq).heap[w.heap.size]? = some (.cells #[.pointer (some ⟨q, 0, none⟩)] 25 (0, 0))) := Lib.hid HK3.out
      have HK4 : Hid ((W0.drewN nq).heap[w.heap.size + 1]? = some (.cells #[.bool false] 4 (0, 0))) := Lib.hid HK4.out
      have hmx : max 0 F = F := by have := HBd.out; omega
      have hdr : L.drop (0 - F).toNat = L := by have h0 : (0 - F).toNat = 0 := by have := HBd.out; omega
                                                rw [h0, List.drop_zero]
      rw [hmx, hdr] at HFr
      obtain ⟨W1, hW1⟩ : ∃ W, W = W0.drewN nq := ⟨_, rfl⟩
      rw [← hW1] at HFr HB1 HK3 HK4 ⊢
      clear hW1 hmx hdr a0 a1 a3 b0 b1 b3 x3 x4 xf hl3 hl4 hpl hql HB
      refine HFr.out.mono ?_
      rintro e w4 ⟨v, rfl, hBx⟩
      obtain ⟨qb, hqb⟩ : ∃ B, B = W1.heap.size := ⟨_, rfl⟩
      rw [← hqb] at hBx ⊢
      have hk4l := blk_lt HK4.out
      have hqw : w.heap.size + 1 < qb := by omega
      have hbx := hBx.below
      have K3 := Lib.hid ((hbx.block w.heap.size (by omega)).trans HK3.out)
      have K4 := Lib.hid ((hbx.block (w.heap.size + 1) (by omega)).trans HK4.out)
      have HB4 := Lib.hid (HB1.out.trans (hbx.mono (by omega)))
      obtain ⟨n, hn⟩ : ∃ n, n = L.length := ⟨_, rfl⟩
      have hrow := hBx.row
      rw [← hn] at hrow
      obtain ⟨qa, qcap, rfl⟩ := row_slice hrow
      have hql := hBx.lt
      have CB := Lib.hid (cell_blk hBx.box 0 _ rfl)
      have CC := Lib.hid (cell_blk hBx.box2 0 _ rfl)
      have HQC : Hid (0 < n → ∃ b off, qa = some ⟨b, off, none⟩ ∧ b < w4.heap.size ∧ ∀ j, j < n → w4.cell? ⟨b, off + j, none⟩ = some (.int .i64 (L[j]?.getD 0))) := Lib.hid (fun hp => by
        obtain ⟨g, cap', cur, e, hb, hg, _⟩ := row_some hrow hp
        cases e
        refine ⟨g, 0, rfl, blk_lt hg, fun j hj => ?_⟩
        rw [Nat.zero_add, hrow.cellAt j (by omega), List.getElem?_map]
        simp [show j < L.length by omega])
      have hn4 : n ≤ 4096 ∧ F + (n : Int) ≤ 18446744073709551615 ∧ 0 ≤ F := by have := HBd.out; omega
      obtain ⟨hn1, hn2, hn3⟩ := hn4
      have hLL : L'.length = n := by have h1 := HNd.out; have h2 := HNd'.out; omega
      have HLL := Lib.hid hLL
      have HNn := Lib.hid hn
      clear hBx hrow hqb hbx HFr HK3 HK4 hn hLL
      go_wp2_with fail
      refine (wpIn_wide (n := 5)).1 ?_
      refine' wpIn_range_deep (F := Fence.wide) rfl (by omega) (gf := 37) (lb := #[.pointer (some ⟨qb, 0, none⟩), .pointer (some ⟨qb + 1, 0, none⟩)]) rfl trivial (enters_of Try.func37 (by kernel_rfl) rfl) (n₀ := w4.heap.size) (Nat.le_refl _)
        (From1_deep 4 (by omega) qb (qb + 1) w4.heap.size F qa n qcap L (by omega) w4 (by omega) (by omega) (Nat.le_refl _) hn3 hn2 CB.out CC.out HQC.out) (fun _ => rfl)
        (fun pre V => (∀ x : Fin n, x ∈ pre → L.getD x.val 0 = L'.getD x.val 0) ∧ Below w4.heap.size w4 V)
        (fun c pre V => c = .ret ∧ (∃ x : Fin n, L.getD x.val 0 ≠ L'.getD x.val 0) ∧ V.cell? ⟨w.heap.size + 1, 0, none⟩ = some (.bool false) ∧ Below w.heap.size w V)
        (fun s U V hs hb => ⟨hs.1, hs.2.trans hb⟩)
        (fun c s U V hs hb => ⟨hs.1, hs.2.1, (hb.cell (p := ⟨w.heap.size + 1, 0, none⟩) (by show w.heap.size + 1 < _; omega)).trans hs.2.2.1, hs.2.2.2.trans (hb.mono (by omega))⟩)
        ⟨fun x hx => (by cases hx), Below.refl _ _⟩ _ ?assign ?body ?done ?stop
      case assign =>
        intro l x W K hK
        gi_wp2
        exact hK
      case body =>
        rintro l pre x V hV ⟨hp, hB⟩ hlt
        have hx : x.val < L'.length := by rw [HLL.out]; exact x.isLt
        have HG := Lib.hid (Get_ring base' q F m sv' L' V ((HR'.out.below HB4.out).below hB) (F + (x.val : Int)) x.val hx rfl)
        have k3 := cell_blk ((hB.block w.heap.size (by omega)).trans K3.out) 0 _ rfl
        have k4' := (hB.block (w.heap.size + 1) (by omega)).trans K4.out
        have HK4 := Lib.hid k4'
        have HBl := Lib.hid hB
        have HP := Lib.hid hp
        obtain ⟨y, hy⟩ : ∃ y, y = L'.getD x.val 0 := ⟨_, rfl⟩
        obtain ⟨z, hz⟩ : ∃ z, z = L[x.val]?.getD 0 := ⟨_, rfl⟩
        rw [← hy] at HG
        have hzz : z = L.getD x.val 0 := by rw [hz]; rfl
        have HY := Lib.hid hy
        have HZ := Lib.hid hzz
        simp only [← hz]
        have hxl := x.isLt
        have hvl : w.heap.size < V.heap.size := by omega
        clear hB hp hx hy hz hzz k4'
        gi_wp2_with fail
        refine ⟨trivial, ?_⟩
        refine (CallsIn.inRound l (callsIn_wide.2 HG.out)).mono ?_
        rintro e V1 ⟨rfl, hb1⟩
        have k4' := (hb1.block (w.heap.size + 1) (by omega)).trans HK4.out
        have x4 := cell_blk k4' 0 _ rfl
        have xf := frozen_blk k4' 0
        have HB1' := Lib.hid hb1
        have hl4' := blk_lt k4'
        clear hb1 k4' k3
        by_cases e3 : y = z
        · subst e3
          have d5 : (y != y) = false := by simp
          gi_wp2
          refine ⟨Stays.below (n₀ := 0) HB1'.out, HB1'.out.mono hV, fun a ha => ?_, HBl.out.trans (HB1'.out.mono hV)⟩
          rcases List.mem_append.1 ha with h | h
          · exact HP.out a h
          · obtain rfl := List.mem_singleton.1 h
            rw [← HZ.out, ← HY.out]
        · have d5 : (y != z) = true := by simpa using e3
          gi_wp2
          have hb4 := HB4.out.trans ((HBl.out.trans (HB1'.out.mono hV)).mono HB4.out.size)
          exact ⟨(Stays.below (n₀ := 0) HB1'.out).setCell (p := ⟨w.heap.size + 1, 0, none⟩) (by show w.heap.size + 1 < _; omega) _, rfl, ⟨x, fun e => e3 (by rw [HY.out, HZ.out, e])⟩, World.cell?_setCell_same' _ _ _ (by rw [x4]; rfl), hb4.setCell (p := ⟨w.heap.size + 1, 0, none⟩) (by simp) _⟩
      case stop =>
        rintro D c pre V hD hSp ⟨rfl, ⟨x, hx⟩, hc, hB⟩ hKd
        gi_wp2
        have hx2 : L ≠ L' := fun e => hx (by rw [e])
        have hc6 := cell_kept hc (grownBy_putObj' V D (.deferred none)) (fun r e => by cases e; exact ⟨_, hKd, rfl⟩)
        refine ⟨by simp, .inl ⟨_, _, rfl, run_takeDeferred hKd, ?_⟩⟩
        refine ⟨.bool false, ?_, by simp [eqR, hx2], hB.trans (belowK_b (w := w) (Nat.le_refl _) _ D _ _ (by omega) hKd rfl rfl)⟩
        simp [results, Try.f21, go_sem, hc6]
      case done =>
        rintro D ys V hD rfl ⟨hp, hB⟩ hKd
        have HLe : Hid (eqR F m L F m L' = true) := Lib.hid (by
          have hLe : L = L' := by
            refine List.ext_getElem (by rw [HLL.out, HNn.out]) fun i h1 h2 => ?_
            have hi : i < n := by rw [HNn.out]; exact h1
            have := hp ⟨i, hi⟩ (List.mem_finRange _)
            simpa [List.getD, h1, h2] using this
          simp [eqR, hLe])
        have k4' := (hB.block (w.heap.size + 1) (by omega)).trans K4.out
        have k4 := cell_blk k4' 0 _ rfl
        have f4 := frozen_blk k4' 0
        have hB2 := HB4.out.trans (hB.mono (by omega))
        have HB5 := Lib.hid hB2
        have HKd := Lib.hid hKd
        have hvl : w.heap.size + 1 < V.heap.size := blk_lt k4'
        clear hB hp k4' hKd hB2
        go_wp2_with fail
        have hk1 := (KeepsOthers.setCell V ⟨w.heap.size + 1, 0, none⟩ (.bool true)).same D _ HKd.out rfl
        have hc6 := cell_kept (World.cell?_setCell_same' V ⟨w.heap.size + 1, 0, none⟩ (.bool true) (by rw [k4]; rfl)) (grownBy_putObj' _ D (.deferred none)) (fun r e => by cases e; exact ⟨_, hk1, rfl⟩)
        refine ⟨by simp, .inl ⟨_, _, rfl, run_takeDeferred hk1, ?_⟩⟩
        refine ⟨.bool true, ?_, by rw [HLe.out], (HB5.out.setCell (p := ⟨w.heap.size + 1, 0, none⟩) (by simp) _).trans (belowK_b (w := w) (Nat.le_refl _) _ D _ _ (by omega) hk1 rfl rfl)⟩
        simp [results, Try.f21, go_sem, hc6]
    · have d2 : (F == F' && N == N') = false := by
        cases hx : (F == F' && N == N') with
        | false => rfl
        | true => simp at hx; exact absurd hx e2
      have hne : ¬ (F = F' ∧ L = L') := fun hh => e2 ⟨hh.1, by rw [HNd.out, HNd'.out, hh.1, hh.2]⟩
      have HNe := Lib.hid hne
      clear hne
      have HEQ : Hid (eqR F m L F' m L' = false) := Lib.hid (by unfold eqR; simp; intro a b; exact HNe.out ⟨a, b⟩)
      go_quiet (fail)
      go_wp2_with fail
      have hcf := World.cell?_setCell_same' (W0.drewN nq) ⟨w.heap.size + 1, 0, none⟩ (.bool false) (by rw [World.cell?_drewN, x4]; rfl)
      refine ⟨.bool false, ?_, by rw [HEQ.out], ((⟨HB.out.os, HB.out.tape, HB.out.output, HB.out.size, HB.out.block⟩ : Below w.heap.size w (W0.drewN nq))).setCell (p := ⟨w.heap.size + 1, 0, none⟩) (by simp) _⟩
      simp [results, Try.f21, go_sem, hcf]
  · have d1 : (m != m') = true := by simpa using e1
    have HEQ : Hid (eqR F m L F' m' L' = false) := Lib.hid (by unfold eqR; simp [e1])
    go_quiet (fail)
    go_wp2_with fail
    have hcf := World.cell?_setCell_same' (W0.drewN nq) ⟨w.heap.size + 1, 0, none⟩ (.bool false) (by rw [World.cell?_drewN, x4]; rfl)
    refine ⟨.bool false, ?_, by rw [HEQ.out], ((⟨HB.out.os, HB.out.tape, HB.out.output, HB.out.size, HB.out.block⟩ : Below w.heap.size w (W0.drewN nq))).setCell (p := ⟨w.heap.size + 1, 0, none⟩) (by simp) _⟩
    simp [results, Try.f21, go_sem, hcf]
end Go.Proofs.Ythiajgkifoimcaa
