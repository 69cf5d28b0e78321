/-
  BytesqPlays, walked.
-/
import Derived.Test.YtkikdpfhcepeaaaPa
namespace Go.Proofs.Ytkikdpfhcepeaaa
open Go.RowKit
set_option linter.unusedVariables false
set_option linter.unusedSimpArgs false

/-- Between act and what is kept of it. -/
def PX (w : World) (m : Int) (B7 : Nat) (ra : Option Addr) (n0 rc : Nat) (p' B10 : Nat) (ra' : Option Addr) (rc' : Nat) (bs' : List Int) (W : World) : Prop :=
  ∃ K, (∀ q, K q → w.heap.size ≤ q) ∧ QS w K p' m bs' W ∧ Rf K W ra' rc' bs' ∧ W.heap[B7]? = some (.cells #[.slice ra n0 rc, .int .i64 m] 39 (0, 0)) ∧ K B7 ∧ W.heap[B10]? = some (.cells #[.slice ra' bs'.length rc', .int .i64 m] 39 (0, 0)) ∧ K B10 ∧ B7 ≠ B10
theorem PX.drew {w : World} {m : Int} {B7 n0 rc p' B10 rc' : Nat} {ra ra' : Option Addr} {bs' : List Int} {W : World} (h : PX w m B7 ra n0 rc p' B10 ra' rc' bs' W) : PX w m B7 ra n0 rc p' B10 ra' rc' bs' W.drew := by
  obtain ⟨K, h1, h2, h3, h4, h5, h6, h7, h8⟩ := h
  exact ⟨K, h1, h2.drewN 1, ⟨h3.at_.drewN 1, h3.na, h3.sp, h3.cl, h3.cm⟩, h4, h5, h6, h7, h8⟩

theorem plays_start (w w1 : World) (p : Nat) (m : Int) (K : Nat → Prop) (hk : ∀ q, K q → w.heap.size ≤ q) (hq : QS w K p m [] w1) : Pl w (More K w1 (w1.alloc (.cells #[.slice none 0 0, .int .i64 m] 39))) m p w1.heap.size none 0 [] (w1.alloc (.cells #[.slice none 0 0, .int .i64 m] 39)) :=
  ⟨More.ks hk hq.below.size, hq.grow ((Below.refl _ w1).alloc (Nat.le_refl _) _), ⟨⟨rfl, fun h => by simp at h⟩, fun _ => ⟨rfl, rfl⟩, by simp, by simp, by simp [maxLen]⟩, alloc_blk_new _ _, .inr ⟨Nat.le_refl _, by simp⟩⟩

set_option maxHeartbeats 6400000 in
set_option maxRecDepth 100000 in
theorem plays_any (m : Int) (ao : Option Addr) (n cap : Nat) (zs : List AV) (w : World) (h : Acts w ao n zs) :
    Calls Try.prog 4 #[.int .i64 m, .slice ao n cap] w fun e w' => e = .returned (.bool true) ∧ Below w.heap.size w w' := by
  have HFew := Lib.hid (few_any ao n cap zs 50 w h (by decide))
  have HWorks := Lib.hid works_true
  have HNum := Lib.hid num_any
  have HA := Lib.hid h
  clear h
  go_enter Try.func4, Try.ntmps4
  go_wp2_with (go_at_call 7; fail)
  refine HFew.out.mono ?_
  rintro e w0 ⟨b, rfl, hfew, q0, rfl⟩
  have hbw := Below.drewN' w q0
  cases b with
  | false =>
    go_wp2_with (first | (go_at_call 8; refine (HWorks.out _).mono ?_; rintro e w' ⟨rfl, hb⟩))
    go_ret
    exact ⟨rfl, hbw.trans hb⟩
  | true =>
    obtain ⟨hn60, hall⟩ := hfew rfl
    have HAll := Lib.hid hall
    clear hfew hall HFew
    by_cases hbad : m < 0 ∨ 1048576 < m
    · have HNew := Lib.hid (fun w => calls_swap (New_bad m w hbad))
      have t0 : (decide (m < 0) = true) ∨ (decide (m < 0) = false ∧ decide (1048576 < m) = true) := by
        rcases hbad with h | h
        · exact .inl (by simpa using h)
        · exact .inr ⟨by simp; omega, by simpa using h⟩
      clear hbad
      have HT := Lib.hid t0
      clear t0
      rcases HT.out with t0 | ⟨t0, t1⟩
      all_goals
        go_wp2_with (first | (go_at_call 9; refine (HNew.out _).mono ?_; rintro e w' ⟨rfl, rfl⟩) | (go_at_call 10; refine (HNum.out _ _).mono ?_; rintro e w' ⟨rfl, rfl⟩) | (go_at_call 8; refine (HWorks.out _).mono ?_; rintro e w' ⟨rfl, hb⟩))
        go_ret
        exact ⟨rfl, hbw.trans hb⟩
    have hm0 : ¬ m < 0 := by omega
    have hm1 : ¬ 1048576 < m := by omega
    have t0 : decide (m < 0) = false := by simpa using hm0
    have t1 : decide (1048576 < m) = false := by simpa using hm1
    have HNew := Lib.hid (New_qs m w (w.drewN q0) (by omega) (by omega) hbw)
    clear hbw hbad
    go_wp2_with (go_at_call 9; fail)
    refine HNew.out.mono ?_
    rintro e w1 ⟨p, rfl, hq, _, _⟩
    have P0 := Lib.hid (plays_start w w1 p m _ (fun q hq => hq.1) hq)
    clear hq HNew
    obtain ⟨B7, hB7⟩ : ∃ B, B = w1.heap.size := ⟨_, rfl⟩
    go_wp2_with fail
    rw [← hB7] at P0 ⊢
    clear hB7
    go_loopg [5, 8] n (fun gk v5 v8 wr => ∃ i p : Nat, v5 = .pointer (some ⟨p, 0, none⟩) ∧ v8 = .int .i64 i ∧ i ≤ n ∧ gk = n - i ∧ ∃ K bs ra rc, Pl w K m p B7 ra rc bs wr)
    case atStart => exact ⟨0, p, rfl, rfl, by omega, rfl, _, _, _, _, P0.out⟩
    case round =>
      obtain ⟨i, p, rfl, rfl, hi, hgk, K, bs, ra, rc, hPl⟩ := hrel
      have HG := Lib.hid hgk
      have HPl := Lib.hid hPl
      clear hgk hPl P0
      by_cases hlt : i < n
      · obtain ⟨b, off, rfl, hbl, hc⟩ := HA.out.2.2 (by omega)
        obtain ⟨z, hz, z0, z1, z2, z3, hok⟩ := hc i hlt
        have hl3 := HAll.out i hlt
        rw [← hz] at hl3
        have HL3 := Lib.hid hl3
        have HZ0 := Lib.hid z0
        have HZ1 := Lib.hid z1
        have HZ2 := Lib.hid z2
        have HZ3 := Lib.hid z3
        have HOK : Hid (∀ W, Below w.heap.size w W → z.Ok (fun k => k < w.heap.size) W) := Lib.hid (fun W hb => hok.below hb)
        clear hc z0 z1 z2 z3 hok hz hl3
        go_upto_region 10 with fail
        go_cut [9, 10, 11] from 45 to 55 (fun s t u wx => ∃ p' B10 ra' rc' bs', s = .pointer (some ⟨p', 0, none⟩) ∧ t = .pointer (some ⟨B10, 0, none⟩) ∧ u = .bool true ∧ PX w m B7 ra bs.length rc p' B10 ra' rc' bs' wx ∧ ((∀ x ∈ bs, 0 ≤ x ∧ x < 256) → ∀ x ∈ bs', 0 ≤ x ∧ x < 256))
        case first =>
          refine wp_region_K 14 (fun W => (W.cell? ⟨B7, 0, none⟩ = some (.slice ra bs.length rc) ∧ W.cell? ⟨B7, 1, none⟩ = some (.int .i64 m)) ∧ W.cell? ⟨b, off + i * 4, none⟩ = some (.int .i64 z.what) ∧ W.cell? ⟨b, off + i * 4 + 1, none⟩ = some (.int .i64 z.n) ∧ W.cell? ⟨b, off + i * 4 + 2, none⟩ = some (.slice z.a z.xa.length z.ca) ∧ W.cell? ⟨b, off + i * 4 + 3, none⟩ = some (.slice z.b z.xb.length z.cb)) (by kernel_rfl) ?_
          obtain ⟨wd, hwd⟩ : ∃ W, W = wr.drew := ⟨_, rfl⟩
          rw [← hwd]
          have HWD := Lib.hid hwd
          have P1 : Hid (Pl w (More K wr wr.drew) m p B7 ra rc bs wd) := Lib.hid (by rw [hwd]; exact HPl.out.bel (Below.drewN' wr 1))
          clear hwd
          obtain ⟨K1, hK1⟩ : ∃ K1, K1 = More K wr wr.drew := ⟨_, rfl⟩
          rw [← hK1] at P1
          clear hK1
          have HSS : Hid (∀ (W : World), Below w.heap.size w W → W.heap[B7]? = some (.cells #[.slice ra bs.length rc, .int .i64 m] 39 (0, 0)) → (W.cell? ⟨B7, 0, none⟩ = some (.slice ra bs.length rc) ∧ W.cell? ⟨B7, 1, none⟩ = some (.int .i64 m)) ∧ W.cell? ⟨b, off + i * 4, none⟩ = some (.int .i64 z.what) ∧ W.cell? ⟨b, off + i * 4 + 1, none⟩ = some (.int .i64 z.n) ∧ W.cell? ⟨b, off + i * 4 + 2, none⟩ = some (.slice z.a z.xa.length z.ca) ∧ W.cell? ⟨b, off + i * 4 + 3, none⟩ = some (.slice z.b z.xb.length z.cb)) := Lib.hid (fun W hb hB => ⟨cell2 hB, (hb.cell (p := ⟨b, off + i * 4, none⟩) hbl).trans HZ0.out, (hb.cell (p := ⟨b, off + i * 4 + 1, none⟩) hbl).trans HZ1.out, (hb.cell (p := ⟨b, off + i * 4 + 2, none⟩) hbl).trans HZ2.out, (hb.cell (p := ⟨b, off + i * 4 + 3, none⟩) hbl).trans HZ3.out⟩)
          have hS0 := HSS.out wd P1.out.qs.below P1.out.box
          have hblw : b < wd.heap.size := Nat.lt_of_lt_of_le hbl P1.out.qs.below.size
          refine wpAnyK_take (i := 0) (v := .pointer (some ⟨p, 0, none⟩)) rfl (by kernel_rfl) (by kernel_rfl) (by kernel_rfl) [] (by kernel_rfl) (by decide) (by kernel_rfl) (by kernel_rfl) (fun _ _ _ h => h) hS0 (.inl ⟨by rfl, fun W hW => ?_⟩) ?_
          · obtain ⟨⟨q0, q1⟩, q2, q3, q4, q5⟩ := hW
            go_simp
          simp only [Act.put, List.setIfInBounds_toArray, List.set_cons_zero, List.set_cons_succ]
          refine wpAnyK_take (i := 1) (v := .agg #[.slice ra bs.length rc, .int .i64 m]) rfl (by kernel_rfl) (by kernel_rfl) (by kernel_rfl) [] (by kernel_rfl) (by decide) (by kernel_rfl) (by kernel_rfl) (fun _ _ _ h => h) hS0 (.inl ⟨by rfl, fun W hW => ?_⟩) ?_
          · obtain ⟨⟨q0, q1⟩, q2, q3, q4, q5⟩ := hW
            go_simp
          simp only [Act.put, List.setIfInBounds_toArray, List.set_cons_zero, List.set_cons_succ]
          refine wpAnyK_take (i := 2) (v := .slice (some ⟨b, off, none⟩) n cap) rfl (by kernel_rfl) (by kernel_rfl) (by kernel_rfl) [] (by kernel_rfl) (by decide) (by kernel_rfl) (by kernel_rfl) (fun _ _ _ h => h) hS0 (.inl ⟨by rfl, fun W hW => ?_⟩) ?_
          · obtain ⟨⟨q0, q1⟩, q2, q3, q4, q5⟩ := hW
            go_simp
          simp only [Act.put, List.setIfInBounds_toArray, List.set_cons_zero, List.set_cons_succ]
          refine wpAnyK_take (i := 3) (v := .int .i64 i) rfl (by kernel_rfl) (by kernel_rfl) (by kernel_rfl) [] (by kernel_rfl) (by decide) (by kernel_rfl) (by kernel_rfl) (fun _ _ _ h => h) hS0 (.inl ⟨by rfl, fun W hW => ?_⟩) ?_
          · obtain ⟨⟨q0, q1⟩, q2, q3, q4, q5⟩ := hW
            go_simp
          simp only [Act.put, List.setIfInBounds_toArray, List.set_cons_zero, List.set_cons_succ]
          refine wpAnyK_take (i := 4) (v := .pointer (some ⟨b, off + i * 4, none⟩)) rfl (by kernel_rfl) (by kernel_rfl) (by kernel_rfl) [] (by kernel_rfl) (by decide) (by kernel_rfl) (by kernel_rfl) (fun _ _ _ h => h) hS0 (.inl ⟨by rfl, fun W hW => ?_⟩) ?_
          · obtain ⟨⟨q0, q1⟩, q2, q3, q4, q5⟩ := hW
            go_simp
          simp only [Act.put, List.setIfInBounds_toArray, List.set_cons_zero, List.set_cons_succ]
          refine wpAnyK_take (i := 5) (v := .agg #[.int .i64 z.what, .int .i64 z.n, .slice z.a z.xa.length z.ca, .slice z.b z.xb.length z.cb]) rfl (by kernel_rfl) (by kernel_rfl) (by kernel_rfl) [] (by kernel_rfl) (by decide) (by kernel_rfl) (by kernel_rfl) (fun _ _ _ h => h) hS0 (.inl ⟨by rfl, fun W hW => ?_⟩) ?_
          · obtain ⟨⟨q0, q1⟩, q2, q3, q4, q5⟩ := hW
            go_simp
          simp only [Act.put, List.setIfInBounds_toArray, List.set_cons_zero, List.set_cons_succ]
          refine wpAnyK_ready (rs := [6, 11]) (by kernel_rfl) (by simp) ?_
          refine AllReadyK.cons (o := { dst := some 52, op := Op.call { callee := Callee.value (Operand.func 15), args := #[Operand.tmp 46, Operand.tmp 47, Operand.tmp 51], argTypes := #[25, 39, 31] }, type := 40, pos := "law.go:104", after := #[{ on := 0, ground := Ground.data }, { on := 1, ground := Ground.data }, { on := 5, ground := Ground.data }], guard := none }) rfl (fun K hK => ?_) (AllReadyK.cons (o := { dst := some 10, op := Op.alloc 39, type := 0, pos := "law.go:104", after := #[], guard := none }) rfl (fun K hK => ?_) (AllReadyK.nil))
          · go_simp
            refine (P1.out.act z (HOK.out _ P1.out.qs.below) HL3.out).mono ?_
            rintro e w2 ⟨p', bs', ra', rc', K2, rfl, k12, k2s, hq2, hr2, hm2, hby⟩
            have HBY := Lib.hid hby
            have hb72 := (hm2.block _ (blk_lt P1.out.box) (fun e => e.1 P1.out.kb)).trans P1.out.box
            have hS2 := HSS.out w2 hq2.below hb72
            refine hK.out _ _ (fun _ => hS2) ?_
            clear hK K hby
            try simp only [Act.put, List.setIfInBounds_toArray, List.set_cons_zero, List.set_cons_succ]
            refine wpAnyK_take (i := 7) (v := .tuple #[.pointer (some ⟨p', 0, none⟩), .agg #[.slice ra' bs'.length rc', .int .i64 m], .bool true]) rfl (by kernel_rfl) (by kernel_rfl) (by kernel_rfl) [] (by kernel_rfl) (by decide) (by kernel_rfl) (by kernel_rfl) (fun _ _ _ h => h) hS2 (.inl ⟨by rfl, fun W hW => ?_⟩) ?_
            · obtain q0 := hW
              go_simp
            simp only [Act.put, List.setIfInBounds_toArray, List.set_cons_zero, List.set_cons_succ]
            refine wpAnyK_take (i := 8) (v := .pointer (some ⟨p', 0, none⟩)) rfl (by kernel_rfl) (by kernel_rfl) (by kernel_rfl) [] (by kernel_rfl) (by decide) (by kernel_rfl) (by kernel_rfl) (fun _ _ _ h => h) hS2 (.inl ⟨by rfl, fun W hW => ?_⟩) ?_
            · obtain q0 := hW
              go_simp
            simp only [Act.put, List.setIfInBounds_toArray, List.set_cons_zero, List.set_cons_succ]
            refine wpAnyK_take (i := 9) (v := .agg #[.slice ra' bs'.length rc', .int .i64 m]) rfl (by kernel_rfl) (by kernel_rfl) (by kernel_rfl) [] (by kernel_rfl) (by decide) (by kernel_rfl) (by kernel_rfl) (fun _ _ _ h => h) hS2 (.inl ⟨by rfl, fun W hW => ?_⟩) ?_
            · obtain q0 := hW
              go_simp
            simp only [Act.put, List.setIfInBounds_toArray, List.set_cons_zero, List.set_cons_succ]
            refine wpAnyK_take (i := 10) (v := .bool true) rfl (by kernel_rfl) (by kernel_rfl) (by kernel_rfl) [] (by kernel_rfl) (by decide) (by kernel_rfl) (by kernel_rfl) (fun _ _ _ h => h) hS2 (.inl ⟨by rfl, fun W hW => ?_⟩) ?_
            · obtain q0 := hW
              go_simp
            simp only [Act.put, List.setIfInBounds_toArray, List.set_cons_zero, List.set_cons_succ]
            have hbA := (Below.refl _ w2).alloc (Nat.le_refl _) (.cells #[.slice none 0 0, .int .i64 0] 39)
            have hkA := alloc_blk_new w2 (.cells #[.slice none 0 0, .int .i64 0] 39)
            obtain ⟨w3, hw3⟩ : ∃ W, W = w2.alloc (.cells #[.slice none 0 0, .int .i64 0] 39) := ⟨_, rfl⟩
            obtain ⟨B10, hB10⟩ : ∃ B, B = w2.heap.size := ⟨_, rfl⟩
            rw [← hw3] at hbA hkA
            rw [← hB10] at hkA
            obtain ⟨K3, hK3⟩ : ∃ K3, K3 = More K2 w2 w3 := ⟨_, rfl⟩
            have HQ3 : Hid (QS w K3 p' m bs' w3) := Lib.hid (by rw [hK3]; exact hq2.grow hbA)
            have HRF : Hid (Rf K3 w3 ra' rc' bs') := Lib.hid (by rw [hK3]; exact hr2.bel hbA (fun _ e => .inl e))
            have HA3 : Hid (Arg (fun q => K3 q ∧ q ≠ B10) w3 ra' bs'.length bs') := Lib.hid ((hr2.at_.mono (U := fun q => K2 q ∧ q < w2.heap.size) (fun q h1 h2 => ⟨h2, h1⟩)).below hbA |>.mono (fun q _ hq => ⟨by rw [hK3]; exact .inl hq.1, by omega⟩))
            have HB10 := Lib.hid hkA
            have HB7 := Lib.hid ((hbA.block _ (blk_lt hb72)).trans hb72)
            have HK3 : Hid (∀ q, K3 q → w.heap.size ≤ q) := Lib.hid (by rw [hK3]; exact More.ks k2s hq2.below.size)
            have HK10 : Hid (K3 B10) := Lib.hid (by rw [hK3]; exact .inr ⟨by omega, by have := blk_lt hkA; omega⟩)
            have HK7 : Hid (K3 B7) := Lib.hid (by rw [hK3]; exact .inl (k12 _ P1.out.kb))
            have HNE : Hid (B7 ≠ B10) := Lib.hid (by have := blk_lt hb72; omega)
            clear hbA hkA hK3 hq2 hr2 hm2 k12 k2s hb72
            refine wpAnyK_ready (rs := [11]) (by kernel_rfl) (by simp) ?_
            refine AllReadyK.cons rfl (fun K hK => ?_) AllReadyK.nil
            go_simp
            rw [← hw3, ← hB10]
            refine hK.out _ _ (fun _ => HSS.out _ HQ3.out.below HB7.out) ?_
            clear hw3 hB10
            clear hK K
            try simp only [Act.put, List.setIfInBounds_toArray, List.set_cons_zero, List.set_cons_succ]
            have hB7s : w3.heap[B7]? = some (.cells #[.slice ra bs.length rc, .int .i64 m] 39 (0, 0)) := HB7.out
            obtain ⟨e0, e1⟩ := cell2 HB10.out
            have e2 := frozen_blk HB10.out 0
            have e3 := frozen_blk HB10.out 1
            have e4 := blk_lt HB10.out
            have hmB := ((Mod.refl (fun q => q = B10) w3).setCell ⟨B10, 0, none⟩ (.inl rfl) (.slice ra' bs'.length rc')).setCell ⟨B10, 1, none⟩ (.inl rfl) (.int .i64 m)
            have hTq := HQ3.out.turn (hmB.mono (T := K3) (fun q _ e => by rw [e]; exact HK10.out)) HK3.out
            have hB7t := (hmB.block B7 (blk_lt HB7.out) (fun e => HNE.out e)).trans HB7.out
            have hB10t := setCell_blk (setCell_blk HB10.out 0 (.slice ra' bs'.length rc')) 1 (.int .i64 m)
            have hS3 := HSS.out _ hTq.below hB7t
            have hrf := ((HRF.out.at_.not_box HB7.out).mono (U := fun q => K3 q) (fun q _ hq => hq.1))
            have hPX : PX w m B7 ra bs.length rc p' B10 ra' rc' bs' ((w3.setCell ⟨B10, 0, none⟩ (.slice ra' bs'.length rc')).setCell ⟨B10, 1, none⟩ (.int .i64 m)) := ⟨_, More.ks HK3.out HQ3.out.below.size, hTq, ⟨(HA3.out.mod hmB (fun q hq e => hq.2 e)).mono (fun q _ hq => .inl hq.1), HRF.out.na, HRF.out.sp, HRF.out.cl, HRF.out.cm⟩, hB7t, .inl HK7.out, hB10t, .inl HK10.out, HNE.out⟩
            clear hTq hB7t hB10t hrf hmB
            refine wpAnyK_ready (rs := [12]) (by kernel_rfl) (by simp) ?_
            refine AllReadyK.cons rfl (fun K hK => ?_) AllReadyK.nil
            go_simp
            refine hK.out _ _ (fun _ => HSS.out _ HQ3.out.below HB7.out) ?_
            clear hK K
            try simp only [Act.put, List.setIfInBounds_toArray, List.set_cons_zero, List.set_cons_succ]
            refine wpAnyK_ready (rs := [13]) (by kernel_rfl) (by simp) ?_
            refine AllReadyK.cons rfl (fun K hK => ?_) AllReadyK.nil
            go_simp
            refine hK.out _ _ (fun _ => hS3) ?_
            clear hK K
            try simp only [Act.put, List.setIfInBounds_toArray, List.set_cons_zero, List.set_cons_succ]
            refine wpAnyK_ready (rs := [14]) (by kernel_rfl) (by simp) ?_
            refine AllReadyK.cons rfl (fun K hK => ?_) AllReadyK.nil
            go_simp
            refine hK.out _ _ (fun h => absurd (show true = false from h) (by decide)) ?_
            clear hK K
            try simp only [Act.put, List.setIfInBounds_toArray, List.set_cons_zero, List.set_cons_succ]
            refine wpAnyK_done (by kernel_rfl) ?_ _
            go_wp2_with fail
            go_meet
            exact ⟨p', B10, ra', rc', bs', rfl, rfl, rfl, hPX, HBY.out⟩
          · have hbA := (Below.refl _ wd).alloc (Nat.le_refl _) (.cells #[.slice none 0 0, .int .i64 0] 39)
            have hkA := alloc_blk_new wd (.cells #[.slice none 0 0, .int .i64 0] 39)
            obtain ⟨wa, hwa⟩ : ∃ W, W = wd.alloc (.cells #[.slice none 0 0, .int .i64 0] 39) := ⟨_, rfl⟩
            obtain ⟨B10, hB10⟩ : ∃ B, B = wd.heap.size := ⟨_, rfl⟩
            rw [← hwa] at hbA hkA
            rw [← hB10] at hkA
            obtain ⟨Ka, hKa⟩ : ∃ Ka, Ka = More K1 wd wa := ⟨_, rfl⟩
            have Pa : Hid (Pl w Ka m p B7 ra rc bs wa) := Lib.hid (by rw [hKa]; exact P1.out.bel hbA)
            have hKaB : Ka B10 := by rw [hKa]; exact .inr ⟨by omega, by have := blk_lt hkA; omega⟩
            have hne : B7 ≠ B10 := by have := blk_lt P1.out.box; omega
            have HKA := Lib.hid hkA
            go_simp
            rw [← hwa, ← hB10]
            refine hK.out _ _ (fun _ => HSS.out _ Pa.out.qs.below Pa.out.box) ?_
            clear hK K hwa hB10 hKa hbA hkA
            try simp only [Act.put, List.setIfInBounds_toArray, List.set_cons_zero, List.set_cons_succ]
            refine wpAnyK_ready (rs := [6]) (by kernel_rfl) (by simp) ?_
            refine AllReadyK.cons rfl (fun K hK => ?_) AllReadyK.nil
            go_simp
            refine (Pa.out.act z (HOK.out _ Pa.out.qs.below) HL3.out).mono ?_
            rintro e w3 ⟨p', bs', ra', rc', K3, rfl, k12, k2s, hq2, hr2, hm2, hby⟩
            have HBY := Lib.hid hby
            have hb72 := (hm2.block _ (blk_lt Pa.out.box) (fun e => e.1 Pa.out.kb)).trans Pa.out.box
            have hb10 := (hm2.block _ (blk_lt HKA.out) (fun e => e.1 hKaB)).trans HKA.out
            have hS2 := HSS.out w3 hq2.below hb72
            refine hK.out _ _ (fun _ => hS2) ?_
            clear hby
            clear hK K
            try simp only [Act.put, List.setIfInBounds_toArray, List.set_cons_zero, List.set_cons_succ]
            refine wpAnyK_take (i := 7) (v := .tuple #[.pointer (some ⟨p', 0, none⟩), .agg #[.slice ra' bs'.length rc', .int .i64 m], .bool true]) rfl (by kernel_rfl) (by kernel_rfl) (by kernel_rfl) [] (by kernel_rfl) (by decide) (by kernel_rfl) (by kernel_rfl) (fun _ _ _ h => h) hS2 (.inl ⟨by rfl, fun W hW => ?_⟩) ?_
            · obtain q0 := hW
              go_simp
            simp only [Act.put, List.setIfInBounds_toArray, List.set_cons_zero, List.set_cons_succ]
            refine wpAnyK_take (i := 8) (v := .pointer (some ⟨p', 0, none⟩)) rfl (by kernel_rfl) (by kernel_rfl) (by kernel_rfl) [] (by kernel_rfl) (by decide) (by kernel_rfl) (by kernel_rfl) (fun _ _ _ h => h) hS2 (.inl ⟨by rfl, fun W hW => ?_⟩) ?_
            · obtain q0 := hW
              go_simp
            simp only [Act.put, List.setIfInBounds_toArray, List.set_cons_zero, List.set_cons_succ]
            refine wpAnyK_take (i := 9) (v := .agg #[.slice ra' bs'.length rc', .int .i64 m]) rfl (by kernel_rfl) (by kernel_rfl) (by kernel_rfl) [] (by kernel_rfl) (by decide) (by kernel_rfl) (by kernel_rfl) (fun _ _ _ h => h) hS2 (.inl ⟨by rfl, fun W hW => ?_⟩) ?_
            · obtain q0 := hW
              go_simp
            simp only [Act.put, List.setIfInBounds_toArray, List.set_cons_zero, List.set_cons_succ]
            refine wpAnyK_take (i := 10) (v := .bool true) rfl (by kernel_rfl) (by kernel_rfl) (by kernel_rfl) [] (by kernel_rfl) (by decide) (by kernel_rfl) (by kernel_rfl) (fun _ _ _ h => h) hS2 (.inl ⟨by rfl, fun W hW => ?_⟩) ?_
            · obtain q0 := hW
              go_simp
            simp only [Act.put, List.setIfInBounds_toArray, List.set_cons_zero, List.set_cons_succ]
            have HQ3 := Lib.hid hq2
            have HRF := Lib.hid hr2
            have HB10 := Lib.hid hb10
            have HA3 := Lib.hid (hr2.at_.not_box hb10)
            have HB7 := Lib.hid hb72
            have HK3 := Lib.hid k2s
            have HK10 := Lib.hid (k12 _ hKaB)
            have HK7 := Lib.hid (k12 _ Pa.out.kb)
            have HNE := Lib.hid hne
            clear hq2 hr2 hm2 k12 k2s hb72 hb10 hne hKaB
            have hB7s : w3.heap[B7]? = some (.cells #[.slice ra bs.length rc, .int .i64 m] 39 (0, 0)) := HB7.out
            obtain ⟨e0, e1⟩ := cell2 HB10.out
            have e2 := frozen_blk HB10.out 0
            have e3 := frozen_blk HB10.out 1
            have e4 := blk_lt HB10.out
            have hmB := ((Mod.refl (fun q => q = B10) w3).setCell ⟨B10, 0, none⟩ (.inl rfl) (.slice ra' bs'.length rc')).setCell ⟨B10, 1, none⟩ (.inl rfl) (.int .i64 m)
            have hTq := HQ3.out.turn (hmB.mono (T := K3) (fun q _ e => by rw [e]; exact HK10.out)) HK3.out
            have hB7t := (hmB.block B7 (blk_lt HB7.out) (fun e => HNE.out e)).trans HB7.out
            have hB10t := setCell_blk (setCell_blk HB10.out 0 (.slice ra' bs'.length rc')) 1 (.int .i64 m)
            have hS3 := HSS.out _ hTq.below hB7t
            have hrf := ((HRF.out.at_.not_box HB7.out).mono (U := fun q => K3 q) (fun q _ hq => hq.1))
            have hPX : PX w m B7 ra bs.length rc p' B10 ra' rc' bs' ((w3.setCell ⟨B10, 0, none⟩ (.slice ra' bs'.length rc')).setCell ⟨B10, 1, none⟩ (.int .i64 m)) := ⟨_, More.ks HK3.out HQ3.out.below.size, hTq, ⟨(HA3.out.mod hmB (fun q hq e => hq.2 e)).mono (fun q _ hq => .inl hq.1), HRF.out.na, HRF.out.sp, HRF.out.cl, HRF.out.cm⟩, hB7t, .inl HK7.out, hB10t, .inl HK10.out, HNE.out⟩
            clear hTq hB7t hB10t hrf hmB
            refine wpAnyK_ready (rs := [12]) (by kernel_rfl) (by simp) ?_
            refine AllReadyK.cons rfl (fun K hK => ?_) AllReadyK.nil
            go_simp
            refine hK.out _ _ (fun _ => HSS.out _ HQ3.out.below HB7.out) ?_
            clear hK K
            try simp only [Act.put, List.setIfInBounds_toArray, List.set_cons_zero, List.set_cons_succ]
            refine wpAnyK_ready (rs := [13]) (by kernel_rfl) (by simp) ?_
            refine AllReadyK.cons rfl (fun K hK => ?_) AllReadyK.nil
            go_simp
            refine hK.out _ _ (fun _ => hS3) ?_
            clear hK K
            try simp only [Act.put, List.setIfInBounds_toArray, List.set_cons_zero, List.set_cons_succ]
            refine wpAnyK_ready (rs := [14]) (by kernel_rfl) (by simp) ?_
            refine AllReadyK.cons rfl (fun K hK => ?_) AllReadyK.nil
            go_simp
            refine hK.out _ _ (fun h => absurd (show true = false from h) (by decide)) ?_
            clear hK K
            try simp only [Act.put, List.setIfInBounds_toArray, List.set_cons_zero, List.set_cons_succ]
            refine wpAnyK_done (by kernel_rfl) ?_ _
            go_wp2_with fail
            go_meet
            exact ⟨p', B10, ra', rc', bs', rfl, rfl, rfl, hPX, HBY.out⟩
        case rest =>
          obtain ⟨p', B10, ra', rc', bs', rfl, rfl, rfl, hPX, hby⟩ := hcut
          have HPX := Lib.hid hPX
          clear hPX hby
          go_upto_region 11 with fail
          refine wp_region_K 3 (fun W => W.cell? ⟨B10, 0, none⟩ = some (.slice ra' bs'.length rc') ∧ W.cell? ⟨B10, 1, none⟩ = some (.int .i64 m)) (by kernel_rfl) ?_
          obtain ⟨wd, hwd⟩ : ∃ W, W = wc.drew := ⟨_, rfl⟩
          rw [← hwd]
          have HWD := Lib.hid hwd
          have PXd : Hid (PX w m B7 ra bs.length rc p' B10 ra' rc' bs' wd) := Lib.hid (by rw [hwd]; exact HPX.out.drew)
          clear hwd
          obtain ⟨K4, k4s, hq4, hr4, hb74, k47, hb104, k410, hne4⟩ := PXd.out
          have hS0 := cell2 hb104
          obtain ⟨c0, c1⟩ := cell2 hb74
          have f0 := frozen_blk hb74 0
          have f1 := frozen_blk hb74 1
          have l0 := blk_lt hb74
          refine wpAnyK_take (i := 0) (v := .pointer (some ⟨p', 0, none⟩)) rfl (by kernel_rfl) (by kernel_rfl) (by kernel_rfl) [] (by kernel_rfl) (by decide) (by kernel_rfl) (by kernel_rfl) (fun _ _ _ h => h) hS0 (.inl ⟨by rfl, fun W hW => ?_⟩) ?_
          · obtain ⟨q0, q1⟩ := hW
            go_simp
          simp only [Act.put, List.setIfInBounds_toArray, List.set_cons_zero, List.set_cons_succ]
          refine wpAnyK_take (i := 1) (v := .agg #[.slice ra' bs'.length rc', .int .i64 m]) rfl (by kernel_rfl) (by kernel_rfl) (by kernel_rfl) [] (by kernel_rfl) (by decide) (by kernel_rfl) (by kernel_rfl) (fun _ _ _ h => h) hS0 (.inl ⟨by rfl, fun W hW => ?_⟩) ?_
          · obtain ⟨q0, q1⟩ := hW
            go_simp
          simp only [Act.put, List.setIfInBounds_toArray, List.set_cons_zero, List.set_cons_succ]
          refine wpAnyK_ready (rs := [2]) (by kernel_rfl) (by simp) ?_
          refine AllReadyK.cons rfl (fun K hK => ?_) AllReadyK.nil
          go_simp
          refine hK.out _ _ (fun _ => hS0) ?_
          clear hK K
          try simp only [Act.put, List.setIfInBounds_toArray, List.set_cons_zero, List.set_cons_succ]
          have hmB := ((Mod.refl (fun q => q = B7) wd).setCell ⟨B7, 0, none⟩ (.inl rfl) (.slice ra' bs'.length rc')).setCell ⟨B7, 1, none⟩ (.inl rfl) (.int .i64 m)
          have hTq := hq4.turn (hmB.mono (T := K4) (fun q _ e => by rw [e]; exact k47)) k4s
          have hPl : Pl w _ m p' B7 ra' rc' bs' ((wd.setCell ⟨B7, 0, none⟩ (.slice ra' bs'.length rc')).setCell ⟨B7, 1, none⟩ (.int .i64 m)) := ⟨More.ks k4s hq4.below.size, hTq, ⟨((hr4.at_.not_box hb74).mod hmB (fun q hq e => hq.2 e)).mono (fun q _ hq => .inl hq.1), hr4.na, hr4.sp, hr4.cl, hr4.cm⟩, setCell_blk (setCell_blk hb74 0 _) 1 _, .inl k47⟩
          have HP4 := Lib.hid hPl
          clear hTq hPl hmB hq4 hr4 hb104 k410 k4s k47
          refine wpAnyK_ready (rs := [3]) (by kernel_rfl) (by simp) ?_
          refine AllReadyK.cons rfl (fun K hK => ?_) AllReadyK.nil
          go_simp
          refine hK.out _ _ (fun h => absurd (show true = false from h) (by decide)) ?_
          clear hK K
          try simp only [Act.put, List.setIfInBounds_toArray, List.set_cons_zero, List.set_cons_succ]
          refine wpAnyK_done (by kernel_rfl) ?_ _
          obtain ⟨w6, hw6⟩ : ∃ W, W = (wd.setCell ⟨B7, 0, none⟩ (.slice ra' bs'.length rc')).setCell ⟨B7, 1, none⟩ (.int .i64 m) := ⟨_, rfl⟩
          rw [← hw6] at HP4 ⊢
          obtain ⟨K6, hK6⟩ : ∃ K6, K6 = More K4 wd w6 := ⟨_, rfl⟩
          have P6 : Hid (Pl w K6 m p' B7 ra' rc' bs' w6) := Lib.hid (by rw [hK6]; exact HP4.out)
          clear hw6 hK6 HP4 hb74 c0 c1 f0 f1 l0 hS0
          obtain ⟨c0, c1⟩ := cell2 P6.out.box
          have l0 := blk_lt P6.out.box
          go_wp2_with (go_at_call 16; refine (is_q ra' bs'.length rc' _ P6.out.qs P6.out.rf.at_).mono ?_; rintro e w7 ⟨rfl, hb7⟩; have P7 := Lib.hid (P6.out.bel hb7); clear hb7)
          go_roundg (n - (i + 1))
          case measure => have := HG.out; omega
          case rel => exact ⟨i + 1, p', rfl, by go_num, by omega, rfl, _, bs', ra', rc', P7.out⟩
      · obtain rfl : i = n := by omega
        obtain ⟨c0, c1⟩ := cell2 HPl.out.box
        have l0 := blk_lt HPl.out.box
        have HBW := Lib.hid HPl.out.qs.below
        go_wp2_with (first | (go_at_call 10; refine (HNum.out _ _).mono ?_; rintro e w' ⟨rfl, rfl⟩) | (go_at_call 16; refine (is_q ra bs.length rc _ HPl.out.qs HPl.out.rf.at_).mono ?_; rintro e w7 ⟨rfl, hb7⟩) | (go_at_call 8; refine (HWorks.out _).mono ?_; rintro e w8 ⟨rfl, hb8⟩))
        go_ret
        have hb78 := HBW.out.trans (hb7.mono HBW.out.size)
        exact ⟨rfl, hb78.trans (hb8.mono hb78.size)⟩
end Go.Proofs.Ytkikdpfhcepeaaa
