/-
  A call by both: more of act.
-/
import Derived.Test.YtkikdpfhcepeaaaAg
namespace Go.Proofs.Ytkikdpfhcepeaaa
open Go.RowKit
set_option linter.unusedVariables false
set_option linter.unusedSimpArgs false

set_option maxHeartbeats 6400000 in
set_option maxRecDepth 100000 in
theorem act_push2 {w u0 : World} {K Ka : Nat → Prop} {p : Nat} {m : Int} {bs : List Int} {ra : Option Addr} {rc : Nat} (z : AV) (h : QS w K p m bs u0) (hK : ∀ k, K k → w.heap.size ≤ k) (hR : Rf (fun q => K q ∧ Ka q) u0 ra rc bs) (hw : z.what = 2) (hz : z.Ok (fun k => k < w.heap.size) u0) (hzl : z.xa.length + z.xb.length ≤ 300) :
    Calls Try.prog 15 #[.pointer (some ⟨p, 0, none⟩), qagg ra bs.length rc m, zagg z] u0 (Acted w K Ka m bs u0) := by
  obtain ⟨i0, hi, hz0, hz1, hz2⟩ := info_parts Try.info5
  have HNum := Lib.hid num_any
  obtain ⟨hfx, hb0⟩ := Fx.start u0 (.slice ra bs.length rc) m z
  have hq0 := h.grow hb0
  obtain ⟨W0, hW0⟩ : ∃ W, W = (((u0.alloc (.cells #[.slice ra bs.length rc, .int .i64 m] 39)).alloc (.cells #[.int .i64 z.what, .int .i64 z.n, .slice z.a z.xa.length z.ca, .slice z.b z.xb.length z.cb] 31)).alloc (.cells #[.slice none 0 0, .int .i64 0] 39)) := ⟨_, rfl⟩
  rw [← hW0] at hfx hb0 hq0
  obtain ⟨K0, hK0⟩ : ∃ K0, K0 = More K u0 W0 := ⟨_, rfl⟩
  rw [← hK0] at hq0
  have hK0s : ∀ k, K0 k → w.heap.size ≤ k := fun k hk => by
    rw [hK0] at hk
    rcases hk with hk | hk
    · exact hK k hk
    · have := h.below.size; omega
  have hK00 : ∀ k, K k → K0 k := fun k hk => by rw [hK0]; exact .inl hk
  have hKb : ∀ k, u0.heap.size ≤ k → k ≤ u0.heap.size + 2 → K0 k := fun k h1 h2 => by rw [hK0]; exact .inr ⟨h1, by have := hfx.lt; omega⟩
  obtain ⟨KA, hKA⟩ : ∃ KA : Nat → Prop, KA = fun q => K0 q ∧ Ka q := ⟨_, rfl⟩
  have HKA : Hid (∀ q, KA q → K0 q ∧ Ka q) := Lib.hid (fun q hq => by rw [hKA] at hq; exact hq)
  have HR := Lib.hid (hR.at_.mono (U := fun q => KA q ∧ q < u0.heap.size) (fun k h1 hk => ⟨by rw [hKA]; exact ⟨hK00 k hk.1, hk.2⟩, h1⟩))
  clear hKA
  have HRf := Lib.hid hR
  have hbd := h.bounds
  have HF0 := Lib.hid hfx
  have HQ0 := Lib.hid hq0
  have HB0 := Lib.hid hb0
  have HE := Lib.hid hW0
  have HK0 := Lib.hid hK0s
  have HK1 := Lib.hid hK00
  have HKB := Lib.hid hKb
  have hlen : bs.length ≤ 1048576 := by omega
  unfold zagg qagg
  obtain ⟨er, bs', hbs1, hbs2, hrp, hqp⟩ := push_both m bs z.xa z.xb hbd.1 hbd.2.1 hbd.2.2 hzl
  have HRP := Lib.hid (fun T U W ra rc b k bc => hrp T U W ra rc b k bc)
  have HQP := Lib.hid hqp
  have HBY := Lib.hid hbs2
  have HRf0 : Hid (∀ W, Below u0.heap.size u0 W → Rf (fun q => KA q ∧ q < u0.heap.size) W ra rc bs) := Lib.hid (fun W hb => ⟨HR.out.below hb, hR.na, hR.sp, hR.cl, hR.cm⟩)
  unfold qagg at HRP
  clear hrp hqp hbs2
  have HZ := Lib.hid hz
  have HZa := Lib.hid (hz.ra.below hb0)
  have HZb := Lib.hid (hz.rb.below hb0)
  have hl0 := hfx.lt
  have hus := HB0.out.size
  obtain ⟨⟨c0, c1⟩, ⟨c2, c3, c4, c5⟩, c6, c7, f6, f7⟩ := hfx.cells
  rw [hw] at c2
  clear h hK hR hfx hb0 hq0 hW0 hK0 hK0s hK00 hKb hz hbd
  go_enter Try.func15, Try.ntmps15
  rw [hw]
  rw [hw] at HE
  go_upto_region 1 with fail
  rw [← HE.out]
  go_upto_region 5 with fail
  clear c0 c1 c2 c3 c4 c5 c6 c7 f6 f7
  go_cut [9, 10] from 38 to 45 (fun s t wx => ∃ a c b d, s = .slice a z.xa.length c ∧ t = .slice b z.xb.length d ∧ R2 W0 wx a z.xa.length c z.xa b z.xb.length d z.xb)
  case first =>
    refine wp_region_K 9 (fun W => W.cell? ⟨u0.heap.size + 1, 2, none⟩ = some (.slice z.a z.xa.length z.ca) ∧ W.cell? ⟨u0.heap.size + 1, 3, none⟩ = some (.slice z.b z.xb.length z.cb)) (by kernel_rfl) ?_
    obtain ⟨wd, hwd⟩ : ∃ W, W = W0.drew := ⟨_, rfl⟩
    rw [← hwd]
    have HWD := Lib.hid hwd
    have hbd0 : Below W0.heap.size W0 wd := by rw [hwd]; exact Below.drewN' W0 1
    have hS0 : wd.cell? ⟨u0.heap.size + 1, 2, none⟩ = some (.slice z.a z.xa.length z.ca) ∧ wd.cell? ⟨u0.heap.size + 1, 3, none⟩ = some (.slice z.b z.xb.length z.cb) := ⟨((HF0.out.bel hbd0).cells).2.1.2.2.1, ((HF0.out.bel hbd0).cells).2.1.2.2.2⟩
    clear hwd
    refine wpAnyK_take (i := 1) (v := .pointer (some ⟨u0.heap.size + 1, 2, none⟩)) rfl (by kernel_rfl) (by kernel_rfl) (by kernel_rfl) [] (by kernel_rfl) (by decide) (by kernel_rfl) (by kernel_rfl) (fun _ _ _ h => h) hS0 (.inl ⟨by rfl, fun W hW => ?_⟩) ?_
    · obtain ⟨q0, q1⟩ := hW
      go_simp
    simp only [Act.put, List.setIfInBounds_toArray, List.set_cons_zero, List.set_cons_succ]
    refine wpAnyK_take (i := 2) (v := .slice z.a z.xa.length z.ca) rfl (by kernel_rfl) (by kernel_rfl) (by kernel_rfl) [] (by kernel_rfl) (by decide) (by kernel_rfl) (by kernel_rfl) (fun _ _ _ h => h) hS0 (.inl ⟨by rfl, fun W hW => ?_⟩) ?_
    · obtain ⟨q0, q1⟩ := hW
      go_simp
    simp only [Act.put, List.setIfInBounds_toArray, List.set_cons_zero, List.set_cons_succ]
    refine wpAnyK_take (i := 5) (v := .pointer (some ⟨u0.heap.size + 1, 3, none⟩)) rfl (by kernel_rfl) (by kernel_rfl) (by kernel_rfl) [] (by kernel_rfl) (by decide) (by kernel_rfl) (by kernel_rfl) (fun _ _ _ h => h) hS0 (.inl ⟨by rfl, fun W hW => ?_⟩) ?_
    · obtain ⟨q0, q1⟩ := hW
      go_simp
    simp only [Act.put, List.setIfInBounds_toArray, List.set_cons_zero, List.set_cons_succ]
    refine wpAnyK_take (i := 6) (v := .slice z.b z.xb.length z.cb) rfl (by kernel_rfl) (by kernel_rfl) (by kernel_rfl) [] (by kernel_rfl) (by decide) (by kernel_rfl) (by kernel_rfl) (fun _ _ _ h => h) hS0 (.inl ⟨by rfl, fun W hW => ?_⟩) ?_
    · obtain ⟨q0, q1⟩ := hW
      go_simp
    simp only [Act.put, List.setIfInBounds_toArray, List.set_cons_zero, List.set_cons_succ]
    refine wpAnyK_ready (rs := [0, 4]) (by kernel_rfl) (by simp) ?_
    refine AllReadyK.cons (o := { dst := some 38, op := Op.buildSlice 29 0 #[], type := 29, pos := "law.go:37", after := #[], guard := none }) rfl (fun K hK => ?_) (AllReadyK.cons (o := { dst := some 42, op := Op.buildSlice 29 0 #[], type := 29, pos := "law.go:37", after := #[], guard := none }) rfl (fun K hK => ?_) (AllReadyK.nil))
    · obtain ⟨B1, hB1⟩ : ∃ B, B = wd.heap.size := ⟨_, rfl⟩
      have hB1' := Lib.hid hB1
      obtain ⟨y1, hy1⟩ : ∃ X, X = wd.alloc (.cells #[] 5) := ⟨_, rfl⟩
      have T1 := R1.start hbd0
      rw [← hy1] at T1
      rw [← hB1] at T1
      go_simp
      rw [← hB1]
      clear hB1
      rw [← hy1]
      refine hK.out _ _ (fun _ => ⟨((HF0.out.bel T1.below).cells).2.1.2.2.1, ((HF0.out.bel T1.below).cells).2.1.2.2.2⟩) ?_
      clear hK K hy1
      try simp only [Act.put, List.setIfInBounds_toArray, List.set_cons_zero, List.set_cons_succ]
      refine wpAnyK_ready (rs := [3, 4]) (by kernel_rfl) (by simp) ?_
      refine AllReadyK.cons (o := { dst := some 41, op := Op.call { callee := Callee.builtin Builtin.append, args := #[Operand.tmp 38, Operand.tmp 40], argTypes := #[29, 29] }, type := 29, pos := "law.go:37", after := #[{ on := 0, ground := Ground.data }, { on := 2, ground := Ground.data }], guard := none }) rfl (fun K hK => ?_) (AllReadyK.cons (o := { dst := some 42, op := Op.buildSlice 29 0 #[], type := 29, pos := "law.go:37", after := #[], guard := none }) rfl (fun K hK => ?_) (AllReadyK.nil))
      · refine step_append_f rfl (.tmp 38) (.tmp 40) 29 rfl W0.heap.size 5 i0 (.int .u8 0) 1 1 Try.underlying29 hi hz0 hz1 hz2 rfl (by decide) (.slice (some ⟨B1, 0, none⟩) 0 0) 0 (([] : List Int).map (.int .u8)) (by rfl) T1.ra z.a z.xa.length z.ca (z.xa.map (.int .u8)) (by rfl) (by simp) HZ.out.na (HZa.out.below T1.below).news (one_u8 _) (by unfold maxLen; omega) (by omega) T1.below.size ?_
        intro v3 x3 hown3 hg3 hf3
        rw [Nat.zero_add] at hown3
        rw [← List.map_append, List.nil_append] at hown3
        obtain ⟨a3, c3, rfl⟩ := row_slice hown3
        have T2 := T1.app hg3 hown3
        refine hK.out _ _ (fun _ => ⟨((HF0.out.bel T2.below).cells).2.1.2.2.1, ((HF0.out.bel T2.below).cells).2.1.2.2.2⟩) ?_
        clear hK K hown3 hg3 hf3
        try simp only [Act.put, List.setIfInBounds_toArray, List.set_cons_zero, List.set_cons_succ]
        refine wpAnyK_ready (rs := [4]) (by kernel_rfl) (by simp) ?_
        refine AllReadyK.cons rfl (fun K hK => ?_) (AllReadyK.nil)
        obtain ⟨B4, hB4⟩ : ∃ B, B = x3.heap.size := ⟨_, rfl⟩
        have hB4' := Lib.hid hB4
        obtain ⟨y4, hy4⟩ : ∃ X, X = x3.alloc (.cells #[] 5) := ⟨_, rfl⟩
        have T4 := T2.lit
        rw [← hy4] at T4
        rw [← hB4] at T4
        go_simp
        rw [← hB4]
        clear hB4
        rw [← hy4]
        refine hK.out _ _ (fun _ => ⟨((HF0.out.bel T4.below).cells).2.1.2.2.1, ((HF0.out.bel T4.below).cells).2.1.2.2.2⟩) ?_
        clear hK K hy4
        try simp only [Act.put, List.setIfInBounds_toArray, List.set_cons_zero, List.set_cons_succ]
        refine wpAnyK_ready (rs := [7]) (by kernel_rfl) (by simp) ?_
        refine AllReadyK.cons rfl (fun K hK => ?_) (AllReadyK.nil)
        refine step_append_f rfl (.tmp 42) (.tmp 44) 29 rfl W0.heap.size 5 i0 (.int .u8 0) 1 1 Try.underlying29 hi hz0 hz1 hz2 rfl (by decide) (.slice (some ⟨B4, 0, none⟩) 0 0) 0 (([] : List Int).map (.int .u8)) (by rfl) T4.rb z.b z.xb.length z.cb (z.xb.map (.int .u8)) (by rfl) (by simp) HZ.out.nb (HZb.out.below T4.below).news (one_u8 _) (by unfold maxLen; omega) (by omega) T4.below.size ?_
        intro v6 x6 hown6 hg6 hf6
        rw [Nat.zero_add] at hown6
        rw [← List.map_append, List.nil_append] at hown6
        obtain ⟨a6, c6, rfl⟩ := row_slice hown6
        have T5 := (T4.symm.appA hg6 hown6 hf6).symm
        refine hK.out _ _ (fun _ => ⟨((HF0.out.bel T5.below).cells).2.1.2.2.1, ((HF0.out.bel T5.below).cells).2.1.2.2.2⟩) ?_
        clear hK K hown6 hg6 hf6
        try simp only [Act.put, List.setIfInBounds_toArray, List.set_cons_zero, List.set_cons_succ]
        refine wpAnyK_ready (rs := [8]) (by kernel_rfl) (by simp) ?_
        refine AllReadyK.cons rfl (fun K hK => ?_) AllReadyK.nil
        go_simp
        refine hK.out _ _ (fun _ => ⟨((HF0.out.bel T5.below).cells).2.1.2.2.1, ((HF0.out.bel T5.below).cells).2.1.2.2.2⟩) ?_
        clear hK K
        try simp only [Act.put, List.setIfInBounds_toArray, List.set_cons_zero, List.set_cons_succ]
        refine wpAnyK_ready (rs := [9]) (by kernel_rfl) (by simp) ?_
        refine AllReadyK.cons rfl (fun K hK => ?_) AllReadyK.nil
        go_simp
        refine hK.out _ _ (fun h => absurd (show true = false from h) (by decide)) ?_
        clear hK K
        try simp only [Act.put, List.setIfInBounds_toArray, List.set_cons_zero, List.set_cons_succ]
        refine wpAnyK_done (by kernel_rfl) ?_ _
        go_wp2_with fail
        go_meet
        exact ⟨a3, c3, a6, c6, rfl, rfl, T5⟩
      · obtain ⟨B7, hB7⟩ : ∃ B, B = y1.heap.size := ⟨_, rfl⟩
        have hB7' := Lib.hid hB7
        obtain ⟨y7, hy7⟩ : ∃ X, X = y1.alloc (.cells #[] 5) := ⟨_, rfl⟩
        have T7 := T1.lit
        rw [← hy7] at T7
        rw [← hB7] at T7
        go_simp
        rw [← hB7]
        clear hB7
        rw [← hy7]
        refine hK.out _ _ (fun _ => ⟨((HF0.out.bel T7.below).cells).2.1.2.2.1, ((HF0.out.bel T7.below).cells).2.1.2.2.2⟩) ?_
        clear hK K hy7
        try simp only [Act.put, List.setIfInBounds_toArray, List.set_cons_zero, List.set_cons_succ]
        refine wpAnyK_ready (rs := [3]) (by kernel_rfl) (by simp) ?_
        refine AllReadyK.cons rfl (fun K hK => ?_) (AllReadyK.nil)
        refine step_append_f rfl (.tmp 38) (.tmp 40) 29 rfl W0.heap.size 5 i0 (.int .u8 0) 1 1 Try.underlying29 hi hz0 hz1 hz2 rfl (by decide) (.slice (some ⟨B1, 0, none⟩) 0 0) 0 (([] : List Int).map (.int .u8)) (by rfl) T7.ra z.a z.xa.length z.ca (z.xa.map (.int .u8)) (by rfl) (by simp) HZ.out.na (HZa.out.below T7.below).news (one_u8 _) (by unfold maxLen; omega) (by omega) T7.below.size ?_
        intro v9 x9 hown9 hg9 hf9
        rw [Nat.zero_add] at hown9
        rw [← List.map_append, List.nil_append] at hown9
        obtain ⟨a9, c9, rfl⟩ := row_slice hown9
        have T8 := T7.appA hg9 hown9 hf9
        refine hK.out _ _ (fun _ => ⟨((HF0.out.bel T8.below).cells).2.1.2.2.1, ((HF0.out.bel T8.below).cells).2.1.2.2.2⟩) ?_
        clear hK K hown9 hg9 hf9
        try simp only [Act.put, List.setIfInBounds_toArray, List.set_cons_zero, List.set_cons_succ]
        refine wpAnyK_ready (rs := [7]) (by kernel_rfl) (by simp) ?_
        refine AllReadyK.cons rfl (fun K hK => ?_) (AllReadyK.nil)
        refine step_append_f rfl (.tmp 42) (.tmp 44) 29 rfl W0.heap.size 5 i0 (.int .u8 0) 1 1 Try.underlying29 hi hz0 hz1 hz2 rfl (by decide) (.slice (some ⟨B7, 0, none⟩) 0 0) 0 (([] : List Int).map (.int .u8)) (by rfl) T8.rb z.b z.xb.length z.cb (z.xb.map (.int .u8)) (by rfl) (by simp) HZ.out.nb (HZb.out.below T8.below).news (one_u8 _) (by unfold maxLen; omega) (by omega) T8.below.size ?_
        intro v11 x11 hown11 hg11 hf11
        rw [Nat.zero_add] at hown11
        rw [← List.map_append, List.nil_append] at hown11
        obtain ⟨a11, c11, rfl⟩ := row_slice hown11
        have T10 := (T8.symm.appA hg11 hown11 hf11).symm
        refine hK.out _ _ (fun _ => ⟨((HF0.out.bel T10.below).cells).2.1.2.2.1, ((HF0.out.bel T10.below).cells).2.1.2.2.2⟩) ?_
        clear hK K hown11 hg11 hf11
        try simp only [Act.put, List.setIfInBounds_toArray, List.set_cons_zero, List.set_cons_succ]
        refine wpAnyK_ready (rs := [8]) (by kernel_rfl) (by simp) ?_
        refine AllReadyK.cons rfl (fun K hK => ?_) AllReadyK.nil
        go_simp
        refine hK.out _ _ (fun _ => ⟨((HF0.out.bel T10.below).cells).2.1.2.2.1, ((HF0.out.bel T10.below).cells).2.1.2.2.2⟩) ?_
        clear hK K
        try simp only [Act.put, List.setIfInBounds_toArray, List.set_cons_zero, List.set_cons_succ]
        refine wpAnyK_ready (rs := [9]) (by kernel_rfl) (by simp) ?_
        refine AllReadyK.cons rfl (fun K hK => ?_) AllReadyK.nil
        go_simp
        refine hK.out _ _ (fun h => absurd (show true = false from h) (by decide)) ?_
        clear hK K
        try simp only [Act.put, List.setIfInBounds_toArray, List.set_cons_zero, List.set_cons_succ]
        refine wpAnyK_done (by kernel_rfl) ?_ _
        go_wp2_with fail
        go_meet
        exact ⟨a9, c9, a11, c11, rfl, rfl, T10⟩
    · obtain ⟨B12, hB12⟩ : ∃ B, B = wd.heap.size := ⟨_, rfl⟩
      have hB12' := Lib.hid hB12
      obtain ⟨y12, hy12⟩ : ∃ X, X = wd.alloc (.cells #[] 5) := ⟨_, rfl⟩
      have T12 := R1.start hbd0
      rw [← hy12] at T12
      rw [← hB12] at T12
      go_simp
      rw [← hB12]
      clear hB12
      rw [← hy12]
      refine hK.out _ _ (fun _ => ⟨((HF0.out.bel T12.below).cells).2.1.2.2.1, ((HF0.out.bel T12.below).cells).2.1.2.2.2⟩) ?_
      clear hK K hy12
      try simp only [Act.put, List.setIfInBounds_toArray, List.set_cons_zero, List.set_cons_succ]
      refine wpAnyK_ready (rs := [0]) (by kernel_rfl) (by simp) ?_
      refine AllReadyK.cons rfl (fun K hK => ?_) (AllReadyK.nil)
      obtain ⟨B13, hB13⟩ : ∃ B, B = y12.heap.size := ⟨_, rfl⟩
      have hB13' := Lib.hid hB13
      obtain ⟨y13, hy13⟩ : ∃ X, X = y12.alloc (.cells #[] 5) := ⟨_, rfl⟩
      have T13 := T12.lit
      have T13 := T13.symm
      rw [← hy13] at T13
      rw [← hB13] at T13
      go_simp
      rw [← hB13]
      clear hB13
      rw [← hy13]
      refine hK.out _ _ (fun _ => ⟨((HF0.out.bel T13.below).cells).2.1.2.2.1, ((HF0.out.bel T13.below).cells).2.1.2.2.2⟩) ?_
      clear hK K hy13
      try simp only [Act.put, List.setIfInBounds_toArray, List.set_cons_zero, List.set_cons_succ]
      refine wpAnyK_ready (rs := [3]) (by kernel_rfl) (by simp) ?_
      refine AllReadyK.cons rfl (fun K hK => ?_) (AllReadyK.nil)
      refine step_append_f rfl (.tmp 38) (.tmp 40) 29 rfl W0.heap.size 5 i0 (.int .u8 0) 1 1 Try.underlying29 hi hz0 hz1 hz2 rfl (by decide) (.slice (some ⟨B13, 0, none⟩) 0 0) 0 (([] : List Int).map (.int .u8)) (by rfl) T13.ra z.a z.xa.length z.ca (z.xa.map (.int .u8)) (by rfl) (by simp) HZ.out.na (HZa.out.below T13.below).news (one_u8 _) (by unfold maxLen; omega) (by omega) T13.below.size ?_
      intro v15 x15 hown15 hg15 hf15
      rw [Nat.zero_add] at hown15
      rw [← List.map_append, List.nil_append] at hown15
      obtain ⟨a15, c15, rfl⟩ := row_slice hown15
      have T14 := T13.appA hg15 hown15 hf15
      refine hK.out _ _ (fun _ => ⟨((HF0.out.bel T14.below).cells).2.1.2.2.1, ((HF0.out.bel T14.below).cells).2.1.2.2.2⟩) ?_
      clear hK K hown15 hg15 hf15
      try simp only [Act.put, List.setIfInBounds_toArray, List.set_cons_zero, List.set_cons_succ]
      refine wpAnyK_ready (rs := [7]) (by kernel_rfl) (by simp) ?_
      refine AllReadyK.cons rfl (fun K hK => ?_) (AllReadyK.nil)
      refine step_append_f rfl (.tmp 42) (.tmp 44) 29 rfl W0.heap.size 5 i0 (.int .u8 0) 1 1 Try.underlying29 hi hz0 hz1 hz2 rfl (by decide) (.slice (some ⟨B12, 0, none⟩) 0 0) 0 (([] : List Int).map (.int .u8)) (by rfl) T14.rb z.b z.xb.length z.cb (z.xb.map (.int .u8)) (by rfl) (by simp) HZ.out.nb (HZb.out.below T14.below).news (one_u8 _) (by unfold maxLen; omega) (by omega) T14.below.size ?_
      intro v17 x17 hown17 hg17 hf17
      rw [Nat.zero_add] at hown17
      rw [← List.map_append, List.nil_append] at hown17
      obtain ⟨a17, c17, rfl⟩ := row_slice hown17
      have T16 := (T14.symm.appA hg17 hown17 hf17).symm
      refine hK.out _ _ (fun _ => ⟨((HF0.out.bel T16.below).cells).2.1.2.2.1, ((HF0.out.bel T16.below).cells).2.1.2.2.2⟩) ?_
      clear hK K hown17 hg17 hf17
      try simp only [Act.put, List.setIfInBounds_toArray, List.set_cons_zero, List.set_cons_succ]
      refine wpAnyK_ready (rs := [8]) (by kernel_rfl) (by simp) ?_
      refine AllReadyK.cons rfl (fun K hK => ?_) AllReadyK.nil
      go_simp
      refine hK.out _ _ (fun _ => ⟨((HF0.out.bel T16.below).cells).2.1.2.2.1, ((HF0.out.bel T16.below).cells).2.1.2.2.2⟩) ?_
      clear hK K
      try simp only [Act.put, List.setIfInBounds_toArray, List.set_cons_zero, List.set_cons_succ]
      refine wpAnyK_ready (rs := [9]) (by kernel_rfl) (by simp) ?_
      refine AllReadyK.cons rfl (fun K hK => ?_) AllReadyK.nil
      go_simp
      refine hK.out _ _ (fun h => absurd (show true = false from h) (by decide)) ?_
      clear hK K
      try simp only [Act.put, List.setIfInBounds_toArray, List.set_cons_zero, List.set_cons_succ]
      refine wpAnyK_done (by kernel_rfl) ?_ _
      go_wp2_with fail
      go_meet
      exact ⟨a15, c15, a17, c17, rfl, rfl, T16⟩
  case rest =>
    obtain ⟨a9, c9, b9, d9, rfl, rfl, hR2⟩ := hcut
    go_upto_region 6 with fail
    have HR2 := Lib.hid hR2
    clear hR2
    go_cut [11, 12] from 46 to 55 (fun s t wx => ∃ B ra1 rc1, s = .pointer (some ⟨B, 0, none⟩) ∧ t = .int .i64 er ∧ O6 W0 KA u0.heap.size m a9 c9 z.xa b9 d9 z.xb ra1 rc1 bs' B wx ∧ (ra1 = none → bs'.length = 0 ∧ rc1 = 0) ∧ (∀ ad, ra1 = some ad → ad.spot = none) ∧ bs'.length ≤ rc1 ∧ rc1 ≤ maxLen)
    case first =>
      refine wp_region_K 12 (fun W => W.cell? ⟨u0.heap.size, 0, none⟩ = some (.slice ra bs.length rc) ∧ W.cell? ⟨u0.heap.size, 1, none⟩ = some (.int .i64 m)) (by kernel_rfl) ?_
      obtain ⟨wd, hwd⟩ : ∃ W, W = wc.drew := ⟨_, rfl⟩
      rw [← hwd]
      have HWD := Lib.hid hwd
      have T0 : R2 W0 wd a9 z.xa.length c9 z.xa b9 z.xb.length d9 z.xb := by rw [hwd]; exact HR2.out.bel (Below.drewN' wc 1)
      have hS0 := cell2 (HF0.out.bel T0.below).b0
      clear hwd
      refine wpAnyK_take (i := 0) (v := .agg #[.slice ra bs.length rc, .int .i64 m]) rfl (by kernel_rfl) (by kernel_rfl) (by kernel_rfl) [] (by kernel_rfl) (by decide) (by kernel_rfl) (by kernel_rfl) (fun _ _ _ h => h) hS0 (.inl ⟨by rfl, fun W hW => ?_⟩) ?_
      · obtain ⟨q0, q1⟩ := hW
        go_simp
      simp only [Act.put, List.setIfInBounds_toArray, List.set_cons_zero, List.set_cons_succ]
      refine wpAnyK_take (i := 2) (v := .slice a9 z.xa.length c9) rfl (by kernel_rfl) (by kernel_rfl) (by kernel_rfl) [] (by kernel_rfl) (by decide) (by kernel_rfl) (by kernel_rfl) (fun _ _ _ h => h) hS0 (.inl ⟨by rfl, fun W hW => ?_⟩) ?_
      · obtain ⟨q0, q1⟩ := hW
        go_simp
      simp only [Act.put, List.setIfInBounds_toArray, List.set_cons_zero, List.set_cons_succ]
      refine wpAnyK_take (i := 4) (v := .slice b9 z.xb.length d9) rfl (by kernel_rfl) (by kernel_rfl) (by kernel_rfl) [] (by kernel_rfl) (by decide) (by kernel_rfl) (by kernel_rfl) (fun _ _ _ h => h) hS0 (.inl ⟨by rfl, fun W hW => ?_⟩) ?_
      · obtain ⟨q0, q1⟩ := hW
        go_simp
      simp only [Act.put, List.setIfInBounds_toArray, List.set_cons_zero, List.set_cons_succ]
      refine wpAnyK_ready (rs := [1, 10]) (by kernel_rfl) (by simp) ?_
      refine AllReadyK.cons (o := { dst := some 48, op := Op.buildSlice 29 0 #[], type := 29, pos := "law.go:38", after := #[], guard := none }) rfl (fun K hK => ?_) (AllReadyK.cons (o := { dst := some 11, op := Op.alloc 39, type := 0, pos := "law.go:38", after := #[], guard := none }) rfl (fun K hK => ?_) (AllReadyK.nil))
      · obtain ⟨L18, hL18⟩ : ∃ B, B = wd.heap.size := ⟨_, rfl⟩
        obtain ⟨y18, hy18⟩ : ∃ X, X = wd.alloc (.cells #[] 5) := ⟨_, rfl⟩
        have T18 := T0.lit
        rw [← hy18, ← hL18] at T18
        go_simp
        rw [← hy18, ← hL18]
        clear hy18 hL18
        refine hK.out _ _ (fun _ => cell2 (HF0.out.bel T18.r2.below).b0) ?_
        clear hK K
        try simp only [Act.put, List.setIfInBounds_toArray, List.set_cons_zero, List.set_cons_succ]
        refine wpAnyK_ready (rs := [3, 10]) (by kernel_rfl) (by simp) ?_
        refine AllReadyK.cons (o := { dst := some 50, op := Op.call { callee := Callee.builtin Builtin.append, args := #[Operand.tmp 48, Operand.tmp 49], argTypes := #[29, 29] }, type := 29, pos := "law.go:38", after := #[{ on := 1, ground := Ground.data }, { on := 2, ground := Ground.data }], guard := none }) rfl (fun K hK => ?_) (AllReadyK.cons (o := { dst := some 11, op := Op.alloc 39, type := 0, pos := "law.go:38", after := #[], guard := none }) rfl (fun K hK => ?_) (AllReadyK.nil))
        · obtain ⟨_, hra19, hrn19⟩ := row_arg T18.r2.ra
          refine step_append_f rfl (.tmp 48) (.tmp 49) 29 rfl W0.heap.size 5 i0 (.int .u8 0) 1 1 Try.underlying29 hi hz0 hz1 hz2 rfl (by decide) (.slice (some ⟨L18, 0, none⟩) 0 0) 0 (([] : List Int).map (.int .u8)) (by rfl) T18.rc a9 z.xa.length c9 (z.xa.map (.int .u8)) (by rfl) (by simp) hrn19 hra19.news (one_u8 _) (by unfold maxLen; omega) (by omega) T18.r2.below.size ?_
          intro v20 x20 hown20 hg20 hf20
          rw [Nat.zero_add] at hown20
          rw [← List.map_append, List.nil_append] at hown20
          obtain ⟨a20, c20, rfl⟩ := row_slice hown20
          have T19 := T18.appC hg20 hown20 hf20
          refine hK.out _ _ (fun _ => cell2 (HF0.out.bel T19.r2.below).b0) ?_
          clear hK K hown20 hg20 hf20 hra19 hrn19
          try simp only [Act.put, List.setIfInBounds_toArray, List.set_cons_zero, List.set_cons_succ]
          refine wpAnyK_ready (rs := [5, 10]) (by kernel_rfl) (by simp) ?_
          refine AllReadyK.cons (o := { dst := some 52, op := Op.call { callee := Callee.builtin Builtin.append, args := #[Operand.tmp 50, Operand.tmp 51], argTypes := #[29, 29] }, type := 29, pos := "law.go:38", after := #[{ on := 3, ground := Ground.data }, { on := 4, ground := Ground.data }, { on := 3, ground := Ground.chain }], guard := none }) rfl (fun K hK => ?_) (AllReadyK.cons (o := { dst := some 11, op := Op.alloc 39, type := 0, pos := "law.go:38", after := #[], guard := none }) rfl (fun K hK => ?_) (AllReadyK.nil))
          · obtain ⟨_, hra21, hrn21⟩ := row_arg T19.r2.rb
            refine step_append_f rfl (.tmp 50) (.tmp 51) 29 rfl W0.heap.size 5 i0 (.int .u8 0) 1 1 Try.underlying29 hi hz0 hz1 hz2 rfl (by decide) (.slice a20 z.xa.length c20) z.xa.length ((z.xa : List Int).map (.int .u8)) (by rfl) T19.rc b9 z.xb.length d9 (z.xb.map (.int .u8)) (by rfl) (by simp) hrn21 hra21.news (one_u8 _) (by unfold maxLen; omega) (by omega) T19.r2.below.size ?_
            intro v22 x22 hown22 hg22 hf22
            rw [← List.map_append] at hown22
            obtain ⟨a22, c22, rfl⟩ := row_slice hown22
            have T21 := T19.appC hg22 hown22 hf22
            refine hK.out _ _ (fun _ => cell2 (HF0.out.bel T21.r2.below).b0) ?_
            clear hK K hown22 hg22 hf22 hra21 hrn21
            try simp only [Act.put, List.setIfInBounds_toArray, List.set_cons_zero, List.set_cons_succ]
            refine wpAnyK_ready (rs := [6, 10]) (by kernel_rfl) (by simp) ?_
            refine AllReadyK.cons (o := { dst := some 53, op := Op.call { callee := Callee.value (Operand.func 27), args := #[Operand.tmp 47, Operand.tmp 52], argTypes := #[39, 29] }, type := 63, pos := "law.go:38", after := #[{ on := 0, ground := Ground.data }, { on := 5, ground := Ground.data }, { on := 5, ground := Ground.chain }], guard := none }) rfl (fun K hK => ?_) (AllReadyK.cons (o := { dst := some 11, op := Op.alloc 39, type := 0, pos := "law.go:38", after := #[], guard := none }) rfl (fun K hK => ?_) (AllReadyK.nil))
            · obtain ⟨hl23, hra23, hrn23⟩ := row_arg T21.rc
              rw [hl23] at hra23 hrn23
              have ha6 : ∀ q, (Value.slice a9 z.xa.length c9).ownBlock = some q → q < x22.heap.size := fun q hq => (T21.r2.ra.lt q hq).2
              have hlo6 : W0.heap.size ≤ x22.heap.size := T21.r2.below.size
              have HC6 := Lib.hid (HRP.out _ _ x22 ra rc _ _ _ rfl (HRf0.out x22 (HB0.out.trans (T21.r2.below.mono HB0.out.size))) hra23 hrn23)
              go_simp
              refine HC6.out.mono ?_
              rintro e x23 ⟨ra1, rc1, rfl, hrf1, hb23⟩
              have T23 := T21.bel hb23
              have AR23 := hrf1.at_.mono (U := fun q => ((KA q ∧ q < u0.heap.size) ∨ x22.heap.size ≤ q) ∧ q < x23.heap.size) (fun q h1 hq => ⟨hq, h1⟩)
              obtain ⟨na1, sp1, cl1, cm1⟩ := And.intro hrf1.na (And.intro hrf1.sp (And.intro hrf1.cl hrf1.cm))
              clear hrf1
              have hS6 := cell2 (HF0.out.bel T23.r2.below).b0
              refine hK.out _ _ (fun _ => hS6) ?_
              clear hK K HC6 hra23 hrn23
              try simp only [Act.put, List.setIfInBounds_toArray, List.set_cons_zero, List.set_cons_succ]
              refine wpAnyK_take (i := 7) (v := .tuple #[.agg #[.slice ra1 bs'.length rc1, .int .i64 m], .int .i64 er]) rfl (by kernel_rfl) (by kernel_rfl) (by kernel_rfl) [] (by kernel_rfl) (by decide) (by kernel_rfl) (by kernel_rfl) (fun _ _ _ h => h) hS6 (.inl ⟨by rfl, fun W hW => ?_⟩) ?_
              · obtain ⟨q0, q1⟩ := hW
                go_simp
              simp only [Act.put, List.setIfInBounds_toArray, List.set_cons_zero, List.set_cons_succ]
              refine wpAnyK_take (i := 8) (v := .agg #[.slice ra1 bs'.length rc1, .int .i64 m]) rfl (by kernel_rfl) (by kernel_rfl) (by kernel_rfl) [] (by kernel_rfl) (by decide) (by kernel_rfl) (by kernel_rfl) (fun _ _ _ h => h) hS6 (.inl ⟨by rfl, fun W hW => ?_⟩) ?_
              · obtain ⟨q0, q1⟩ := hW
                go_simp
              simp only [Act.put, List.setIfInBounds_toArray, List.set_cons_zero, List.set_cons_succ]
              refine wpAnyK_take (i := 9) (v := .int .i64 er) rfl (by kernel_rfl) (by kernel_rfl) (by kernel_rfl) [] (by kernel_rfl) (by decide) (by kernel_rfl) (by kernel_rfl) (fun _ _ _ h => h) hS6 (.inl ⟨by rfl, fun W hW => ?_⟩) ?_
              · obtain ⟨q0, q1⟩ := hW
                go_simp
              simp only [Act.put, List.setIfInBounds_toArray, List.set_cons_zero, List.set_cons_succ]
              refine wpAnyK_ready (rs := [10]) (by kernel_rfl) (by simp) ?_
              refine AllReadyK.cons rfl (fun K hK => ?_) (AllReadyK.nil)
              obtain ⟨B24, hB24⟩ : ∃ B, B = x23.heap.size := ⟨_, rfl⟩
              obtain ⟨y24, hy24⟩ : ∃ X, X = x23.alloc (.cells #[.slice none 0 0, .int .i64 0] 39) := ⟨_, rfl⟩
              have N24 := N6.start (V := W0) (vs := [.slice a22 (z.xa.length + z.xb.length) c22, .slice a9 z.xa.length c9, .slice b9 z.xb.length d9]) T23.r2.below.size (by intro v hv q hq; simp at hv; rcases hv with rfl | rfl | rfl <;> first | exact (T23.rc.lt q hq).2 | exact (T23.r2.ra.lt q hq).2 | exact (T23.r2.rb.lt q hq).2)
              have hb24 : Below x23.heap.size x23 y24 := by rw [hy24]; exact (Below.refl _ _).alloc (Nat.le_refl _) _
              have T24 := T23.bel hb24
              have AR24 := (AR23.below hb24).mono (U := fun q => (KA q ∧ q < u0.heap.size) ∨ (W0.heap.size ≤ q ∧ q ≠ B24 ∧ (Value.slice a9 z.xa.length c9).ownBlock ≠ some q)) (fun q _ hq => by
                rcases hq with ⟨hq | hq, hq2⟩
                · exact .inl hq
                · exact .inr ⟨by omega, by omega, fun e => by have := ha6 q e; omega⟩)
              rw [← hy24, ← hB24] at N24
              go_simp
              rw [← hy24, ← hB24]
              clear hy24 hB24
              refine hK.out _ _ (fun _ => cell2 (HF0.out.bel T24.r2.below).b0) ?_
              clear hK K
              try simp only [Act.put, List.setIfInBounds_toArray, List.set_cons_zero, List.set_cons_succ]
              have hMy24 := (T24.r2.below.setCell (p := ⟨B24, 0, none⟩) N24.lo (.slice ra1 bs'.length rc1)).setCell (p := ⟨B24, 1, none⟩) N24.lo (.int .i64 m)
              have hO6 := O6.of (u := u0.heap.size) (m := m) (ra1 := ra1) (rc1 := rc1) (bs := bs') (K0 := KA) hus T24.r2 N24.box N24.lo (N24.no _ (by simp)) (N24.no _ (by simp)) AR24
              obtain ⟨e0, e1⟩ := cell2 N24.box
              have e2 := frozen_blk N24.box 0
              have e3 := frozen_blk N24.box 1
              have e4 := blk_lt N24.box
              refine wpAnyK_ready (rs := [11]) (by kernel_rfl) (by simp) ?_
              refine AllReadyK.cons rfl (fun K hK => ?_) AllReadyK.nil
              go_simp
              refine hK.out _ _ (fun _ => cell2 (HF0.out.bel hMy24).b0) ?_
              clear hK K
              try simp only [Act.put, List.setIfInBounds_toArray, List.set_cons_zero, List.set_cons_succ]
              refine wpAnyK_ready (rs := [12]) (by kernel_rfl) (by simp) ?_
              refine AllReadyK.cons rfl (fun K hK => ?_) AllReadyK.nil
              go_simp
              refine hK.out _ _ (fun h => absurd (show true = false from h) (by decide)) ?_
              clear hK K
              try simp only [Act.put, List.setIfInBounds_toArray, List.set_cons_zero, List.set_cons_succ]
              refine wpAnyK_done (by kernel_rfl) ?_ _
              go_wp2_with fail
              go_meet
              exact ⟨B24, ra1, rc1, rfl, rfl, hO6, na1, sp1, cl1, cm1⟩
            · obtain ⟨B25, hB25⟩ : ∃ B, B = x22.heap.size := ⟨_, rfl⟩
              obtain ⟨y25, hy25⟩ : ∃ X, X = x22.alloc (.cells #[.slice none 0 0, .int .i64 0] 39) := ⟨_, rfl⟩
              have N25 := N6.start (V := W0) (vs := [.slice a22 (z.xa.length + z.xb.length) c22, .slice a9 z.xa.length c9, .slice b9 z.xb.length d9]) T21.r2.below.size (by intro v hv q hq; simp at hv; rcases hv with rfl | rfl | rfl <;> first | exact (T21.rc.lt q hq).2 | exact (T21.r2.ra.lt q hq).2 | exact (T21.r2.rb.lt q hq).2)
              have hb25 : Below x22.heap.size x22 y25 := by rw [hy25]; exact (Below.refl _ _).alloc (Nat.le_refl _) _
              have T25 := T21.bel hb25
              rw [← hy25, ← hB25] at N25
              go_simp
              rw [← hy25, ← hB25]
              clear hy25 hB25
              refine hK.out _ _ (fun _ => cell2 (HF0.out.bel T25.r2.below).b0) ?_
              clear hK K
              try simp only [Act.put, List.setIfInBounds_toArray, List.set_cons_zero, List.set_cons_succ]
              refine wpAnyK_ready (rs := [6]) (by kernel_rfl) (by simp) ?_
              refine AllReadyK.cons rfl (fun K hK => ?_) (AllReadyK.nil)
              obtain ⟨hl26, hra26, hrn26⟩ := row_arg T25.rc
              rw [hl26] at hra26 hrn26
              have ha6 : ∀ q, (Value.slice a9 z.xa.length c9).ownBlock = some q → q < y25.heap.size := fun q hq => (T25.r2.ra.lt q hq).2
              have hlo6 : W0.heap.size ≤ y25.heap.size := T25.r2.below.size
              have HC6 := Lib.hid (HRP.out _ _ y25 ra rc _ _ _ rfl (HRf0.out y25 (HB0.out.trans (T25.r2.below.mono HB0.out.size))) hra26 hrn26)
              go_simp
              refine HC6.out.mono ?_
              rintro e x26 ⟨ra1, rc1, rfl, hrf1, hb26⟩
              have T26 := T25.bel hb26
              have N26 := N25.bel hb26
              have hB6 := blk_lt N25.box
              have AR26 := hrf1.at_.mono (U := fun q => (KA q ∧ q < u0.heap.size) ∨ (W0.heap.size ≤ q ∧ q ≠ B25 ∧ (Value.slice a9 z.xa.length c9).ownBlock ≠ some q)) (fun q _ hq => by
                rcases hq with hq | hq
                · exact .inl hq
                · exact .inr ⟨by omega, by omega, fun e => by have := ha6 q e; omega⟩)
              obtain ⟨na1, sp1, cl1, cm1⟩ := And.intro hrf1.na (And.intro hrf1.sp (And.intro hrf1.cl hrf1.cm))
              clear hrf1
              have hS6 := cell2 (HF0.out.bel T26.r2.below).b0
              refine hK.out _ _ (fun _ => hS6) ?_
              clear hK K HC6 hra26 hrn26
              try simp only [Act.put, List.setIfInBounds_toArray, List.set_cons_zero, List.set_cons_succ]
              refine wpAnyK_take (i := 7) (v := .tuple #[.agg #[.slice ra1 bs'.length rc1, .int .i64 m], .int .i64 er]) rfl (by kernel_rfl) (by kernel_rfl) (by kernel_rfl) [] (by kernel_rfl) (by decide) (by kernel_rfl) (by kernel_rfl) (fun _ _ _ h => h) hS6 (.inl ⟨by rfl, fun W hW => ?_⟩) ?_
              · obtain ⟨q0, q1⟩ := hW
                go_simp
              simp only [Act.put, List.setIfInBounds_toArray, List.set_cons_zero, List.set_cons_succ]
              refine wpAnyK_take (i := 8) (v := .agg #[.slice ra1 bs'.length rc1, .int .i64 m]) rfl (by kernel_rfl) (by kernel_rfl) (by kernel_rfl) [] (by kernel_rfl) (by decide) (by kernel_rfl) (by kernel_rfl) (fun _ _ _ h => h) hS6 (.inl ⟨by rfl, fun W hW => ?_⟩) ?_
              · obtain ⟨q0, q1⟩ := hW
                go_simp
              simp only [Act.put, List.setIfInBounds_toArray, List.set_cons_zero, List.set_cons_succ]
              refine wpAnyK_take (i := 9) (v := .int .i64 er) rfl (by kernel_rfl) (by kernel_rfl) (by kernel_rfl) [] (by kernel_rfl) (by decide) (by kernel_rfl) (by kernel_rfl) (fun _ _ _ h => h) hS6 (.inl ⟨by rfl, fun W hW => ?_⟩) ?_
              · obtain ⟨q0, q1⟩ := hW
                go_simp
              simp only [Act.put, List.setIfInBounds_toArray, List.set_cons_zero, List.set_cons_succ]
              have hMx26 := (T26.r2.below.setCell (p := ⟨B25, 0, none⟩) N26.lo (.slice ra1 bs'.length rc1)).setCell (p := ⟨B25, 1, none⟩) N26.lo (.int .i64 m)
              have hO6 := O6.of (u := u0.heap.size) (m := m) (ra1 := ra1) (rc1 := rc1) (bs := bs') (K0 := KA) hus T26.r2 N26.box N26.lo (N26.no _ (by simp)) (N26.no _ (by simp)) AR26
              obtain ⟨e0, e1⟩ := cell2 N26.box
              have e2 := frozen_blk N26.box 0
              have e3 := frozen_blk N26.box 1
              have e4 := blk_lt N26.box
              refine wpAnyK_ready (rs := [11]) (by kernel_rfl) (by simp) ?_
              refine AllReadyK.cons rfl (fun K hK => ?_) AllReadyK.nil
              go_simp
              refine hK.out _ _ (fun _ => cell2 (HF0.out.bel hMx26).b0) ?_
              clear hK K
              try simp only [Act.put, List.setIfInBounds_toArray, List.set_cons_zero, List.set_cons_succ]
              refine wpAnyK_ready (rs := [12]) (by kernel_rfl) (by simp) ?_
              refine AllReadyK.cons rfl (fun K hK => ?_) AllReadyK.nil
              go_simp
              refine hK.out _ _ (fun h => absurd (show true = false from h) (by decide)) ?_
              clear hK K
              try simp only [Act.put, List.setIfInBounds_toArray, List.set_cons_zero, List.set_cons_succ]
              refine wpAnyK_done (by kernel_rfl) ?_ _
              go_wp2_with fail
              go_meet
              exact ⟨B25, ra1, rc1, rfl, rfl, hO6, na1, sp1, cl1, cm1⟩
          · obtain ⟨B27, hB27⟩ : ∃ B, B = x20.heap.size := ⟨_, rfl⟩
            obtain ⟨y27, hy27⟩ : ∃ X, X = x20.alloc (.cells #[.slice none 0 0, .int .i64 0] 39) := ⟨_, rfl⟩
            have N27 := N6.start (V := W0) (vs := [.slice a20 z.xa.length c20, .slice a9 z.xa.length c9, .slice b9 z.xb.length d9]) T19.r2.below.size (by intro v hv q hq; simp at hv; rcases hv with rfl | rfl | rfl <;> first | exact (T19.rc.lt q hq).2 | exact (T19.r2.ra.lt q hq).2 | exact (T19.r2.rb.lt q hq).2)
            have hb27 : Below x20.heap.size x20 y27 := by rw [hy27]; exact (Below.refl _ _).alloc (Nat.le_refl _) _
            have T27 := T19.bel hb27
            rw [← hy27, ← hB27] at N27
            go_simp
            rw [← hy27, ← hB27]
            clear hy27 hB27
            refine hK.out _ _ (fun _ => cell2 (HF0.out.bel T27.r2.below).b0) ?_
            clear hK K
            try simp only [Act.put, List.setIfInBounds_toArray, List.set_cons_zero, List.set_cons_succ]
            refine wpAnyK_ready (rs := [5]) (by kernel_rfl) (by simp) ?_
            refine AllReadyK.cons rfl (fun K hK => ?_) (AllReadyK.nil)
            obtain ⟨_, hra28, hrn28⟩ := row_arg T27.r2.rb
            refine step_append_f rfl (.tmp 50) (.tmp 51) 29 rfl W0.heap.size 5 i0 (.int .u8 0) 1 1 Try.underlying29 hi hz0 hz1 hz2 rfl (by decide) (.slice a20 z.xa.length c20) z.xa.length ((z.xa : List Int).map (.int .u8)) (by rfl) T27.rc b9 z.xb.length d9 (z.xb.map (.int .u8)) (by rfl) (by simp) hrn28 hra28.news (one_u8 _) (by unfold maxLen; omega) (by omega) T27.r2.below.size ?_
            intro v29 x29 hown29 hg29 hf29
            rw [← List.map_append] at hown29
            obtain ⟨a29, c29, rfl⟩ := row_slice hown29
            have T28 := T27.appC hg29 hown29 hf29
            have N28 := N27.app (u' := .slice a29 (z.xa.length + z.xb.length) c29) hg29 hf29
            refine hK.out _ _ (fun _ => cell2 (HF0.out.bel T28.r2.below).b0) ?_
            clear hK K hown29 hg29 hf29 hra28 hrn28
            try simp only [Act.put, List.setIfInBounds_toArray, List.set_cons_zero, List.set_cons_succ]
            refine wpAnyK_ready (rs := [6]) (by kernel_rfl) (by simp) ?_
            refine AllReadyK.cons rfl (fun K hK => ?_) (AllReadyK.nil)
            obtain ⟨hl30, hra30, hrn30⟩ := row_arg T28.rc
            rw [hl30] at hra30 hrn30
            have ha6 : ∀ q, (Value.slice a9 z.xa.length c9).ownBlock = some q → q < x29.heap.size := fun q hq => (T28.r2.ra.lt q hq).2
            have hlo6 : W0.heap.size ≤ x29.heap.size := T28.r2.below.size
            have HC6 := Lib.hid (HRP.out _ _ x29 ra rc _ _ _ rfl (HRf0.out x29 (HB0.out.trans (T28.r2.below.mono HB0.out.size))) hra30 hrn30)
            go_simp
            refine HC6.out.mono ?_
            rintro e x30 ⟨ra1, rc1, rfl, hrf1, hb30⟩
            have T30 := T28.bel hb30
            have N30 := N28.bel hb30
            have hB6 := blk_lt N28.box
            have AR30 := hrf1.at_.mono (U := fun q => (KA q ∧ q < u0.heap.size) ∨ (W0.heap.size ≤ q ∧ q ≠ B27 ∧ (Value.slice a9 z.xa.length c9).ownBlock ≠ some q)) (fun q _ hq => by
              rcases hq with hq | hq
              · exact .inl hq
              · exact .inr ⟨by omega, by omega, fun e => by have := ha6 q e; omega⟩)
            obtain ⟨na1, sp1, cl1, cm1⟩ := And.intro hrf1.na (And.intro hrf1.sp (And.intro hrf1.cl hrf1.cm))
            clear hrf1
            have hS6 := cell2 (HF0.out.bel T30.r2.below).b0
            refine hK.out _ _ (fun _ => hS6) ?_
            clear hK K HC6 hra30 hrn30
            try simp only [Act.put, List.setIfInBounds_toArray, List.set_cons_zero, List.set_cons_succ]
            refine wpAnyK_take (i := 7) (v := .tuple #[.agg #[.slice ra1 bs'.length rc1, .int .i64 m], .int .i64 er]) rfl (by kernel_rfl) (by kernel_rfl) (by kernel_rfl) [] (by kernel_rfl) (by decide) (by kernel_rfl) (by kernel_rfl) (fun _ _ _ h => h) hS6 (.inl ⟨by rfl, fun W hW => ?_⟩) ?_
            · obtain ⟨q0, q1⟩ := hW
              go_simp
            simp only [Act.put, List.setIfInBounds_toArray, List.set_cons_zero, List.set_cons_succ]
            refine wpAnyK_take (i := 8) (v := .agg #[.slice ra1 bs'.length rc1, .int .i64 m]) rfl (by kernel_rfl) (by kernel_rfl) (by kernel_rfl) [] (by kernel_rfl) (by decide) (by kernel_rfl) (by kernel_rfl) (fun _ _ _ h => h) hS6 (.inl ⟨by rfl, fun W hW => ?_⟩) ?_
            · obtain ⟨q0, q1⟩ := hW
              go_simp
            simp only [Act.put, List.setIfInBounds_toArray, List.set_cons_zero, List.set_cons_succ]
            refine wpAnyK_take (i := 9) (v := .int .i64 er) rfl (by kernel_rfl) (by kernel_rfl) (by kernel_rfl) [] (by kernel_rfl) (by decide) (by kernel_rfl) (by kernel_rfl) (fun _ _ _ h => h) hS6 (.inl ⟨by rfl, fun W hW => ?_⟩) ?_
            · obtain ⟨q0, q1⟩ := hW
              go_simp
            simp only [Act.put, List.setIfInBounds_toArray, List.set_cons_zero, List.set_cons_succ]
            have hMx30 := (T30.r2.below.setCell (p := ⟨B27, 0, none⟩) N30.lo (.slice ra1 bs'.length rc1)).setCell (p := ⟨B27, 1, none⟩) N30.lo (.int .i64 m)
            have hO6 := O6.of (u := u0.heap.size) (m := m) (ra1 := ra1) (rc1 := rc1) (bs := bs') (K0 := KA) hus T30.r2 N30.box N30.lo (N30.no _ (by simp)) (N30.no _ (by simp)) AR30
            obtain ⟨e0, e1⟩ := cell2 N30.box
            have e2 := frozen_blk N30.box 0
            have e3 := frozen_blk N30.box 1
            have e4 := blk_lt N30.box
            refine wpAnyK_ready (rs := [11]) (by kernel_rfl) (by simp) ?_
            refine AllReadyK.cons rfl (fun K hK => ?_) AllReadyK.nil
            go_simp
            refine hK.out _ _ (fun _ => cell2 (HF0.out.bel hMx30).b0) ?_
            clear hK K
            try simp only [Act.put, List.setIfInBounds_toArray, List.set_cons_zero, List.set_cons_succ]
            refine wpAnyK_ready (rs := [12]) (by kernel_rfl) (by simp) ?_
            refine AllReadyK.cons rfl (fun K hK => ?_) AllReadyK.nil
            go_simp
            refine hK.out _ _ (fun h => absurd (show true = false from h) (by decide)) ?_
            clear hK K
            try simp only [Act.put, List.setIfInBounds_toArray, List.set_cons_zero, List.set_cons_succ]
            refine wpAnyK_done (by kernel_rfl) ?_ _
            go_wp2_with fail
            go_meet
            exact ⟨B27, ra1, rc1, rfl, rfl, hO6, na1, sp1, cl1, cm1⟩
        · obtain ⟨B31, hB31⟩ : ∃ B, B = y18.heap.size := ⟨_, rfl⟩
          obtain ⟨y31, hy31⟩ : ∃ X, X = y18.alloc (.cells #[.slice none 0 0, .int .i64 0] 39) := ⟨_, rfl⟩
          have N31 := N6.start (V := W0) (vs := [.slice (some ⟨L18, 0, none⟩) 0 0, .slice a9 z.xa.length c9, .slice b9 z.xb.length d9]) T18.r2.below.size (by intro v hv q hq; simp at hv; rcases hv with rfl | rfl | rfl <;> first | exact (T18.rc.lt q hq).2 | exact (T18.r2.ra.lt q hq).2 | exact (T18.r2.rb.lt q hq).2)
          have hb31 : Below y18.heap.size y18 y31 := by rw [hy31]; exact (Below.refl _ _).alloc (Nat.le_refl _) _
          have T31 := T18.bel hb31
          rw [← hy31, ← hB31] at N31
          go_simp
          rw [← hy31, ← hB31]
          clear hy31 hB31
          refine hK.out _ _ (fun _ => cell2 (HF0.out.bel T31.r2.below).b0) ?_
          clear hK K
          try simp only [Act.put, List.setIfInBounds_toArray, List.set_cons_zero, List.set_cons_succ]
          refine wpAnyK_ready (rs := [3]) (by kernel_rfl) (by simp) ?_
          refine AllReadyK.cons rfl (fun K hK => ?_) (AllReadyK.nil)
          obtain ⟨_, hra32, hrn32⟩ := row_arg T31.r2.ra
          refine step_append_f rfl (.tmp 48) (.tmp 49) 29 rfl W0.heap.size 5 i0 (.int .u8 0) 1 1 Try.underlying29 hi hz0 hz1 hz2 rfl (by decide) (.slice (some ⟨L18, 0, none⟩) 0 0) 0 (([] : List Int).map (.int .u8)) (by rfl) T31.rc a9 z.xa.length c9 (z.xa.map (.int .u8)) (by rfl) (by simp) hrn32 hra32.news (one_u8 _) (by unfold maxLen; omega) (by omega) T31.r2.below.size ?_
          intro v33 x33 hown33 hg33 hf33
          rw [Nat.zero_add] at hown33
          rw [← List.map_append, List.nil_append] at hown33
          obtain ⟨a33, c33, rfl⟩ := row_slice hown33
          have T32 := T31.appC hg33 hown33 hf33
          have N32 := N31.app (u' := .slice a33 z.xa.length c33) hg33 hf33
          refine hK.out _ _ (fun _ => cell2 (HF0.out.bel T32.r2.below).b0) ?_
          clear hK K hown33 hg33 hf33 hra32 hrn32
          try simp only [Act.put, List.setIfInBounds_toArray, List.set_cons_zero, List.set_cons_succ]
          refine wpAnyK_ready (rs := [5]) (by kernel_rfl) (by simp) ?_
          refine AllReadyK.cons rfl (fun K hK => ?_) (AllReadyK.nil)
          obtain ⟨_, hra34, hrn34⟩ := row_arg T32.r2.rb
          refine step_append_f rfl (.tmp 50) (.tmp 51) 29 rfl W0.heap.size 5 i0 (.int .u8 0) 1 1 Try.underlying29 hi hz0 hz1 hz2 rfl (by decide) (.slice a33 z.xa.length c33) z.xa.length ((z.xa : List Int).map (.int .u8)) (by rfl) T32.rc b9 z.xb.length d9 (z.xb.map (.int .u8)) (by rfl) (by simp) hrn34 hra34.news (one_u8 _) (by unfold maxLen; omega) (by omega) T32.r2.below.size ?_
          intro v35 x35 hown35 hg35 hf35
          rw [← List.map_append] at hown35
          obtain ⟨a35, c35, rfl⟩ := row_slice hown35
          have T34 := T32.appC hg35 hown35 hf35
          have N34 := N32.app (u' := .slice a35 (z.xa.length + z.xb.length) c35) hg35 hf35
          refine hK.out _ _ (fun _ => cell2 (HF0.out.bel T34.r2.below).b0) ?_
          clear hK K hown35 hg35 hf35 hra34 hrn34
          try simp only [Act.put, List.setIfInBounds_toArray, List.set_cons_zero, List.set_cons_succ]
          refine wpAnyK_ready (rs := [6]) (by kernel_rfl) (by simp) ?_
          refine AllReadyK.cons rfl (fun K hK => ?_) (AllReadyK.nil)
          obtain ⟨hl36, hra36, hrn36⟩ := row_arg T34.rc
          rw [hl36] at hra36 hrn36
          have ha6 : ∀ q, (Value.slice a9 z.xa.length c9).ownBlock = some q → q < x35.heap.size := fun q hq => (T34.r2.ra.lt q hq).2
          have hlo6 : W0.heap.size ≤ x35.heap.size := T34.r2.below.size
          have HC6 := Lib.hid (HRP.out _ _ x35 ra rc _ _ _ rfl (HRf0.out x35 (HB0.out.trans (T34.r2.below.mono HB0.out.size))) hra36 hrn36)
          go_simp
          refine HC6.out.mono ?_
          rintro e x36 ⟨ra1, rc1, rfl, hrf1, hb36⟩
          have T36 := T34.bel hb36
          have N36 := N34.bel hb36
          have hB6 := blk_lt N34.box
          have AR36 := hrf1.at_.mono (U := fun q => (KA q ∧ q < u0.heap.size) ∨ (W0.heap.size ≤ q ∧ q ≠ B31 ∧ (Value.slice a9 z.xa.length c9).ownBlock ≠ some q)) (fun q _ hq => by
            rcases hq with hq | hq
            · exact .inl hq
            · exact .inr ⟨by omega, by omega, fun e => by have := ha6 q e; omega⟩)
          obtain ⟨na1, sp1, cl1, cm1⟩ := And.intro hrf1.na (And.intro hrf1.sp (And.intro hrf1.cl hrf1.cm))
          clear hrf1
          have hS6 := cell2 (HF0.out.bel T36.r2.below).b0
          refine hK.out _ _ (fun _ => hS6) ?_
          clear hK K HC6 hra36 hrn36
          try simp only [Act.put, List.setIfInBounds_toArray, List.set_cons_zero, List.set_cons_succ]
          refine wpAnyK_take (i := 7) (v := .tuple #[.agg #[.slice ra1 bs'.length rc1, .int .i64 m], .int .i64 er]) rfl (by kernel_rfl) (by kernel_rfl) (by kernel_rfl) [] (by kernel_rfl) (by decide) (by kernel_rfl) (by kernel_rfl) (fun _ _ _ h => h) hS6 (.inl ⟨by rfl, fun W hW => ?_⟩) ?_
          · obtain ⟨q0, q1⟩ := hW
            go_simp
          simp only [Act.put, List.setIfInBounds_toArray, List.set_cons_zero, List.set_cons_succ]
          refine wpAnyK_take (i := 8) (v := .agg #[.slice ra1 bs'.length rc1, .int .i64 m]) rfl (by kernel_rfl) (by kernel_rfl) (by kernel_rfl) [] (by kernel_rfl) (by decide) (by kernel_rfl) (by kernel_rfl) (fun _ _ _ h => h) hS6 (.inl ⟨by rfl, fun W hW => ?_⟩) ?_
          · obtain ⟨q0, q1⟩ := hW
            go_simp
          simp only [Act.put, List.setIfInBounds_toArray, List.set_cons_zero, List.set_cons_succ]
          refine wpAnyK_take (i := 9) (v := .int .i64 er) rfl (by kernel_rfl) (by kernel_rfl) (by kernel_rfl) [] (by kernel_rfl) (by decide) (by kernel_rfl) (by kernel_rfl) (fun _ _ _ h => h) hS6 (.inl ⟨by rfl, fun W hW => ?_⟩) ?_
          · obtain ⟨q0, q1⟩ := hW
            go_simp
          simp only [Act.put, List.setIfInBounds_toArray, List.set_cons_zero, List.set_cons_succ]
          have hMx36 := (T36.r2.below.setCell (p := ⟨B31, 0, none⟩) N36.lo (.slice ra1 bs'.length rc1)).setCell (p := ⟨B31, 1, none⟩) N36.lo (.int .i64 m)
          have hO6 := O6.of (u := u0.heap.size) (m := m) (ra1 := ra1) (rc1 := rc1) (bs := bs') (K0 := KA) hus T36.r2 N36.box N36.lo (N36.no _ (by simp)) (N36.no _ (by simp)) AR36
          obtain ⟨e0, e1⟩ := cell2 N36.box
          have e2 := frozen_blk N36.box 0
          have e3 := frozen_blk N36.box 1
          have e4 := blk_lt N36.box
          refine wpAnyK_ready (rs := [11]) (by kernel_rfl) (by simp) ?_
          refine AllReadyK.cons rfl (fun K hK => ?_) AllReadyK.nil
          go_simp
          refine hK.out _ _ (fun _ => cell2 (HF0.out.bel hMx36).b0) ?_
          clear hK K
          try simp only [Act.put, List.setIfInBounds_toArray, List.set_cons_zero, List.set_cons_succ]
          refine wpAnyK_ready (rs := [12]) (by kernel_rfl) (by simp) ?_
          refine AllReadyK.cons rfl (fun K hK => ?_) AllReadyK.nil
          go_simp
          refine hK.out _ _ (fun h => absurd (show true = false from h) (by decide)) ?_
          clear hK K
          try simp only [Act.put, List.setIfInBounds_toArray, List.set_cons_zero, List.set_cons_succ]
          refine wpAnyK_done (by kernel_rfl) ?_ _
          go_wp2_with fail
          go_meet
          exact ⟨B31, ra1, rc1, rfl, rfl, hO6, na1, sp1, cl1, cm1⟩
      · obtain ⟨B37, hB37⟩ : ∃ B, B = wd.heap.size := ⟨_, rfl⟩
        obtain ⟨y37, hy37⟩ : ∃ X, X = wd.alloc (.cells #[.slice none 0 0, .int .i64 0] 39) := ⟨_, rfl⟩
        have N37 := N6.start (V := W0) (vs := [.slice a9 z.xa.length c9, .slice b9 z.xb.length d9]) T0.below.size (by intro v hv q hq; simp at hv; rcases hv with rfl | rfl <;> first | exact (T0.ra.lt q hq).2 | exact (T0.rb.lt q hq).2)
        have hb37 : Below wd.heap.size wd y37 := by rw [hy37]; exact (Below.refl _ _).alloc (Nat.le_refl _) _
        have T37 := T0.bel hb37
        rw [← hy37, ← hB37] at N37
        go_simp
        rw [← hy37, ← hB37]
        clear hy37 hB37
        refine hK.out _ _ (fun _ => cell2 (HF0.out.bel T37.below).b0) ?_
        clear hK K
        try simp only [Act.put, List.setIfInBounds_toArray, List.set_cons_zero, List.set_cons_succ]
        refine wpAnyK_ready (rs := [1]) (by kernel_rfl) (by simp) ?_
        refine AllReadyK.cons rfl (fun K hK => ?_) (AllReadyK.nil)
        obtain ⟨L38, hL38⟩ : ∃ B, B = y37.heap.size := ⟨_, rfl⟩
        obtain ⟨y38, hy38⟩ : ∃ X, X = y37.alloc (.cells #[] 5) := ⟨_, rfl⟩
        have T38 := T37.lit
        have N38 := N37.lit
        rw [← hy38, ← hL38] at T38 N38
        go_simp
        rw [← hy38, ← hL38]
        clear hy38 hL38
        refine hK.out _ _ (fun _ => cell2 (HF0.out.bel T38.r2.below).b0) ?_
        clear hK K
        try simp only [Act.put, List.setIfInBounds_toArray, List.set_cons_zero, List.set_cons_succ]
        refine wpAnyK_ready (rs := [3]) (by kernel_rfl) (by simp) ?_
        refine AllReadyK.cons rfl (fun K hK => ?_) (AllReadyK.nil)
        obtain ⟨_, hra39, hrn39⟩ := row_arg T38.r2.ra
        refine step_append_f rfl (.tmp 48) (.tmp 49) 29 rfl W0.heap.size 5 i0 (.int .u8 0) 1 1 Try.underlying29 hi hz0 hz1 hz2 rfl (by decide) (.slice (some ⟨L38, 0, none⟩) 0 0) 0 (([] : List Int).map (.int .u8)) (by rfl) T38.rc a9 z.xa.length c9 (z.xa.map (.int .u8)) (by rfl) (by simp) hrn39 hra39.news (one_u8 _) (by unfold maxLen; omega) (by omega) T38.r2.below.size ?_
        intro v40 x40 hown40 hg40 hf40
        rw [Nat.zero_add] at hown40
        rw [← List.map_append, List.nil_append] at hown40
        obtain ⟨a40, c40, rfl⟩ := row_slice hown40
        have T39 := T38.appC hg40 hown40 hf40
        have N39 := N38.app (u' := .slice a40 z.xa.length c40) hg40 hf40
        refine hK.out _ _ (fun _ => cell2 (HF0.out.bel T39.r2.below).b0) ?_
        clear hK K hown40 hg40 hf40 hra39 hrn39
        try simp only [Act.put, List.setIfInBounds_toArray, List.set_cons_zero, List.set_cons_succ]
        refine wpAnyK_ready (rs := [5]) (by kernel_rfl) (by simp) ?_
        refine AllReadyK.cons rfl (fun K hK => ?_) (AllReadyK.nil)
        obtain ⟨_, hra41, hrn41⟩ := row_arg T39.r2.rb
        refine step_append_f rfl (.tmp 50) (.tmp 51) 29 rfl W0.heap.size 5 i0 (.int .u8 0) 1 1 Try.underlying29 hi hz0 hz1 hz2 rfl (by decide) (.slice a40 z.xa.length c40) z.xa.length ((z.xa : List Int).map (.int .u8)) (by rfl) T39.rc b9 z.xb.length d9 (z.xb.map (.int .u8)) (by rfl) (by simp) hrn41 hra41.news (one_u8 _) (by unfold maxLen; omega) (by omega) T39.r2.below.size ?_
        intro v42 x42 hown42 hg42 hf42
        rw [← List.map_append] at hown42
        obtain ⟨a42, c42, rfl⟩ := row_slice hown42
        have T41 := T39.appC hg42 hown42 hf42
        have N41 := N39.app (u' := .slice a42 (z.xa.length + z.xb.length) c42) hg42 hf42
        refine hK.out _ _ (fun _ => cell2 (HF0.out.bel T41.r2.below).b0) ?_
        clear hK K hown42 hg42 hf42 hra41 hrn41
        try simp only [Act.put, List.setIfInBounds_toArray, List.set_cons_zero, List.set_cons_succ]
        refine wpAnyK_ready (rs := [6]) (by kernel_rfl) (by simp) ?_
        refine AllReadyK.cons rfl (fun K hK => ?_) (AllReadyK.nil)
        obtain ⟨hl43, hra43, hrn43⟩ := row_arg T41.rc
        rw [hl43] at hra43 hrn43
        have ha6 : ∀ q, (Value.slice a9 z.xa.length c9).ownBlock = some q → q < x42.heap.size := fun q hq => (T41.r2.ra.lt q hq).2
        have hlo6 : W0.heap.size ≤ x42.heap.size := T41.r2.below.size
        have HC6 := Lib.hid (HRP.out _ _ x42 ra rc _ _ _ rfl (HRf0.out x42 (HB0.out.trans (T41.r2.below.mono HB0.out.size))) hra43 hrn43)
        go_simp
        refine HC6.out.mono ?_
        rintro e x43 ⟨ra1, rc1, rfl, hrf1, hb43⟩
        have T43 := T41.bel hb43
        have N43 := N41.bel hb43
        have hB6 := blk_lt N41.box
        have AR43 := hrf1.at_.mono (U := fun q => (KA q ∧ q < u0.heap.size) ∨ (W0.heap.size ≤ q ∧ q ≠ B37 ∧ (Value.slice a9 z.xa.length c9).ownBlock ≠ some q)) (fun q _ hq => by
          rcases hq with hq | hq
          · exact .inl hq
          · exact .inr ⟨by omega, by omega, fun e => by have := ha6 q e; omega⟩)
        obtain ⟨na1, sp1, cl1, cm1⟩ := And.intro hrf1.na (And.intro hrf1.sp (And.intro hrf1.cl hrf1.cm))
        clear hrf1
        have hS6 := cell2 (HF0.out.bel T43.r2.below).b0
        refine hK.out _ _ (fun _ => hS6) ?_
        clear hK K HC6 hra43 hrn43
        try simp only [Act.put, List.setIfInBounds_toArray, List.set_cons_zero, List.set_cons_succ]
        refine wpAnyK_take (i := 7) (v := .tuple #[.agg #[.slice ra1 bs'.length rc1, .int .i64 m], .int .i64 er]) rfl (by kernel_rfl) (by kernel_rfl) (by kernel_rfl) [] (by kernel_rfl) (by decide) (by kernel_rfl) (by kernel_rfl) (fun _ _ _ h => h) hS6 (.inl ⟨by rfl, fun W hW => ?_⟩) ?_
        · obtain ⟨q0, q1⟩ := hW
          go_simp
        simp only [Act.put, List.setIfInBounds_toArray, List.set_cons_zero, List.set_cons_succ]
        refine wpAnyK_take (i := 8) (v := .agg #[.slice ra1 bs'.length rc1, .int .i64 m]) rfl (by kernel_rfl) (by kernel_rfl) (by kernel_rfl) [] (by kernel_rfl) (by decide) (by kernel_rfl) (by kernel_rfl) (fun _ _ _ h => h) hS6 (.inl ⟨by rfl, fun W hW => ?_⟩) ?_
        · obtain ⟨q0, q1⟩ := hW
          go_simp
        simp only [Act.put, List.setIfInBounds_toArray, List.set_cons_zero, List.set_cons_succ]
        refine wpAnyK_take (i := 9) (v := .int .i64 er) rfl (by kernel_rfl) (by kernel_rfl) (by kernel_rfl) [] (by kernel_rfl) (by decide) (by kernel_rfl) (by kernel_rfl) (fun _ _ _ h => h) hS6 (.inl ⟨by rfl, fun W hW => ?_⟩) ?_
        · obtain ⟨q0, q1⟩ := hW
          go_simp
        simp only [Act.put, List.setIfInBounds_toArray, List.set_cons_zero, List.set_cons_succ]
        have hMx43 := (T43.r2.below.setCell (p := ⟨B37, 0, none⟩) N43.lo (.slice ra1 bs'.length rc1)).setCell (p := ⟨B37, 1, none⟩) N43.lo (.int .i64 m)
        have hO6 := O6.of (u := u0.heap.size) (m := m) (ra1 := ra1) (rc1 := rc1) (bs := bs') (K0 := KA) hus T43.r2 N43.box N43.lo (N43.no _ (by simp)) (N43.no _ (by simp)) AR43
        obtain ⟨e0, e1⟩ := cell2 N43.box
        have e2 := frozen_blk N43.box 0
        have e3 := frozen_blk N43.box 1
        have e4 := blk_lt N43.box
        refine wpAnyK_ready (rs := [11]) (by kernel_rfl) (by simp) ?_
        refine AllReadyK.cons rfl (fun K hK => ?_) AllReadyK.nil
        go_simp
        refine hK.out _ _ (fun _ => cell2 (HF0.out.bel hMx43).b0) ?_
        clear hK K
        try simp only [Act.put, List.setIfInBounds_toArray, List.set_cons_zero, List.set_cons_succ]
        refine wpAnyK_ready (rs := [12]) (by kernel_rfl) (by simp) ?_
        refine AllReadyK.cons rfl (fun K hK => ?_) AllReadyK.nil
        go_simp
        refine hK.out _ _ (fun h => absurd (show true = false from h) (by decide)) ?_
        clear hK K
        try simp only [Act.put, List.setIfInBounds_toArray, List.set_cons_zero, List.set_cons_succ]
        refine wpAnyK_done (by kernel_rfl) ?_ _
        go_wp2_with fail
        go_meet
        exact ⟨B37, ra1, rc1, rfl, rfl, hO6, na1, sp1, cl1, cm1⟩
    case rest =>
      obtain ⟨B6, ra1, rc1, rfl, rfl, hO6, na1, sp1, cl1, cm1⟩ := hcut
      have HO6 := Lib.hid hO6
      have NA1 := Lib.hid (And.intro na1 (And.intro sp1 (And.intro cl1 cm1)))
      clear hO6 na1 sp1 cl1 cm1
      have hb7 := (Below.refl _ wc).alloc (Nat.le_refl _) (.cells #[.slice a9 z.xa.length c9, .slice b9 z.xb.length d9] 29)
      have hk7 := alloc_blk_new wc (.cells #[.slice a9 z.xa.length c9, .slice b9 z.xb.length d9] 29)
      obtain ⟨W7, hW7⟩ : ∃ W, W = wc.alloc (.cells #[.slice a9 z.xa.length c9, .slice b9 z.xb.length d9] 29) := ⟨_, rfl⟩
      obtain ⟨K7, hK7⟩ : ∃ K7, K7 = More K0 W0 W7 := ⟨_, rfl⟩
      rw [← hW7] at hb7 hk7
      have hb07 : Below W0.heap.size W0 W7 := HO6.out.r2.below.trans (hb7.mono HO6.out.r2.below.size)
      have hq7 := HQ0.out.grow hb07
      rw [← hK7] at hq7
      have K7n : ∀ q, W0.heap.size ≤ q → q < W7.heap.size → K7 q := fun q g1 g2 => by rw [hK7]; exact .inr ⟨g1, g2⟩
      have K70 : Hid (∀ q, K0 q → K7 q) := Lib.hid (fun q hq => by rw [hK7]; exact .inl hq)
      have K7s : Hid (∀ q, K7 q → w.heap.size ≤ q) := Lib.hid (fun q hq => by
        rw [hK7] at hq
        rcases hq with hq | hq
        · exact HK0.out q hq
        · have := HQ0.out.below.size; omega)
      obtain ⟨_, hA7, hAn⟩ := row_arg HO6.out.r2.ra
      obtain ⟨_, hB7, hBn⟩ := row_arg HO6.out.r2.rb
      have hs7 : wc.heap.size < W7.heap.size := by rw [hW7]; simp
      have hws := HO6.out.r2.below.size
      have HP7 := Lib.hid (HQP.out w W7 K7 p (some ⟨wc.heap.size, 0, none⟩) 2 hq7 (parts_two hk7 (.inr (K7n _ hws hs7)) ((hA7.below hb7).mono fun q g1 g2 => .inr (K7n q g2 g1)) ((hB7.below hb7).mono fun q g1 g2 => .inr (K7n q g2 g1)) hAn hBn))
      have hown : ∀ q, (Value.slice a9 z.xa.length c9).ownBlock = some q → W0.heap.size ≤ q ∧ q < wc.heap.size := fun q hq => HO6.out.r2.ra.lt q hq
      have HOWN := Lib.hid hown
      have F7 := Lib.hid (HF0.out.bel hb07)
      have B67 := Lib.hid ((hb7.block _ (blk_lt HO6.out.box)).trans HO6.out.box)
      have hB6 : K7 B6 := K7n _ HO6.out.lo (by have := blk_lt HO6.out.box; omega)
      have R7 := Lib.hid (row_bel HO6.out.r2.ra hb7)
      have A7 := Lib.hid ((HO6.out.arg.below hb7).mono (U := fun q => K7 q ∧ (Value.slice a9 z.xa.length c9).ownBlock ≠ some q ∧ q ≠ u0.heap.size + 2 ∧ (Ka q ∨ u0.heap.size ≤ q)) (fun q g1 g2 => by
        rcases g2 with g2 | g2
        · exact ⟨K70.out q (HKA.out q g2.1).1, fun e => by have := (hown q e).1; omega, by have := g2.2; omega, .inl (HKA.out q g2.1).2⟩
        · exact ⟨K7n q g2.1 g1, g2.2, by have := g2.1; omega, .inr (by have := g2.1; omega)⟩))
      have HE7 := Lib.hid hW7
      have H07 := Lib.hid hb07
      have K7N := Lib.hid K7n
      clear hb7 hk7 hW7 hK7 hb07 hq7 K7n hA7 hAn hB7 hBn hown
      go_wp2_with (go_at_call 11; fail)
      rw [← HE7.out]
      refine HP7.out.mono ?_
      rintro e w8 ⟨rfl, hq8, hm8⟩
      have F8 := Lib.hid (F7.out.mod hm8 (fun q g1 g2 e => e.1 (K70.out q (HKB.out q g1 g2))))
      have B8 := Lib.hid ((hm8.block _ (blk_lt B67.out) (fun e => e.1 hB6)).trans B67.out)
      have HRW := Lib.hid (hm8.row R7.out (fun q hq e => e.1 (K7N.out q (HOWN.out q hq).1 (by have := (HOWN.out q hq).2; omega))))
      have A8 := Lib.hid (A7.out.mod hm8 (fun q hq e => e.1 hq.1))
      have Q8 := Lib.hid hq8
      have M8 := Lib.hid hm8
      have hs8 := hm8.size
      clear hq8 hm8 HP7 F7 B67 R7 A7
      go_wp2_with fail
      go_loopg [14] z.xa.length (fun gk v wr => ∃ i : Nat, v = .int .i64 i ∧ i ≤ z.xa.length ∧ gk = z.xa.length - i ∧ ∃ zs : List Int, wr.ownsRow W0.heap.size 5 1 (.slice a9 z.xa.length c9) z.xa.length (zs.map (.int .u8)) ∧ Mod (fun q => (Value.slice a9 z.xa.length c9).ownBlock = some q) w8 wr)
      case atStart => exact ⟨0, rfl, by omega, rfl, _, HRW.out, Mod.refl _ _⟩
      case round =>
        obtain ⟨i, rfl, hi, hgk, zs, hrow, hmr⟩ := hrel
        have HG := Lib.hid hgk
        have HROW := Lib.hid hrow
        have HMR := Lib.hid hmr
        clear hgk hmr
        by_cases hlt : i < z.xa.length
        · obtain ⟨b, cap', cur, hv, _⟩ := row_some hrow (by omega)
          injection hv with v1 v2 v3
          subst v1
          clear v2 v3
          obtain ⟨y1, y2, y3, y4⟩ := row_store hrow i hlt
          have HY4 := Lib.hid y4
          obtain ⟨z1, hz1⟩ : ∃ z1, z1 = zs.getD i 0 := ⟨_, rfl⟩
          rw [← hz1] at y1
          clear hrow y4 hz1
          go_wp2_with fail
          go_roundg (z.xa.length - (i + 1))
          case measure => have := HG.out; omega
          case rel => exact ⟨i + 1, by go_num, by omega, rfl, _, HY4.out _, HMR.out.trans (Mod.setCell (S := fun q => (Value.slice (some ⟨b, 0, none⟩) z.xa.length c9).ownBlock = some q) (Mod.refl _ _) ⟨b, i, none⟩ (.inl rfl) _) (fun _ _ e => e)⟩
        · obtain rfl : i = z.xa.length := by omega
          clear hrow
          have hWs : u0.heap.size + 2 < W0.heap.size := hl0
          have hqr := Q8.out.turn (HMR.out.mono (T := K7) (fun q _ hq => K7N.out q (HOWN.out q hq).1 (by have := (HOWN.out q hq).2; omega))) K7s.out
          have FR := Lib.hid (F8.out.mod HMR.out (fun q g1 g2 e => by have := (HOWN.out q e).1; omega))
          have BR := Lib.hid ((HMR.out.block _ (blk_lt B8.out) (fun e => HO6.out.na _ e rfl)).trans B8.out)
          have AR := Lib.hid (A8.out.mod HMR.out (fun q hq e => hq.2.1 e))
          have MR : Hid (Mod (fun q => ¬ K q ∧ w.heap.size ≤ q) u0 wr) := Lib.hid (((Mod.of_below (HB0.out.trans (H07.out.mono HB0.out.size)) _).trans M8.out (fun q hq e => ⟨fun e' => e.1 (K70.out q (HK1.out q e')), e.2⟩)).trans HMR.out (fun q hq e => by have := (HOWN.out q e).1; omega))
          obtain ⟨K9, hK9⟩ : ∃ K9, K9 = More K7 w8 wr := ⟨_, rfl⟩
          rw [← hK9] at hqr
          have K79 : Hid (∀ q, K7 q → K9 q) := Lib.hid (fun q hq => by rw [hK9]; exact .inl hq)
          have K9s : Hid (∀ q, K9 q → w.heap.size ≤ q) := Lib.hid (fun q hq => by
            rw [hK9] at hq
            rcases hq with hq | hq
            · exact K7s.out q hq
            · have := Q8.out.below.size; omega)
          have QR := Lib.hid hqr
          have hB6u : B6 ≠ u0.heap.size + 2 := by have := HO6.out.lo; omega
          clear hqr hK9 HRW Q8 M8 A8 B8 F8 H07
          go_wp2_with fail
          refine wp_region_K 8 (fun W => W.cell? ⟨B6, 0, none⟩ = some (.slice ra1 bs'.length rc1) ∧ W.cell? ⟨B6, 1, none⟩ = some (.int .i64 m)) (by kernel_rfl) ?_
          obtain ⟨wd, hwd⟩ : ∃ W, W = wr.drew := ⟨_, rfl⟩
          rw [← hwd]
          have HWD := Lib.hid hwd
          have F4 := Lib.hid (FR.out.bel (W' := wd) (by rw [hwd]; exact Below.drewN' wr 1))
          have Q4 := Lib.hid (QR.out.drewN 1)
          have A4 := Lib.hid (AR.out.drewN 1)
          have M4 := Lib.hid (MR.out.drewN 1)
          rw [show wr.drewN 1 = wr.drew from rfl, ← hwd] at Q4 A4 M4
          have B4 : Hid (wd.heap[B6]? = some (.cells #[.slice ra1 bs'.length rc1, .int .i64 m] 39 (0, 0))) := Lib.hid (by rw [hwd]; exact BR.out)
          clear hwd
          have hS0 := cell2 B4.out
          have hl4 := blk_lt B4.out
          refine wpAnyK_take (i := 0) (v := .pointer (some ⟨p, 0, none⟩)) rfl (by kernel_rfl) (by kernel_rfl) (by kernel_rfl) [] (by kernel_rfl) (by decide) (by kernel_rfl) (by kernel_rfl) (fun _ _ _ h => h) hS0 (.inl ⟨by rfl, fun W hW => ?_⟩) ?_
          · obtain ⟨q0, q1⟩ := hW
            go_simp
          simp only [Act.put, List.setIfInBounds_toArray, List.set_cons_zero, List.set_cons_succ]
          refine wpAnyK_take (i := 1) (v := .agg #[.slice ra1 bs'.length rc1, .int .i64 m]) rfl (by kernel_rfl) (by kernel_rfl) (by kernel_rfl) [] (by kernel_rfl) (by decide) (by kernel_rfl) (by kernel_rfl) (fun _ _ _ h => h) hS0 (.inl ⟨by rfl, fun W hW => ?_⟩) ?_
          · obtain ⟨q0, q1⟩ := hW
            go_simp
          simp only [Act.put, List.setIfInBounds_toArray, List.set_cons_zero, List.set_cons_succ]
          refine wpAnyK_take (i := 2) (v := .int .i64 er) rfl (by kernel_rfl) (by kernel_rfl) (by kernel_rfl) [] (by kernel_rfl) (by decide) (by kernel_rfl) (by kernel_rfl) (fun _ _ _ h => h) hS0 (.inl ⟨by rfl, fun W hW => ?_⟩) ?_
          · obtain ⟨q0, q1⟩ := hW
            go_simp
          simp only [Act.put, List.setIfInBounds_toArray, List.set_cons_zero, List.set_cons_succ]
          refine wpAnyK_take (i := 4) (v := .int .i64 er) rfl (by kernel_rfl) (by kernel_rfl) (by kernel_rfl) [] (by kernel_rfl) (by decide) (by kernel_rfl) (by kernel_rfl) (fun _ _ _ h => h) hS0 (.inl ⟨by rfl, fun W hW => ?_⟩) ?_
          · obtain ⟨q0, q1⟩ := hW
            go_simp
          simp only [Act.put, List.setIfInBounds_toArray, List.set_cons_zero, List.set_cons_succ]
          refine wpAnyK_ready (rs := [3]) (by kernel_rfl) (by simp) ?_
          refine AllReadyK.cons rfl (fun K hK => ?_) AllReadyK.nil
          go_simp
          refine (HNum.out _ _).mono ?_
          rintro e w' ⟨rfl, rfl⟩
          refine hK.out _ _ (fun _ => hS0) ?_
          clear hK K
          try simp only [Act.put, List.setIfInBounds_toArray, List.set_cons_zero, List.set_cons_succ]
          refine wpAnyK_take (i := 5) (v := .bool true) rfl (by kernel_rfl) (by kernel_rfl) (by kernel_rfl) [] (by kernel_rfl) (by decide) (by kernel_rfl) (by kernel_rfl) (fun _ _ _ h => h) hS0 (.inl ⟨by rfl, fun W hW => ?_⟩) ?_
          · obtain ⟨q0, q1⟩ := hW
            go_simp
          simp only [Act.put, List.setIfInBounds_toArray, List.set_cons_zero, List.set_cons_succ]
          refine wpAnyK_ready (rs := [6]) (by kernel_rfl) (by simp) ?_
          refine AllReadyK.cons rfl (fun K hK => ?_) AllReadyK.nil
          go_simp
          refine hK.out _ _ (fun _ => hS0) ?_
          clear hK K
          try simp only [Act.put, List.setIfInBounds_toArray, List.set_cons_zero, List.set_cons_succ]
          have B7 := Lib.hid F4.out.b2
          obtain ⟨c6, c7⟩ := cell2 B7.out
          have f6 := frozen_blk B7.out 0
          have f7 := frozen_blk B7.out 1
          have l7 := blk_lt B7.out
          have hmB := ((Mod.refl (fun q => q = u0.heap.size + 2) wd).setCell ⟨u0.heap.size + 2, 0, none⟩ (.inl rfl) (.slice ra1 bs'.length rc1)).setCell ⟨u0.heap.size + 2, 1, none⟩ (.inl rfl) (.int .i64 m)
          have hS2 := cell2 ((hmB.block B6 hl4 hB6u).trans B4.out)
          refine wpAnyK_ready (rs := [7]) (by kernel_rfl) (by simp) ?_
          refine AllReadyK.cons rfl (fun K hK => ?_) AllReadyK.nil
          go_simp
          refine hK.out _ _ (fun _ => hS2) ?_
          clear hK K
          try simp only [Act.put, List.setIfInBounds_toArray, List.set_cons_zero, List.set_cons_succ]
          refine wpAnyK_ready (rs := [8]) (by kernel_rfl) (by simp) ?_
          refine AllReadyK.cons rfl (fun K hK => ?_) AllReadyK.nil
          go_simp
          refine hK.out _ _ (fun h => absurd (show true = false from h) (by decide)) ?_
          clear hK K
          try simp only [Act.put, List.setIfInBounds_toArray, List.set_cons_zero, List.set_cons_succ]
          refine wpAnyK_done (by kernel_rfl) ?_ _
          have hbk := setCell_blk (setCell_blk B7.out 0 (.slice ra1 bs'.length rc1)) 1 (.int .i64 m)
          obtain ⟨w5, hw5⟩ : ∃ W, W = (wd.setCell ⟨u0.heap.size + 2, 0, none⟩ (.slice ra1 bs'.length rc1)).setCell ⟨u0.heap.size + 2, 1, none⟩ (.int .i64 m) := ⟨_, rfl⟩
          try rw [show u0.heap.size + 1 + 1 = u0.heap.size + 2 from rfl]
          rw [← hw5] at hbk hmB ⊢
          have d0 : w5.cell? ⟨u0.heap.size + 2, 0, none⟩ = some (.slice ra1 bs'.length rc1) := cell_blk hbk 0 _ rfl
          have d1 : w5.cell? ⟨u0.heap.size + 2, 1, none⟩ = some (.int .i64 m) := cell_blk hbk 1 _ rfl
          have HMB := Lib.hid hmB
          clear hbk hmB hw5
          go_wp2
          refine bodyPost_ret (v := .tuple #[.pointer (some ⟨p, 0, none⟩), .agg #[.slice ra1 bs'.length rc1, .int .i64 m], .bool true]) (by simp [results, Try.f15, go_sem, *]) rfl ?_
          obtain ⟨na1, sp1, cl1, cm1⟩ := NA1.out
          exact acted_fin (K3 := K9) (fun q hq => K79.out q (K70.out q (HK1.out q hq))) K9s.out Q4.out (A4.out.mono fun q _ hq => ⟨⟨K79.out q hq.1, hq.2.2.2⟩, hq.2.2.1⟩) na1 sp1 cl1 cm1 (K79.out _ (K70.out _ (HKB.out _ (by omega) (by omega)))) (by omega) M4.out HMB.out (fun hx => HBY.out hx HZ.out.ia HZ.out.ib)
end Go.Proofs.Ytkikdpfhcepeaaa
