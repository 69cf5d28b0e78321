/-
  A queue of frames: Clear.
-/
import Derived.Test.YtneeagabmdpjgaaOg
import Derived.Deep.RegionHeld3
namespace Go.Proofs.Ytneeagabmdpjgaa
open Go.RowKit
set_option linter.unusedVariables false
set_option linter.unusedSimpArgs false

section
variable {w wr : World} {K : Nat → Prop} {p : Nat} {m part : Int} {fs bs : List Int}
set_option maxHeartbeats 3200000 in
theorem OS.clear (h : OS w K p m fs part bs wr) (n : Int) (hn : (fs.length : Int) - (if 0 < part then 1 else 0) = n) :
    Calls Try.prog 13 #[.pointer (some ⟨p, 0, none⟩)] wr fun e w' => e = .returned (.tuple #[.int .i64 n, .int .i64 bs.length]) ∧ OS w K p m [] 0 [] w' ∧ Mod (fun k => ¬ K k ∧ w.heap.size ≤ k) wr w' := by
  have HF := Lib.hid (fun k => (h.drewN k).frames)
  have HL := Lib.hid (fun k => (h.drewN k).len)
  have HF0 := Lib.hid h.frames
  obtain ⟨hm0, hm1, hbm⟩ := h.bounds
  have hfl := h.inv.len
  have hp0 := h.inv.p0
  have hfp : 0 < part → 0 < fs.length := fun hp => by
    rcases Nat.eq_zero_or_pos fs.length with h0 | h0
    · have := h.inv.nil (List.eq_nil_of_length_eq_zero h0); omega
    · exact h0
  have HH := Lib.hid h
  obtain ⟨sv, g, q, vs, h1, h2, h3, h4, h5, h6⟩ := h.at_
  have HN := Lib.hid (none_o p q wr h1.c3)
  have H1 := Lib.hid h1
  have H5 := Lib.hid h5
  have H6 := Lib.hid h6
  obtain ⟨F, hF⟩ : ∃ F, F = fs.length := ⟨_, rfl⟩
  obtain ⟨B, hB⟩ : ∃ B, B = bs.length := ⟨_, rfl⟩
  rw [← hF] at HF HF0 hfl hfp hn
  rw [← hB] at HL hfl hbm ⊢
  have HBl := Lib.hid hB
  clear h h1 h2 h3 h4 h5 h6 hF hB
  have a0 : ∀ k, ((wr.drewN k).alloc (.cells #[.int .i64 0, .int .i64 0] 73)).heap[wr.heap.size]? = some (.cells #[.int .i64 0, .int .i64 0] 73 (0, 0)) := fun k => alloc_blk_new (wr.drewN k) _
  have a1 : ∀ k, ((wr.drewN k).alloc (.cells #[.int .i64 0, .int .i64 0] 73)).cell? ⟨wr.heap.size, 0, none⟩ = some (.int .i64 0) := fun k => cell_blk (a0 k) 0 _ rfl
  have a2 : ∀ k, ((wr.drewN k).alloc (.cells #[.int .i64 0, .int .i64 0] 73)).frozen? ⟨wr.heap.size, 0, none⟩ = false := fun k => frozen_blk (a0 k) 0
  have a3 : ∀ k v, (((wr.drewN k).alloc (.cells #[.int .i64 0, .int .i64 0] 73)).setCell ⟨wr.heap.size, 0, none⟩ v).cell? ⟨wr.heap.size, 1, none⟩ = some (.int .i64 0) := fun k v => cell_blk (setCell_blk (a0 k) 0 v) 1 _ rfl
  have a4 : ∀ k v, (((wr.drewN k).alloc (.cells #[.int .i64 0, .int .i64 0] 73)).setCell ⟨wr.heap.size, 0, none⟩ v).frozen? ⟨wr.heap.size, 1, none⟩ = false := fun k v => frozen_blk (setCell_blk (a0 k) 0 v) 1
  have A0 := Lib.hid a0
  clear a0
  go_enter Try.func13, Try.ntmps13
  go_upto_region 4 with (first | (go_at_call 28; refine HN.out.mono ?_; rintro e w' ⟨rfl, rfl⟩) | (go_at_call 17; refine HF0.out.mono ?_; rintro e w' ⟨rfl, k1, rfl⟩) | (go_at_call 15; refine (HL.out _).mono ?_; rintro e w' ⟨rfl, k2, rfl⟩))
  obtain ⟨w3, hw3⟩ : ∃ W, W = (((wr.drewN (k1 + k2)).alloc (.cells #[.int .i64 0, .int .i64 0] 73)).setCell ⟨wr.heap.size, 0, none⟩ (.int .i64 F)).setCell ⟨wr.heap.size, 1, none⟩ (.int .i64 B) := ⟨_, rfl⟩
  have hb3 : Below wr.heap.size wr w3 := by
    rw [hw3]
    exact (((Below.drewN' wr (k1 + k2)).alloc (Nat.le_refl _) _).setCell (p := ⟨wr.heap.size, 0, none⟩) (Nat.le_refl _) _).setCell (p := ⟨wr.heap.size, 1, none⟩) (Nat.le_refl _) _
  have k3 : w3.heap[wr.heap.size]? = some (.cells #[.int .i64 F, .int .i64 B] 73 (0, 0)) := by
    rw [hw3, setCell_blk (setCell_blk (A0.out _) 0 _) 1 _]; rfl
  rw [← hw3]
  have HB3 := Lib.hid hb3
  have K3 := Lib.hid k3
  have hq3 := H1.out.below hb3
  have c2 := hq3.c2
  obtain ⟨Z, hZ⟩ : ∃ Z, Z = wr.heap.size := ⟨_, rfl⟩
  rw [← hZ] at K3 ⊢
  have HZ := Lib.hid hZ
  clear hb3 k3 hq3 hw3 a1 a2 a3 a4 hZ HF HL HF0 HN
  obtain ⟨bp, hbp⟩ : ∃ b, decide (0 < part) = b := ⟨_, rfl⟩
  have HBP := Lib.hid hbp
  go_upto_if 17 with fail
  clear hbp c2
  go_cut [] from 18 to 21 (fun wx => Below wr.heap.size wr wx ∧ wx.heap[Z]? = some (.cells #[.int .i64 n, .int .i64 B] 73 (0, 0)))
  case first =>
    have z0 := cell_blk K3.out 0 _ rfl
    have z1 := frozen_blk K3.out 0
    have z2 := blk_lt K3.out
    cases bp with
    | true =>
      have hp : 0 < part := by simpa using HBP.out
      have hF := hfp hp
      rw [if_pos hp] at hn
      have hn' : n = (F : Int) - 1 := hn.symm
      subst hn'
      clear hn
      go_wp2
      go_meet
      refine ⟨HB3.out.setCell (p := ⟨Z, 0, none⟩) (Nat.le_of_eq HZ.out.symm) _, ?_⟩
      rw [setCell_blk K3.out 0 _]; rfl
    | false =>
      have hp : ¬ 0 < part := by simpa using HBP.out
      rw [if_neg hp] at hn
      have hn' : n = (F : Int) := by omega
      subst hn'
      go_wp2
      go_meet
      exact ⟨HB3.out, K3.out⟩
  case rest =>
    obtain ⟨hb4, k4⟩ := hcut
    have HB4 := Lib.hid hb4
    have K4 := Lib.hid k4
    have hq4 := H1.out.below hb4
    have HD : Hid (∀ W, Below wc.heap.size wc W → Calls Try.prog 35 #[.pointer (some ⟨q, 0, none⟩), .int .i64 B] W fun e w' => e = .returned (.tuple #[.int .i64 B, .int .i64 0]) ∧ QS w (More (More (fun k => K k ∨ FP p sv k) wr wc) wc W) q m [] w' ∧ Mod (fun k => ¬ More (More (fun k => K k ∨ FP p sv k) wr wc) wc W k ∧ w.heap.size ≤ k) W w') := Lib.hid (fun W hW => ((H5.out.grow hb4).grow hW).drop B (by omega) B (by rw [HBl.out]; simp [kOf]) [] (by rw [HBl.out]; simp))
    have z1 := cell_blk k4 1 _ rfl
    have c3 := hq4.c3
    have lp := hq4.lt
    clear hb4 k4 hq4 K3 HB3
    go_upto_region 6 with fail
    obtain ⟨wd, hwd⟩ : ∃ W, W = wc.drew := ⟨_, rfl⟩
    have HBd : Hid (Below wc.heap.size wc wd) := Lib.hid (by rw [hwd]; exact Below.drewN' wc 1)
    have hS0 : wd.cell? ⟨p, 3, none⟩ = some (.pointer (some ⟨q, 0, none⟩)) ∧ wd.cell? ⟨Z, 1, none⟩ = some (.int .i64 B) := by rw [hwd]; exact ⟨c3, z1⟩
    refine wp_region_held_drew (S := fun W => W.cell? ⟨p, 3, none⟩ = some (.pointer (some ⟨q, 0, none⟩)) ∧ W.cell? ⟨Z, 1, none⟩ = some (.int .i64 B)) (by kernel_rfl) (by rw [← hwd]; exact hS0) (fun hHeld => ?_)
    rw [← hwd] at hHeld ⊢
    clear hwd hS0 c3 z1
    refine' wpAnyH_take (i := 0) (oi := { dst := some 22, op := Op.move (Operand.tmp 0), type := 25, pos := "outq.go:104", after := #[], guard := none }) (v := ?v1) rfl (by kernel_rfl) (by kernel_rfl) (by kernel_rfl) (fun _ _ _ h => h) (.inl ⟨by first | rfl | simp [Region.wanted, yielded], ?hy1⟩) (by assumption) ?rest1
    case hy1 => (intro W hW; obtain ⟨f1, f2⟩ := hW; go_simp; try with_reducible rfl)
    simp only [Act.put, List.setIfInBounds_toArray, List.set_cons_zero, List.set_cons_succ]
    refine' wpAnyH_take (i := 1) (oi := { dst := some 23, op := Op.nilCheck (Operand.tmp 22), type := 0, pos := "outq.go:104", after := #[{ on := 0, ground := Ground.data }], guard := none }) (v := ?v2) rfl (by kernel_rfl) (by kernel_rfl) (by kernel_rfl) (fun _ _ _ h => h) (.inl ⟨by first | rfl | simp [Region.wanted, yielded], ?hy2⟩) (by assumption) ?rest2
    case hy2 => (intro W hW; obtain ⟨f1, f2⟩ := hW; go_simp; try with_reducible rfl)
    simp only [Act.put, List.setIfInBounds_toArray, List.set_cons_zero, List.set_cons_succ]
    refine' wpAnyH_take (i := 2) (oi := { dst := some 24, op := Op.fieldAddr 63 (Operand.tmp 23) 1, type := 0, pos := "outq.go:104", after := #[{ on := 1, ground := Ground.data }], guard := none }) (v := ?v3) rfl (by kernel_rfl) (by kernel_rfl) (by kernel_rfl) (fun _ _ _ h => h) (.inl ⟨by first | rfl | simp [Region.wanted, yielded], ?hy3⟩) (by assumption) ?rest3
    case hy3 => (intro W hW; obtain ⟨f1, f2⟩ := hW; go_simp; try with_reducible rfl)
    simp only [Act.put, List.setIfInBounds_toArray, List.set_cons_zero, List.set_cons_succ]
    refine' wpAnyH_take (i := 3) (oi := { dst := some 25, op := Op.load 61 (Operand.tmp 24), type := 61, pos := "outq.go:104", after := #[{ on := 2, ground := Ground.data }], guard := none }) (v := ?v4) rfl (by kernel_rfl) (by kernel_rfl) (by kernel_rfl) (fun _ _ _ h => h) (.inl ⟨by first | rfl | simp [Region.wanted, yielded], ?hy4⟩) (by assumption) ?rest4
    case hy4 => (intro W hW; obtain ⟨f1, f2⟩ := hW; go_simp; try with_reducible rfl)
    simp only [Act.put, List.setIfInBounds_toArray, List.set_cons_zero, List.set_cons_succ]
    refine' wpAnyH_take (i := 4) (oi := { dst := some 26, op := Op.indexAddr 73 (Operand.tmp 4) (Operand.const (Value.int IntKind.i64 1)), type := 0, pos := "outq.go:104", after := #[], guard := none }) (v := ?v5) rfl (by kernel_rfl) (by kernel_rfl) (by kernel_rfl) (fun _ _ _ h => h) (.inl ⟨by first | rfl | simp [Region.wanted, yielded], ?hy5⟩) (by assumption) ?rest5
    case hy5 => (intro W hW; obtain ⟨f1, f2⟩ := hW; go_simp; try with_reducible rfl)
    simp only [Act.put, List.setIfInBounds_toArray, List.set_cons_zero, List.set_cons_succ]
    refine' wpAnyH_take (i := 5) (oi := { dst := some 27, op := Op.load 3 (Operand.tmp 26), type := 3, pos := "outq.go:104", after := #[{ on := 4, ground := Ground.data }], guard := none }) (v := ?v6) rfl (by kernel_rfl) (by kernel_rfl) (by kernel_rfl) (fun _ _ _ h => h) (.inl ⟨by first | rfl | simp [Region.wanted, yielded], ?hy6⟩) (by assumption) ?rest6
    case hy6 => (intro W hW; obtain ⟨f1, f2⟩ := hW; go_simp; try with_reducible rfl)
    simp only [Act.put, List.setIfInBounds_toArray, List.set_cons_zero, List.set_cons_succ]
    refine wpAnyH_ready (rs := [6]) (by kernel_rfl) (by simp) ?_
    refine AllReadyH.cons (o := { dst := some 28, op := Op.call { callee := Callee.value (Operand.func 35), args := #[Operand.tmp 25, Operand.tmp 27], argTypes := #[61, 3] }, type := 74, pos := "outq.go:104", after := #[{ on := 3, ground := Ground.data }, { on := 5, ground := Ground.data }], guard := none }) rfl (fun KK hK => ?_) (AllReadyH.nil)
    try simp only [List.getElem_toArray, List.getElem_cons_succ, List.getElem_cons_zero]
    go_simp
    refine (HD.out wd HBd.out).mono ?_
    rintro e w5 ⟨rfl, hq5, hm5⟩
    have hm5' : Mod (fun k => ¬ More (fun k => K k ∨ FP p sv k) wr wc k ∧ w.heap.size ≤ k) wc w5 := (Mod.of_below HBd.out _).trans (hm5.mono fun k _ e => ⟨fun e' => e.1 (.inl e'), e.2⟩) (fun _ _ e => e)
    have ha5 := (H1.out.below HB4.out).mod hm5' (fun k hf e => e.1 (.inl (.inr hf)))
    have kz5 := (hm5'.block Z (blk_lt K4.out) (fun e => e.1 (.inr ⟨Nat.le_of_eq HZ.out.symm, blk_lt K4.out⟩))).trans K4.out
    have HQ5 := Lib.hid (And.intro hq5 hm5')
    have hSn : w5.cell? ⟨p, 3, none⟩ = some (.pointer (some ⟨q, 0, none⟩)) ∧ w5.cell? ⟨Z, 1, none⟩ = some (.int .i64 B) := ⟨ha5.c3, cell_blk kz5 1 _ rfl⟩
    clear hq5 hm5 hm5' ha5 kz5
    refine hK.out _ _ (by assumption) (fun hHeld => ?_)
    clear hK KK
    try simp only [Act.put, List.setIfInBounds_toArray, List.set_cons_zero, List.set_cons_succ]
    refine wpAnyH_done (by kernel_rfl) ?_ _
    obtain ⟨hq5, hm5'⟩ := HQ5.out
    have ha5 := (H1.out.below HB4.out).mod hm5' (fun k hf e => e.1 (.inl (.inr hf)))
    have kz5 := (hm5'.block Z (blk_lt K4.out) (fun e => e.1 (.inr ⟨Nat.le_of_eq HZ.out.symm, blk_lt K4.out⟩))).trans K4.out
    have hpZ : p ≠ Z := by have := H1.out.lt; have := HZ.out; omega
    have s0 := ha5.c0
    have s1 := ha5.fz 0
    have s2 := ha5.lt
    have u1 := cell_blk (setCell_blk ha5.blk 0 (.slice none 0 0)) 1 _ rfl
    have u2 := frozen_blk (setCell_blk ha5.blk 0 (.slice none 0 0)) 1
    have v1 := cell_blk (setCell_blk (setCell_blk ha5.blk 0 (.slice none 0 0)) 1 (.int .i64 0)) 2 _ rfl
    have v2 := frozen_blk (setCell_blk (setCell_blk ha5.blk 0 (.slice none 0 0)) 1 (.int .i64 0)) 2
    obtain ⟨w6, hw6⟩ : ∃ W, W = ((w5.setCell ⟨p, 0, none⟩ (.slice none 0 0)).setCell ⟨p, 1, none⟩ (.int .i64 0)).setCell ⟨p, 2, none⟩ (.int .i64 0) := ⟨_, rfl⟩
    have hm6 : Mod (fun k => k = p) w5 w6 := by
      rw [hw6]
      exact (((Mod.refl (fun k => k = p) w5).setCell ⟨p, 0, none⟩ (.inl rfl) _).setCell ⟨p, 1, none⟩ (.inl rfl) _).setCell ⟨p, 2, none⟩ (.inl rfl) _
    have hb6 : w6.heap[p]? = some (.cells #[.slice none 0 0, .int .i64 0, .int .i64 0, .pointer (some ⟨q, 0, none⟩), .int .i64 m] 63 (0, 0)) := by
      rw [hw6, setCell_blk (setCell_blk (setCell_blk ha5.blk 0 _) 1 _) 2 _]; rfl
    have kz6 := (hm6.block Z (blk_lt kz5) (fun e => hpZ e.symm)).trans kz5
    have HM5 := Lib.hid hm5'
    have HM6 := Lib.hid hm6
    have HB6 := Lib.hid hb6
    have KZ6 := Lib.hid kz6
    have E6 := Lib.hid hw6
    clear hq5 hm5' ha5 kz5 hm6 hb6 kz6 hw6 lp HD hHeld hSn
    go_upto_region 8 with fail
    rw [← E6.out]
    clear s0 s1 s2 u1 u2 v1 v2
    have z0 := cell_blk KZ6.out 0 _ rfl
    have z1 := cell_blk KZ6.out 1 _ rfl
    have z2 := blk_lt KZ6.out
    go_region
    all_goals
      go_wp2
      refine bodyPost_ret (v := .tuple #[.int .i64 n, .int .i64 B]) (by simp [results, Try.results13, go_sem, *]) rfl ⟨rfl, ?_⟩
      have hs4 := HB4.out.size
      have hs5 := HM5.out.size
      have hs6 := HM6.out.size
      have hpw := H1.out.lt
      have hplo := H1.out.lo
      have hq6 := HQ5.out.1.turn2 HM6.out (fun k e => .inl (.inl (.inr (.inl e)))) (fun k e => by omega)
      have hmm := (Mod.of_below HB4.out (fun k => ¬ K k ∧ w.heap.size ≤ k)).trans (HM5.out.mono fun k _ e => ⟨fun e' => e.1 (.inl (.inl e')), e.2⟩) (fun _ _ e => e) |>.trans HM6.out (fun k _ e => ⟨fun e' => H6.out k e' (.inl e), by omega⟩)
      refine ⟨OS.drewN ⟨⟨.slice none 0 0, 0, q, [], ⟨HB6.out, World.ownsRow_nil _ _ _ _, (fun k e => by cases e), hplo⟩, Nat.le_refl _, by simp, rfl, hq6.mono fun k hk => ?_, fun k hk hf => ?_⟩, fun k hk => by have := HH.out.klt k hk; omega, OInv.nil'⟩ _, hmm.drewN _⟩
      · rcases hk with hk | hf
        · exact .inl (.inl (.inl (.inl hk)))
        · rcases hf with rfl | hf
          · exact .inl (.inl (.inl (.inr (.inl rfl))))
          · cases hf
      · rcases hf with rfl | hf
        · exact H6.out _ hk (.inl rfl)
        · cases hf
end
end Go.Proofs.Ytneeagabmdpjgaa
