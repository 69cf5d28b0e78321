/-
  The document's timers: who stands ahead, when one is due.
-/
import Derived.Test.YtnmbhcekcdicnaaWe
import Derived.Test.YtnmbhcekcdicnaaOrd
namespace Go.Proofs.Ytnmbhcekcdicnaa
open Go.RowKit
set_option linter.unusedVariables false
set_option linter.unusedSimpArgs false

/-- The document's rows, in a block that may be (A). -/
structure DR (A : Nat → Prop) (W : World) (bo : Option Addr) (m bc : Nat) (l : List Rw) : Prop where
  len : m = l.length
  cap : m ≤ bc
  at_ : 0 < m → ∃ b off, bo = some ⟨b, off, none⟩ ∧ A b ∧ b < W.heap.size ∧ ∀ j, j < m → W.cell? ⟨b, off + j * 3, none⟩ = some (.int .i64 (rAt l j).k) ∧ W.cell? ⟨b, off + j * 3 + 1, none⟩ = some (.int .u64 (rAt l j).i) ∧ W.cell? ⟨b, off + j * 3 + 2, none⟩ = some (.int .u64 (rAt l j).d)
  ty : 0 < m → ∃ b off cur, bo = some ⟨b, off, none⟩ ∧ W.heap[b]? = some (.cells cur 46 (0, 0))
theorem DR.keep {A A' : Nat → Prop} {W W' : World} {bo : Option Addr} {m bc : Nat} {l : List Rw} (h : DR A W bo m bc l) (hs : W.heap.size ≤ W'.heap.size) (ha : ∀ q, A q → q < W.heap.size → A' q) (hb : ∀ q, A q → q < W.heap.size → W'.heap[q]? = W.heap[q]?) : DR A' W' bo m bc l :=
  ⟨h.len, h.cap, fun hp => by
    obtain ⟨b, off, e, h1, h2, h3⟩ := h.at_ hp
    have hc : ∀ j, W'.cell? ⟨b, j, none⟩ = W.cell? ⟨b, j, none⟩ := fun j => World.cell?_of_block (w := W) (hb b h1 h2)
    exact ⟨b, off, e, ha b h1 h2, by omega, fun j hj => ⟨(hc _).trans (h3 j hj).1, (hc _).trans (h3 j hj).2.1, (hc _).trans (h3 j hj).2.2⟩⟩, fun hp => by
    obtain ⟨b, off, e, h1, h2, h3⟩ := h.at_ hp
    obtain ⟨b', off', cur, e', hc⟩ := h.ty hp
    have hbb : b' = b := by rw [e] at e'; cases e'; rfl
    subst hbb
    exact ⟨b', off', cur, e', (hb b' h1 h2).trans hc⟩⟩
theorem DR.below {A : Nat → Prop} {W W' : World} {bo : Option Addr} {m bc : Nat} {l : List Rw} (h : DR A W bo m bc l) (hb : Below W.heap.size W W') : DR A W' bo m bc l :=
  h.keep hb.size (fun _ e _ => e) fun q _ hq => hb.block q hq
theorem DR.nil (A : Nat → Prop) (W : World) : DR A W none 0 0 [] := ⟨rfl, Nat.le_refl _, fun h => by omega, fun h => by omega⟩
theorem tmEq_is (r : Rw) (k i : Int) : tmEq r.k r.i k i = r.is k i := by
  unfold tmEq Rw.is
  rw [Bool.eq_iff_iff]
  simp
theorem take_succ_rAt {l : List Rw} {j : Nat} (h : j < l.length) : l.take (j + 1) = l.take j ++ [rAt l j] := by
  rw [List.take_succ_eq_append_getElem h]
  unfold rAt
  rw [List.getD_eq_getElem?_getD, List.getElem?_eq_getElem h]
  rfl
theorem rAt_mem {l : List Rw} {j : Nat} (h : j < l.length) : rAt l j ∈ l := List.mem_of_getElem? (rAt_some h)
theorem dueOf_at {l : List Rw} {j : Nat} (h : j < l.length) {k i : Int} (hn : ∀ x ∈ l.take j, x.is k i = false) (hi : (rAt l j).is k i = true) : dueOf l k i = some (rAt l j).d := by
  unfold dueOf
  have e : l = l.take j ++ (rAt l j :: l.drop (j + 1)) := by
    have h1 := List.take_append_drop (j + 1) l
    rw [take_succ_rAt h] at h1
    rw [List.append_assoc] at h1
    exact h1.symm
  have hf : (l.take j).find? (fun r => r.is k i) = none := List.find?_eq_none.2 fun x hx => by rw [hn x hx]; simp
  have : l.find? (fun r => r.is k i) = some (rAt l j) := by
    conv => lhs; rw [e]
    rw [List.find?_append, hf, List.find?_cons, hi]
    rfl
  rw [this]
  rfl
theorem dueOf_not {l : List Rw} {k i : Int} (hn : ∀ x ∈ l, x.is k i = false) : dueOf l k i = none := by
  unfold dueOf
  rw [Option.map_eq_none_iff, List.find?_eq_none]
  intro x hx
  rw [hn x hx]
  simp
attribute [local go_sem high] eql26 neq26
set_option maxHeartbeats 1600000 in
theorem refAhead40 (a b : Rw) (w : World) : Calls Try.prog 40 #[rwV a, rwV b] w fun e w' => e = .returned (.bool (lt a b)) ∧ Below w.heap.size w w' := by
  obtain ⟨ak, ai, ad⟩ := a
  obtain ⟨bk, bi, bd⟩ := b
  obtain ⟨u, hu⟩ : ∃ W, W = (w.alloc (.cells #[.int .i64 ak, .int .u64 ai, .int .u64 ad] 46)).alloc (.cells #[.int .i64 bk, .int .u64 bi, .int .u64 bd] 46) := ⟨_, rfl⟩
  have hb : Below w.heap.size w u := by rw [hu]; exact ((Below.refl _ w).alloc (Nat.le_refl _) _).alloc (by simp) _
  have HB := Lib.hid (hu ▸ hb)
  clear hb hu
  have hl : lt ⟨ak, ai, ad⟩ ⟨bk, bi, bd⟩ = if ad ≠ bd then decide (ad < bd) else if ak ≠ bk then decide (ak < bk) else decide (ai < bi) := by
    rw [Bool.eq_iff_iff, lt_iff]
    simp only
    split
    · rw [decide_eq_true_iff]; omega
    · split
      · rw [decide_eq_true_iff]; omega
      · rw [decide_eq_true_iff]; omega
  rw [hl]
  unfold rwV
  clear hl
  by_cases h1 : ad = bd
  · subst h1
    have d1 : (ad != ad) = false := by simp
    rw [if_neg (by simp)]
    by_cases h2 : ak = bk
    · subst h2
      have d2 : (ak != ak) = false := by simp
      rw [if_neg (by simp)]
      obtain ⟨q, hq⟩ : ∃ q, decide (ai < bi) = q := ⟨_, rfl⟩
      rw [hq]
      go_enter Try.func40, Try.ntmps40
      go_wp2
      go_ret
      exact ⟨rfl, HB.out⟩
    · have d2 : (ak != bk) = true := by simpa using h2
      rw [if_pos h2]
      obtain ⟨q, hq⟩ : ∃ q, decide (ak < bk) = q := ⟨_, rfl⟩
      rw [hq]
      clear h2
      go_enter Try.func40, Try.ntmps40
      go_wp2
      go_ret
      exact ⟨rfl, HB.out⟩
  · have d1 : (ad != bd) = true := by simpa using h1
    rw [if_pos h1]
    obtain ⟨q, hq⟩ : ∃ q, decide (ad < bd) = q := ⟨_, rfl⟩
    rw [hq]
    clear h1
    go_enter Try.func40, Try.ntmps40
    go_wp2
    go_ret
    exact ⟨rfl, HB.out⟩
theorem refNew10 (most : Int) (w : World) (h0 : 1 ≤ most) (h1 : most ≤ 8192) : Calls Try.prog 10 #[.int .i64 most] w fun e w' => e = .returned (.tuple #[.agg #[.slice none 0 0, .int .i64 most], .int .i64 0]) ∧ Below w.heap.size w w' := by
  have d1 : decide (most < 1) = false := by simp; omega
  have d2 : decide (8192 < most) = false := by simp; omega
  clear h0 h1
  go_enter Try.func10, Try.ntmps10
  go_wp2
  have hk3 := alloc_blk_new w (.cells #[.slice none 0 0, .int .i64 most] 36)
  have g0 := cell_blk hk3 0 (.slice none 0 0) rfl
  have g1 := cell_blk hk3 1 (.int .i64 most) rfl
  refine bodyPost_ret (v := .tuple #[.agg #[.slice none 0 0, .int .i64 most], .int .i64 0]) (by simp [results, Try.f10, go_sem, g0, g1]) rfl ⟨rfl, ?_⟩
  exact (Below.refl _ w).alloc (Nat.le_refl _) _
theorem refNew10_bad (most : Int) (w : World) (h : most < 1 ∨ 8192 < most) : Calls Try.prog 10 #[.int .i64 most] w fun e w' => e = .returned (.tuple #[.agg #[.slice none 0 0, .int .i64 0], .int .i64 2]) ∧ Below w.heap.size w w' := by
  have HF := Lib.hid ((Below.refl _ w).alloc (Nat.le_refl _) (.cells #[.slice none 0 0, .int .i64 0] 36))
  have hk3 := alloc_blk_new w (.cells #[.slice none 0 0, .int .i64 0] 36)
  have G0 := Lib.hid (cell_blk hk3 0 (.slice none 0 0) rfl)
  have G1 := Lib.hid (cell_blk hk3 1 (.int .i64 0) rfl)
  clear hk3
  rcases (show most < 1 ∨ (¬ most < 1 ∧ 8192 < most) by omega) with h | ⟨h, h'⟩
  · have d1 : decide (most < 1) = true := by simpa using h
    clear h
    go_enter Try.func10, Try.ntmps10
    go_wp2
    have g0 := G0.out
    have g1 := G1.out
    refine bodyPost_ret (v := .tuple #[.agg #[.slice none 0 0, .int .i64 0], .int .i64 2]) (by simp [results, Try.f10, go_sem, g0, g1]) rfl ⟨rfl, HF.out⟩
  · have d1 : decide (most < 1) = false := by simpa using h
    have d2 : decide (8192 < most) = true := by simpa using h'
    clear h h'
    go_enter Try.func10, Try.ntmps10
    go_wp2
    have g0 := G0.out
    have g1 := G1.out
    refine bodyPost_ret (v := .tuple #[.agg #[.slice none 0 0, .int .i64 0], .int .i64 2]) (by simp [results, Try.f10, go_sem, g0, g1]) rfl ⟨rfl, HF.out⟩
set_option maxHeartbeats 3200000 in
set_option maxRecDepth 100000 in
theorem refDue27 {A : Nat → Prop} {w : World} {bo : Option Addr} {m bc : Nat} {l : List Rw} (h : DR A w bo m bc l) (hm : m ≤ 100000) (most k i : Int) :
    Calls Try.prog 27 #[.agg #[.slice bo m bc, .int .i64 most], tmV k i] w fun e w' => e = .returned (.tuple #[.int .u64 ((dueOf l k i).getD 0), .bool (dueOf l k i).isSome]) ∧ Below w.heap.size w w' := by
  obtain ⟨was, hwas⟩ : ∃ x, x = (dueOf l k i).getD 0 := ⟨_, rfl⟩
  obtain ⟨had, hhad⟩ : ∃ x, x = (dueOf l k i).isSome := ⟨_, rfl⟩
  have HWas := Lib.hid hwas
  have HHad := Lib.hid hhad
  rw [← hwas, ← hhad]
  clear hwas hhad
  obtain ⟨u1, hu1⟩ : ∃ W, W = w.alloc (.cells #[.slice bo m bc, .int .i64 most] 36) := ⟨_, rfl⟩
  obtain ⟨u, hu⟩ : ∃ W, W = u1.alloc (.cells #[.int .i64 k, .int .u64 i] 26) := ⟨_, rfl⟩
  obtain ⟨X, hX⟩ : ∃ X, X = w.heap.size := ⟨_, rfl⟩
  have hz1 : u1.heap.size = X + 1 := by rw [hu1, hX]; simp
  have b1 : Below w.heap.size w u := by rw [hu]; exact (show Below w.heap.size w u1 by rw [hu1]; exact (Below.refl _ w).alloc (Nat.le_refl _) _).alloc (by omega) _
  have k1 : u.heap[X]? = some (.cells #[.slice bo m bc, .int .i64 most] 36 (0, 0)) := by rw [hu]; exact alloc_blk (by rw [hu1, hX]; exact alloc_blk_new _ _) _
  have k2 : u.heap[X + 1]? = some (.cells #[.int .i64 k, .int .u64 i] 26 (0, 0)) := by rw [hu, ← hz1]; exact alloc_blk_new _ _
  have HUU : Hid (u = (w.alloc (.cells #[.slice bo m bc, .int .i64 most] 36)).alloc (.cells #[.int .i64 k, .int .u64 i] 26)) := Lib.hid (by rw [hu, hu1])
  have EX := Lib.hid hX
  have H := Lib.hid (h.below b1)
  have HL := Lib.hid h.len
  have K1 := Lib.hid k1
  have K2 := Lib.hid k2
  have B1 := Lib.hid b1
  unfold tmV
  clear hu hu1 hX hz1 b1 k1 k2 h
  go_enter Try.func27, Try.ntmps27
  go_wp2_with fail
  rw [← HUU.out]
  try rw [← EX.out]
  go_loopg [6] m (fun gk v6 wr => ∃ j : Nat, v6 = .int .i64 j ∧ j ≤ m ∧ gk = m - j ∧ (∀ x ∈ l.take j, x.is k i = false) ∧ Below u.heap.size u wr)
  case atStart => exact ⟨0, rfl, by omega, rfl, fun x hx => by simp at hx, Below.refl _ _⟩
  case round =>
    obtain ⟨j, rfl, hj, hgk, hn, hb⟩ := hrel
    have HG := Lib.hid hgk
    have HNo := Lib.hid hn
    have HB := Lib.hid hb
    have q1 := (hb.block _ (blk_lt K1.out)).trans K1.out
    have q2 := (hb.block _ (blk_lt K2.out)).trans K2.out
    have c0 := cell_blk q1 0 _ rfl
    have c1 := cell_blk q2 0 _ rfl
    have c2 := cell_blk q2 1 _ rfl
    have l1 := blk_lt q1
    have l2 := blk_lt q2
    clear hgk hn hb q1 q2
    by_cases hlt : j < m
    · have e1 : decide ((j : Int) < m) = true := by simp; omega
      obtain ⟨b, off, rfl, _, hbl, hc⟩ := (H.out.below HB.out).at_ (by omega)
      obtain ⟨y0, y1, y2⟩ := hc j hlt
      obtain ⟨xk, hxk⟩ : ∃ x, x = (rAt l j).k := ⟨_, rfl⟩
      obtain ⟨xi, hxi⟩ : ∃ x, x = (rAt l j).i := ⟨_, rfl⟩
      obtain ⟨xd, hxd⟩ : ∃ x, x = (rAt l j).d := ⟨_, rfl⟩
      rw [← hxk] at y0
      rw [← hxi] at y1
      rw [← hxd] at y2
      have htm : tmEq xk xi k i = (rAt l j).is k i := by rw [hxk, hxi]; exact tmEq_is _ _ _
      have HXD := Lib.hid hxd
      have hjl : j < l.length := by have := HL.out; omega
      obtain ⟨q, hq⟩ : ∃ q, q = (rAt l j).is k i := ⟨_, rfl⟩
      rw [← hq] at htm
      have HQ := Lib.hid hq
      have hjm : (j : Int) < m := by omega
      clear hc hxk hxi hxd hq
      cases q with
      | true =>
        have hdd := dueOf_at hjl HNo.out HQ.out.symm
        rw [← HXD.out] at hdd
        obtain rfl : was = xd := by rw [HWas.out, hdd]; rfl
        obtain rfl : had = true := by rw [HHad.out, hdd]; rfl
        clear hdd
        go_wp2_with fail
        go_quiet (fail)
        go_wp2
        go_ret2
        exact ⟨rfl, B1.out.trans ((HB.out.trans (Below.drewN' _ _ |>.mono HB.out.size)).mono B1.out.size)⟩
      | false =>
        have hw1 : IntKind.i64.wrap ((j : Int) + 1) = (j : Int) + 1 := by rw [IntKind.wrap_i64]; omega
        go_wp2_with fail
        go_quiet (fail)
        go_wp2_with fail
        go_roundg (m - (j + 1))
        case measure => have := HG.out; omega
        case rel => exact ⟨j + 1, by go_num, by omega, rfl, fun x hx => by
          rw [take_succ_rAt hjl] at hx
          rcases List.mem_append.1 hx with e | e
          · exact HNo.out x e
          · rw [List.mem_singleton.1 e]; exact HQ.out.symm, HB.out.trans (Below.drewN' _ _ |>.mono HB.out.size)⟩
    · have hjm : j = m := by omega
      subst hjm
      have e1 : decide ((j : Int) < j) = false := by simp
      have hdd : dueOf l k i = none := dueOf_not fun x hx => HNo.out x (by rw [List.take_of_length_le (by have := HL.out; omega)]; exact hx)
      obtain rfl : was = 0 := by rw [HWas.out, hdd]; rfl
      obtain rfl : had = false := by rw [HHad.out, hdd]; rfl
      clear hdd
      go_wp2
      go_ret2
      exact ⟨rfl, B1.out.trans (HB.out.mono B1.out.size)⟩
end Go.Proofs.Ytnmbhcekcdicnaa
