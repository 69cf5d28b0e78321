/-
  The document's queue: Push, Take.
-/
import Derived.Test.YtkikdpfhcepeaaaK
namespace Go.Proofs.Ytkikdpfhcepeaaa
open Go.RowKit
set_option linter.unusedVariables false
set_option linter.unusedSimpArgs false

/-- The document's queue, as a value. -/
def qagg (a : Option Addr) (n c : Nat) (m : Int) : Value := .agg #[.slice a n c, .int .i64 m]

set_option maxHeartbeats 800000 in
theorem refPush_full (a : Option Addr) (n c : Nat) (m : Int) (b : Option Addr) (k bc : Nat) (w : World) (hm0 : 0 ≤ m) (hm1 : m ≤ 1048576) (hn : (n : Int) ≤ m) (hk : k ≤ 1000000) (hf : m < (n : Int) + k) :
    Calls Try.prog 27 #[qagg a n c m, .slice b k bc] w fun e w' => e = .returned (.tuple #[qagg a n c m, .int .i64 120]) ∧ Below w.heap.size w w' := by
  obtain ⟨r, hr⟩ : ∃ r : Int, r = m - (n : Int) := ⟨_, rfl⟩
  have t1 : decide (m - (n : Int) < (k : Int)) = true := by simp; omega
  have t2 : m - (n : Int) < (k : Int) := by omega
  have hb := (((Below.refl _ w).alloc (Nat.le_refl _) (.cells #[.slice a n c, .int .i64 m] 39)).alloc (by simp) (.cells #[.slice none 0 0, .int .i64 0] 39))
  have HB := Lib.hid hb
  unfold qagg
  clear hb hr
  go_enter Try.func27, Try.ntmps27
  go_wp2
  refine bodyPost_ret (v := .tuple #[.agg #[.slice a n c, .int .i64 m], .int .i64 120]) (by simp [results, Try.f27, go_sem, *]) rfl ⟨rfl, ?_⟩
  first
    | exact HB.out
    | exact ((Below.refl _ w).alloc (Nat.le_refl _) _).alloc (by simp) _

set_option maxHeartbeats 3200000 in
set_option maxRecDepth 100000 in
theorem refPush_ok (T U : Nat → Prop) (a : Option Addr) (n c : Nat) (m : Int) (xs : List Int) (b : Option Addr) (k bc : Nat) (ys : List Int) (w : World) (ha : Arg T w a n xs) (na : a = none → n = 0 ∧ c = 0) (hb : Arg U w b k ys) (nb : b = none → k = 0 ∧ bc = 0) (hm0 : 0 ≤ m) (hm1 : m ≤ 1048576) (hn : (n : Int) ≤ m) (hk : k ≤ 1000000) (hf : (n : Int) + k ≤ m) :
    Calls Try.prog 27 #[qagg a n c m, .slice b k bc] w fun e w' => ∃ a' c', e = .returned (.tuple #[qagg a' (n + k) c' m, .int .i64 0]) ∧ w'.ownsRow w.heap.size 5 1 (.slice a' (n + k) c') (n + k) ((xs ++ ys).map (.int .u8)) ∧ Below w.heap.size w w' := by
  obtain ⟨i0, hi, hz0, hz1, hz2⟩ := info_parts Try.info5
  have t2 : ¬ m - (n : Int) < (k : Int) := by omega
  have t1 : decide (m - (n : Int) < (k : Int)) = false := by simp; omega
  have s1 : (w.alloc (.cells #[.slice a n c, .int .i64 m] 39)).heap.size = w.heap.size + 1 := by simp
  have hb2 := (((Below.refl _ w).alloc (Nat.le_refl _) (.cells #[.slice a n c, .int .i64 m] 39)).alloc (by simp) (.cells #[.slice none 0 0, .int .i64 0] 39))
  have k0 := alloc_blk (alloc_blk_new w (.cells #[.slice a n c, .int .i64 m] 39)) (.cells #[.slice none 0 0, .int .i64 0] 39)
  have k1 := alloc_blk_new (w.alloc (.cells #[.slice a n c, .int .i64 m] 39)) (.cells #[.slice none 0 0, .int .i64 0] 39)
  rw [s1] at k1
  have HB := Lib.hid hb2
  have HA := Lib.hid ha
  have HY := Lib.hid hb
  have HK0 := Lib.hid k0
  have HK1 := Lib.hid k1
  unfold qagg
  clear hb2 k0 k1 s1 ha hb
  go_enter Try.func27, Try.ntmps27
  go_wp2_with fail
  refine wp_region_K 9 (fun W => W.cell? ⟨w.heap.size, 0, none⟩ = some (.slice a n c) ∧ W.cell? ⟨w.heap.size, 1, none⟩ = some (.int .i64 m)) (by kernel_rfl) ?_
  obtain ⟨wd, hwd⟩ : ∃ W, W = ((w.alloc (.cells #[.slice a n c, .int .i64 m] 39)).alloc (.cells #[.slice none 0 0, .int .i64 0] 39)).drew := ⟨_, rfl⟩
  rw [← hwd]
  have B0 : Hid (Below w.heap.size w wd) := Lib.hid (by rw [hwd]; exact ⟨HB.out.os, HB.out.tape, HB.out.output, HB.out.size, HB.out.block⟩)
  have K0 : Hid (wd.heap[w.heap.size]? = some (.cells #[.slice a n c, .int .i64 m] 39 (0, 0))) := Lib.hid (by rw [hwd]; exact HK0.out)
  have K1 : Hid (wd.heap[w.heap.size + 1]? = some (.cells #[.slice none 0 0, .int .i64 0] 39 (0, 0))) := Lib.hid (by rw [hwd]; exact HK1.out)
  clear hwd HB HK0 HK1
  have hS0 : wd.cell? ⟨w.heap.size, 0, none⟩ = some (.slice a n c) ∧ wd.cell? ⟨w.heap.size, 1, none⟩ = some (.int .i64 m) := ⟨cell_blk K0.out 0 _ rfl, cell_blk K0.out 1 _ rfl⟩
  refine wpAnyK_take (i := 1) (v := .pointer (some ⟨w.heap.size, 0, none⟩)) rfl (by kernel_rfl) (by kernel_rfl) (by kernel_rfl) [8, 5, 3, 2] (by kernel_rfl) (by decide) (by kernel_rfl) (by kernel_rfl) (fun _ _ _ h => h) hS0 (.inl ⟨by rfl, fun W hW => ?_⟩) ?_
  · obtain ⟨q1, q2⟩ := hW
    go_simp
  simp only [Act.put, List.setIfInBounds_toArray, List.set_cons_zero, List.set_cons_succ]
  refine wpAnyK_take (i := 2) (v := .slice a n c) rfl (by kernel_rfl) (by kernel_rfl) (by kernel_rfl) [8, 5, 3] (by kernel_rfl) (by decide) (by kernel_rfl) (by kernel_rfl) (fun _ _ _ h => h) hS0 (.inl ⟨by rfl, fun W hW => ?_⟩) ?_
  · obtain ⟨q1, q2⟩ := hW
    go_simp
  simp only [Act.put, List.setIfInBounds_toArray, List.set_cons_zero, List.set_cons_succ]
  refine wpAnyK_take (i := 4) (v := .slice b k bc) rfl (by kernel_rfl) (by kernel_rfl) (by kernel_rfl) [8, 5] (by kernel_rfl) (by decide) (by kernel_rfl) (by kernel_rfl) (fun _ _ _ h => h) hS0 (.inl ⟨by rfl, fun W hW => ?_⟩) ?_
  · obtain ⟨q1, q2⟩ := hW
    go_simp
  simp only [Act.put, List.setIfInBounds_toArray, List.set_cons_zero, List.set_cons_succ]
  refine wpAnyK_take (i := 6) (v := .pointer (some ⟨w.heap.size, 1, none⟩)) rfl (by kernel_rfl) (by kernel_rfl) (by kernel_rfl) [8, 7] (by kernel_rfl) (by decide) (by kernel_rfl) (by kernel_rfl) (fun _ _ _ h => h) hS0 (.inl ⟨by rfl, fun W hW => ?_⟩) ?_
  · obtain ⟨q1, q2⟩ := hW
    go_simp
  simp only [Act.put, List.setIfInBounds_toArray, List.set_cons_zero, List.set_cons_succ]
  refine wpAnyK_take (i := 7) (v := .int .i64 m) rfl (by kernel_rfl) (by kernel_rfl) (by kernel_rfl) [8] (by kernel_rfl) (by decide) (by kernel_rfl) (by kernel_rfl) (fun _ _ _ h => h) hS0 (.inl ⟨by rfl, fun W hW => ?_⟩) ?_
  · obtain ⟨q1, q2⟩ := hW
    go_simp
  simp only [Act.put, List.setIfInBounds_toArray, List.set_cons_zero, List.set_cons_succ]
  have hsz := blk_lt K1.out
  refine wpAnyK_ready (rs := [0]) (by kernel_rfl) (by simp) ?_
  refine AllReadyK.cons rfl (fun K hK => ?_) AllReadyK.nil
  have hR0 : (wd.alloc (.cells #[] 5)).ownsRow w.heap.size 5 1 (.slice (some ⟨wd.heap.size, 0, none⟩) 0 0) 0 [] := Joins.ownsRow_le (World.ownsRow_lit wd #[] 0 (Nat.le_refl _) (by simp) rfl) (by omega)
  have B1 := Lib.hid (B0.out.alloc (by simpa using B0.out.size) (.cells #[] 5))
  have A1 := Lib.hid (HA.out.below B1.out)
  have J0 := alloc_blk K0.out (.cells #[] 5)
  go_simp
  refine hK.out _ _ (fun _ => ⟨cell_blk J0 0 _ rfl, cell_blk J0 1 _ rfl⟩) ?_
  clear hK K
  try simp only [Act.put, List.setIfInBounds_toArray, List.set_cons_zero, List.set_cons_succ]
  refine wpAnyK_ready (rs := [3]) (by kernel_rfl) (by simp) ?_
  refine AllReadyK.cons rfl (fun K hK => ?_) AllReadyK.nil
  refine step_append_f rfl (.tmp 16) (.tmp 18) 29 rfl w.heap.size 5 i0 (.int .u8 0) 1 1 Try.underlying29 hi hz0 hz1 hz2 rfl (by decide) _ 0 [] (by rfl) hR0 a n c (xs.map (.int .u8)) (by rfl) (by have := A1.out.1; simp; omega) na A1.out.news (one_u8 _) (by unfold maxLen; omega) (by omega) (by simp; omega) ?_
  intro v2 w2 hown2 hg2 hf2
  rw [Nat.zero_add] at hown2
  rw [List.nil_append] at hown2
  obtain ⟨a2, c2, rfl⟩ := row_slice hown2
  have hg2' : (wd.alloc (.cells #[] 5)).grownBy w2 (some wd.heap.size) := hg2
  have hf2' : ∀ q, (Value.slice a2 n c2).ownBlock = some q → wd.heap.size ≤ q := fun q hq => by
    rcases hf2 q hq with e | e
    · cases e; exact Nat.le_refl _
    · simp at e; omega
  have B2 := Lib.hid (B1.out.grown hg2' (by have := B0.out.size; simp; omega) (fun q e => by cases e; have := B0.out.size; omega))
  have J2 := (hg2'.block (w.heap.size) (by simp; omega) (fun e => by simp at e; omega)).trans J0
  have Y2 := Lib.hid (HY.out.below B2.out)
  have L2 := (hg2'.block (w.heap.size + 1) (by simp; omega) (fun e => by simp at e; omega)).trans (alloc_blk K1.out (.cells #[] 5))
  refine hK.out _ _ (fun _ => ⟨cell_blk J2 0 _ rfl, cell_blk J2 1 _ rfl⟩) ?_
  clear hK K
  try simp only [Act.put, List.setIfInBounds_toArray, List.set_cons_zero, List.set_cons_succ]
  refine wpAnyK_ready (rs := [5]) (by kernel_rfl) (by simp) ?_
  refine AllReadyK.cons rfl (fun K hK => ?_) AllReadyK.nil
  have hw2 := blk_lt L2
  refine step_append_f rfl (.tmp 19) (.tmp 20) 29 rfl w.heap.size 5 i0 (.int .u8 0) 1 1 Try.underlying29 hi hz0 hz1 hz2 rfl (by decide) _ n (xs.map (.int .u8)) (by rfl) hown2 b k bc (ys.map (.int .u8)) (by rfl) (by have := Y2.out.1; simp; omega) nb Y2.out.news (one_u8 _) (by unfold maxLen; omega) (by omega) (by omega) ?_
  intro v3 w3 hown3 hg3 hf3
  obtain ⟨a3, c3, rfl⟩ := row_slice hown3
  have hs2 : wd.heap.size ≤ w2.heap.size := by have := hg2'.size; simp at this; omega
  have B3 := Lib.hid (B2.out.grown hg3 (by omega) (fun q e => by have := hf2' q e; omega))
  have J3 := (hg3.block (w.heap.size) (by omega) (fun e => by have := hf2' _ e.symm; omega)).trans J2
  have L3 := (hg3.block (w.heap.size + 1) (by omega) (fun e => by have := hf2' _ e.symm; omega)).trans L2
  have O3 := Lib.hid hown3
  have hf3' : ∀ q, (Value.slice a3 (n + k) c3).ownBlock = some q → wd.heap.size ≤ q := fun q hq => by
    rcases hf3 q hq with e | e
    · exact hf2' q e
    · omega
  have F3 := Lib.hid hf3'
  have M3 := Lib.hid (cell_blk L3 0 _ rfl)
  have N3 := Lib.hid (cell_blk L3 1 _ rfl)
  have fz3 := frozen_blk L3
  refine hK.out _ _ (fun _ => ⟨cell_blk J3 0 _ rfl, cell_blk J3 1 _ rfl⟩) ?_
  clear hK K hown2 hg2 hf2 hown3 hg3 hf3 hg2' hf2' hf3' B2 Y2 A1 B1 hR0 J0 J2 L2 hs2
  try simp only [Act.put, List.setIfInBounds_toArray, List.set_cons_zero, List.set_cons_succ]
  refine wpAnyK_ready (rs := [8]) (by kernel_rfl) (by simp) ?_
  refine AllReadyK.cons rfl (fun K hK => ?_) AllReadyK.nil
  go_simp
  refine hK.out _ _ (fun _ => ⟨cell_blk J3 0 _ rfl, cell_blk J3 1 _ rfl⟩) ?_
  clear hK K
  try simp only [Act.put, List.setIfInBounds_toArray, List.set_cons_zero, List.set_cons_succ]
  have c0 := M3.out
  have c1 := N3.out
  have hl3 := blk_lt L3
  obtain ⟨g0, g1⟩ := And.intro (fz3 0) (fz3 1)
  refine wpAnyK_ready (rs := [9]) (by kernel_rfl) (by simp) ?_
  refine AllReadyK.cons rfl (fun K hK => ?_) AllReadyK.nil
  go_simp
  refine hK.out _ _ (fun h => absurd (show true = false from h) (by decide)) ?_
  clear hK K
  try simp only [Act.put, List.setIfInBounds_toArray, List.set_cons_zero, List.set_cons_succ]
  refine wpAnyK_ready (rs := [10]) (by kernel_rfl) (by simp) ?_
  refine AllReadyK.cons rfl (fun K hK => ?_) AllReadyK.nil
  go_simp
  refine hK.out _ _ (fun h => absurd (show true = false from h) (by decide)) ?_
  clear hK K
  try simp only [Act.put, List.setIfInBounds_toArray, List.set_cons_zero, List.set_cons_succ]
  refine wpAnyK_done (by kernel_rfl) ?_ _
  have L4 := setCell_blk (setCell_blk L3 0 (.slice a3 (n + k) c3)) 1 (.int .i64 m)
  have B4 := (B3.out.setCell (p := ⟨w.heap.size + 1, 0, none⟩) (by simp) (.slice a3 (n + k) c3)).setCell (p := ⟨w.heap.size + 1, 1, none⟩) (by simp) (.int .i64 m)
  have hM : Mod (fun q => q = w.heap.size + 1) w3 ((w3.setCell ⟨w.heap.size + 1, 0, none⟩ (.slice a3 (n + k) c3)).setCell ⟨w.heap.size + 1, 1, none⟩ (.int .i64 m)) := ((Mod.refl (fun q => q = w.heap.size + 1) w3).setCell ⟨w.heap.size + 1, 0, none⟩ (.inl rfl) _).setCell ⟨w.heap.size + 1, 1, none⟩ (.inl rfl) _
  have O4 := hM.row O3.out (fun q hq e => by have := F3.out q hq; omega)
  rw [← List.map_append] at O4
  obtain ⟨w4, hw4⟩ : ∃ W, W = (w3.setCell ⟨w.heap.size + 1, 0, none⟩ (.slice a3 (n + k) c3)).setCell ⟨w.heap.size + 1, 1, none⟩ (.int .i64 m) := ⟨_, rfl⟩
  rw [← hw4] at L4 B4 O4 ⊢
  have d0 : w4.cell? ⟨w.heap.size + 1, 0, none⟩ = some (.slice a3 (n + k) c3) := cell_blk L4 0 _ rfl
  have d1 : w4.cell? ⟨w.heap.size + 1, 1, none⟩ = some (.int .i64 m) := cell_blk L4 1 _ rfl
  have HB4 := Lib.hid B4
  have HO4 := Lib.hid O4
  clear L4 hw4 hM B4 O4 c0 c1 g0 g1 fz3 L3 J3 M3 N3 O3 F3 B3 hS0
  go_wp2
  refine bodyPost_ret (v := .tuple #[.agg #[.slice a3 (n + k) c3, .int .i64 m], .int .i64 0]) (by simp [results, Try.f27, go_sem, *]) rfl ⟨a3, c3, rfl, HO4.out, HB4.out⟩

theorem refTake_bad (a : Option Addr) (n c : Nat) (m most : Int) (w : World) (h0 : most < 0) :
    Calls Try.prog 28 #[qagg a n c m, .int .i64 most] w fun e w' => e = .returned (.tuple #[qagg a n c m, .slice none 0 0, .int .i64 2]) ∧ Below w.heap.size w w' := by
  have t1 : decide (most < 0) = true := by simpa using h0
  have HB := Lib.hid (((Below.refl _ w).alloc (Nat.le_refl _) (.cells #[.slice a n c, .int .i64 m] 39)).alloc (by simp) (.cells #[.slice a n c, .int .i64 m] 39))
  unfold qagg
  go_enter Try.func28, Try.ntmps28
  go_wp2
  refine bodyPost_ret (v := .tuple #[.agg #[.slice a n c, .int .i64 m], .slice none 0 0, .int .i64 2]) (by simp [results, Try.f28, go_sem, *]) rfl ⟨rfl, HB.out⟩

/-- The rest of bytes. -/
theorem Arg.drop {T : Nat → Prop} {w : World} {b off n : Nat} {zs : List Int} (h : Arg T w (some ⟨b, off, none⟩) n zs) (k : Nat) (hk : k ≤ n) : Arg T w (some ⟨b, off + k, none⟩) (n - k) (zs.drop k) :=
  ⟨by rw [List.length_drop, h.1], fun hp => by
    obtain ⟨b', off', e, hb, hT, hc⟩ := h.2 (by omega)
    cases e
    refine ⟨b, off + k, rfl, hb, hT, fun j hj => ?_⟩
    have := hc (k + j) (by omega)
    rw [← Nat.add_assoc] at this
    rw [this]
    have hl := h.1
    simp [List.getD, List.getElem?_drop]⟩

set_option maxHeartbeats 3200000 in
set_option maxRecDepth 100000 in
theorem refTake_ok (T : Nat → Prop) (a : Option Addr) (n c : Nat) (m most : Int) (xs : List Int) (w : World) (ha : Arg T w a n xs) (na : a = none → n = 0 ∧ c = 0) (hsp : ∀ ad, a = some ad → ad.spot = none) (hc : n ≤ c) (hcm : c ≤ maxLen) (hn : n ≤ 1048576) (h0 : 0 ≤ most) :
    Calls Try.prog 28 #[qagg a n c m, .int .i64 most] w fun e w' => ∃ a2 c2, e = .returned (.tuple #[qagg a2 (n - kOf most n) c2 m, .slice a (kOf most n) c, .int .i64 0]) ∧ Arg T w a2 (n - kOf most n) (xs.drop (kOf most n)) ∧ (a2 = none → n - kOf most n = 0 ∧ c2 = 0) ∧ (∀ ad, a2 = some ad → ad.spot = none) ∧ n - kOf most n ≤ c2 ∧ c2 ≤ maxLen ∧ Below w.heap.size w w' := by
  obtain ⟨k, hk⟩ : ∃ k, k = kOf most n := ⟨_, rfl⟩
  rw [← hk]
  have hkn : k ≤ n := by rw [hk]; exact kOf_le _ _
  have t1 : decide (most < 0) = false := by simp; omega
  have hcase : (most < (n : Int) ∧ (k : Int) = most) ∨ ((n : Int) < most ∧ k = n) ∨ (most = (n : Int) ∧ k = n) := by
    rw [hk]; unfold kOf
    rcases Int.lt_trichotomy most n with h | h | h
    · left; omega
    · right; right; omega
    · right; left; omega
  have HB := Lib.hid (fun (v u : Value) => ((Below.refl _ w).alloc (Nat.le_refl _) (.cells #[.slice a n c, .int .i64 m] 39)).alloc (by simp) (.cells #[v, u] 39))
  have HA := Lib.hid ha
  unfold qagg
  clear hk ha
  have key : (a = none ∧ n = 0 ∧ c = 0 ∧ k = 0) ∨ (∃ b off, a = some ⟨b, off, none⟩ ∧ (k < c ∨ k = c)) := by
    cases a with
    | none => obtain ⟨h1, h2⟩ := na rfl; exact .inl ⟨rfl, h1, h2, by omega⟩
    | some ad =>
      obtain ⟨b, off, sp⟩ := ad
      have := hsp _ rfl
      simp at this
      subst this
      exact .inr ⟨b, off, rfl, by omega⟩
  unfold maxLen at hcm
  rcases key with ⟨rfl, rfl, rfl, rfl⟩ | ⟨b, off, rfl, hkc⟩
  · rcases hcase with ⟨h1, h2⟩ | ⟨h1, h2⟩ | ⟨h1, h2⟩
    · omega
    · go_enter Try.func28, Try.ntmps28
      go_wp2
      go_region
      all_goals
        go_wp2
        refine bodyPost_ret (v := .tuple #[.agg #[.slice none 0 0, .int .i64 m], .slice none 0 0, .int .i64 0]) (by simp [results, Try.f28, go_sem, *]) rfl ⟨none, 0, rfl, HA.out, by simp, by simp, by simp, by simp [maxLen], ?_⟩
        have := HB.out (.slice none 0 0) (.int .i64 m)
        exact ⟨this.os, this.tape, this.output, this.size, this.block⟩
    · subst h1
      go_enter Try.func28, Try.ntmps28
      go_wp2
      go_region
      all_goals
        go_wp2
        refine bodyPost_ret (v := .tuple #[.agg #[.slice none 0 0, .int .i64 m], .slice none 0 0, .int .i64 0]) (by simp [results, Try.f28, go_sem, *]) rfl ⟨none, 0, rfl, HA.out, by simp, by simp, by simp, by simp [maxLen], ?_⟩
        have := HB.out (.slice none 0 0) (.int .i64 m)
        exact ⟨this.os, this.tape, this.output, this.size, this.block⟩
  · rcases hkc with hkc | rfl
    · have hkc2 : (k : Int) < c := by omega
      rcases hcase with ⟨h1, h2⟩ | ⟨h1, h2⟩ | ⟨h1, h2⟩
      · subst h2
        go_enter Try.func28, Try.ntmps28
        go_wp2
        go_region
        all_goals
          go_wp2
          refine bodyPost_ret (v := .tuple #[.agg #[.slice (some ⟨b, off + k, none⟩) (n - k) (c - k), .int .i64 m], .slice (some ⟨b, off, none⟩) k c, .int .i64 0]) (by simp [results, Try.f28, go_sem, *]) rfl ⟨some ⟨b, off + k, none⟩, c - k, by first | rfl | simp, HA.out.drop k hkn, by simp, (fun ad e => by cases e; rfl), by omega, by unfold maxLen; omega, ?_⟩
          have := HB.out (.slice (some ⟨b, off + k, none⟩) (n - k) (c - k)) (.int .i64 m)
          exact ⟨this.os, this.tape, this.output, this.size, this.block⟩
      · subst h2
        have hno : ¬ most ≤ (k : Int) := by omega
        go_enter Try.func28, Try.ntmps28
        go_wp2
        go_region
        all_goals
          go_wp2
          refine bodyPost_ret (v := .tuple #[.agg #[.slice (some ⟨b, off + k, none⟩) (0) (c - k), .int .i64 m], .slice (some ⟨b, off, none⟩) k c, .int .i64 0]) (by simp [results, Try.f28, go_sem, *]) rfl ⟨some ⟨b, off + k, none⟩, c - k, by first | rfl | simp, by have := HA.out.drop k hkn; rwa [Nat.sub_self] at this ⊢, by simp, (fun ad e => by cases e; rfl), by omega, by unfold maxLen; omega, ?_⟩
          have := HB.out (.slice (some ⟨b, off + k, none⟩) (0) (c - k)) (.int .i64 m)
          exact ⟨this.os, this.tape, this.output, this.size, this.block⟩
      · subst h2
        subst h1
        go_enter Try.func28, Try.ntmps28
        go_wp2
        go_region
        all_goals
          go_wp2
          refine bodyPost_ret (v := .tuple #[.agg #[.slice (some ⟨b, off + k, none⟩) (0) (c - k), .int .i64 m], .slice (some ⟨b, off, none⟩) k c, .int .i64 0]) (by simp [results, Try.f28, go_sem, *]) rfl ⟨some ⟨b, off + k, none⟩, c - k, by first | rfl | simp, by have := HA.out.drop k hkn; rwa [Nat.sub_self] at this ⊢, by simp, (fun ad e => by cases e; rfl), by omega, by unfold maxLen; omega, ?_⟩
          have := HB.out (.slice (some ⟨b, off + k, none⟩) (0) (c - k)) (.int .i64 m)
          exact ⟨this.os, this.tape, this.output, this.size, this.block⟩
    · obtain rfl : k = n := by omega
      have hend : Arg T w (some ⟨b, off, none⟩) 0 (xs.drop k) := ⟨by rw [List.length_drop, HA.out.1]; omega, fun h => by omega⟩
      have HE := Lib.hid hend
      clear hend
      rcases hcase with ⟨h1, h2⟩ | ⟨h1, h2⟩ | ⟨h1, h2⟩
      · omega
      · have hno : ¬ most ≤ (k : Int) := by omega
        go_enter Try.func28, Try.ntmps28
        go_wp2
        go_region
        all_goals
          go_wp2
          refine bodyPost_ret (v := .tuple #[.agg #[.slice (some ⟨b, off, none⟩) (0) (0), .int .i64 m], .slice (some ⟨b, off, none⟩) k k, .int .i64 0]) (by simp [results, Try.f28, go_sem, *]) rfl ⟨some ⟨b, off, none⟩, 0, by first | rfl | simp, by rw [Nat.sub_self]; exact HE.out, by simp, (fun ad e => by cases e; rfl), by omega, by unfold maxLen; omega, ?_⟩
          have := HB.out (.slice (some ⟨b, off, none⟩) (0) (0)) (.int .i64 m)
          exact ⟨this.os, this.tape, this.output, this.size, this.block⟩
      · subst h1
        go_enter Try.func28, Try.ntmps28
        go_wp2
        go_region
        all_goals
          go_wp2
          refine bodyPost_ret (v := .tuple #[.agg #[.slice (some ⟨b, off, none⟩) (0) (0), .int .i64 m], .slice (some ⟨b, off, none⟩) k k, .int .i64 0]) (by simp [results, Try.f28, go_sem, *]) rfl ⟨some ⟨b, off, none⟩, 0, by first | rfl | simp, by rw [Nat.sub_self]; exact HE.out, by simp, (fun ad e => by cases e; rfl), by omega, by unfold maxLen; omega, ?_⟩
          have := HB.out (.slice (some ⟨b, off, none⟩) (0) (0)) (.int .i64 m)
          exact ⟨this.os, this.tape, this.output, this.size, this.block⟩
end Go.Proofs.Ytkikdpfhcepeaaa
