/-
  A queue of frames as its callers know it; what is read of it; New.
-/
import Derived.Test.YtneeagabmdpjgaaOd
namespace Go.Proofs.Ytneeagabmdpjgaa
open Go.RowKit
set_option linter.unusedVariables false
set_option linter.unusedSimpArgs false

def sumI : List Int → Int
  | [] => 0
  | x :: l => x + sumI l
theorem sumI_append (a b : List Int) : sumI (a ++ b) = sumI a + sumI b := by
  induction a with
  | nil => simp [sumI]
  | cons x a ih => simp only [List.cons_append, sumI, ih]; omega
theorem sumI_lens (ls : List (List Int)) : sumI (lens ls) = ls.flatten.length := by
  induction ls with
  | nil => rfl
  | cons l ls ih =>
    have : lens (l :: ls) = (l.length : Int) :: lens ls := rfl
    rw [this, sumI, ih, List.flatten_cons, List.length_append]; omega
theorem sumI_len {l : List Int} (h : ∀ x ∈ l, 0 < x) : (l.length : Int) ≤ sumI l := by
  induction l with
  | nil => simp [sumI]
  | cons x l ih =>
    have h1 := h x (by simp)
    have h2 := ih (fun y hy => h y (by simp [hy]))
    simp only [sumI, List.length_cons]; omega
/-- Frames that wait, how many bytes of the first one went, and the bytes that wait. -/
structure OInv (fs : List Int) (part : Int) (bs : List Int) : Prop where
  pos : ∀ x ∈ fs, 0 < x
  p0 : 0 ≤ part
  sum : sumI fs = bs.length + part
  head : ∀ x l, fs = x :: l → part < x
  nil : fs = [] → part = 0
  big : ∀ x ∈ fs, x ≤ 1048576
theorem OInv.part_big {fs : List Int} {part : Int} {bs : List Int} (h : OInv fs part bs) : part ≤ 1048576 := by
  cases fs with
  | nil => have := h.nil rfl; omega
  | cons x l => have := h.head x l rfl; have := h.big x (by simp); omega
theorem OInv.len {fs : List Int} {part : Int} {bs : List Int} (h : OInv fs part bs) : fs.length ≤ bs.length := by
  cases fs with
  | nil => simp
  | cons x l =>
    have h1 := h.head x l rfl
    have h2 := h.sum
    have h3 := sumI_len (l := l) (fun y hy => h.pos y (by simp [hy]))
    simp only [sumI, List.length_cons] at h2 ⊢; omega
theorem OInv.part_le {fs : List Int} {part : Int} {bs : List Int} (h : OInv fs part bs) : part ≤ sumI fs := by
  have := h.sum; omega
theorem OInv.nil' : OInv [] 0 [] := ⟨fun x h => by simp at h, by omega, rfl, fun x l h => (by cases h), fun _ => rfl, fun x h => by simp at h⟩
theorem OInv.push {fs : List Int} {part : Int} {bs : List Int} (h : OInv fs part bs) (ls : List (List Int)) (hn : ¬ ∃ l ∈ ls, l = []) (hfl : ls.flatten.length ≤ 1048576) : OInv (fs ++ lens ls) part (bs ++ ls.flatten) := by
  have hp : ∀ x ∈ lens ls, 0 < x := fun x hx => by
    obtain ⟨l, hl, rfl⟩ := List.mem_map.1 hx
    have : l ≠ [] := fun e => hn ⟨l, hl, e⟩
    have := List.length_pos_iff.2 this
    omega
  refine ⟨fun x hx => ?_, h.p0, ?_, fun x l e => ?_, fun e => h.nil (List.append_eq_nil_iff.1 e).1, fun x hx => ?_⟩
  · rcases List.mem_append.1 hx with hx | hx
    · exact h.pos x hx
    · exact hp x hx
  · rw [sumI_append, h.sum, sumI_lens, List.length_append]; omega
  · cases fs with
    | nil =>
      have h0 := h.nil rfl
      have := hp x (by rw [List.nil_append] at e; rw [e]; simp)
      omega
    | cons y fs =>
      rw [List.cons_append] at e
      injection e with e1 e2
      subst e1
      exact h.head _ _ rfl
  · rcases List.mem_append.1 hx with hx | hx
    · exact h.big x hx
    · obtain ⟨l, hl, rfl⟩ := List.mem_map.1 hx
      have : l.length ≤ ls.flatten.length := (List.sublist_flatten_of_mem hl).length_le
      omega
theorem goL_inv : ∀ (fs : List Int) (T : Int), (∀ x ∈ fs, 0 < x) → 0 ≤ T → T ≤ sumI fs → ∀ j t, goL fs T = (j, t) → j ≤ fs.length ∧ 0 ≤ t ∧ sumI (fs.drop j) - t = sumI fs - T ∧ (∀ x l, fs.drop j = x :: l → t < x) ∧ (fs.drop j = [] → t = 0)
  | [], T, hp, h0, h1, j, t, e => by
    simp only [goL] at e
    cases e
    simp only [sumI] at h1
    have : T = 0 := by omega
    subst this
    exact ⟨by simp, by omega, by simp, fun x l h => (by cases h), fun _ => rfl⟩
  | x :: fs, T, hp, h0, h1, j, t, e => by
    rw [goL] at e
    by_cases hx : x ≤ T
    · rw [if_pos hx] at e
      cases e
      simp only [sumI] at h1
      obtain ⟨a1, a2, a3, a4, a5⟩ := goL_inv fs (T - x) (fun y hy => hp y (by simp [hy])) (by omega) (by omega) _ _ rfl
      refine ⟨by simp only [List.length_cons]; omega, a2, ?_, by rw [List.drop_succ_cons]; exact a4, by rw [List.drop_succ_cons]; exact a5⟩
      rw [List.drop_succ_cons, a3]; simp only [sumI]; omega
    · rw [if_neg hx] at e
      cases e
      exact ⟨by simp, h0, by simp, fun y l h => by rw [List.drop_zero] at h; injection h with e1 e2; omega, fun h => by simp at h⟩
theorem OInv.take {fs : List Int} {part : Int} {bs : List Int} (h : OInv fs part bs) (k : Nat) (hk : k ≤ bs.length) (j : Nat) (t : Int) (hg : goL fs (part + k) = (j, t)) : OInv (fs.drop j) t (bs.drop k) ∧ j ≤ fs.length := by
  have hs := h.sum
  have h0 := h.p0
  obtain ⟨a1, a2, a3, a4, a5⟩ := goL_inv fs (part + k) h.pos (by omega) (by omega) j t hg
  exact ⟨⟨fun x hx => h.pos x (List.mem_of_mem_drop hx), a2, by rw [List.length_drop]; omega, a4, a5, fun x hx => h.big x (List.mem_of_mem_drop hx)⟩, a1⟩

/-- What the callers know of a queue of frames. -/
structure OS (w : World) (K : Nat → Prop) (p : Nat) (m : Int) (fs : List Int) (part : Int) (bs : List Int) (wr : World) : Prop where
  at_ : ∃ sv g q vs, OAt wr w.heap.size p sv g part q m vs ∧ g ≤ vs.length ∧ vs.length ≤ 3000000 ∧ vs.drop g = fs ∧ QS w (fun k => K k ∨ FP p sv k) q m bs wr ∧ (∀ k, K k → ¬ FP p sv k)
  klt : ∀ k, K k → k < wr.heap.size
  inv : OInv fs part bs
section
variable {w wr w' : World} {K : Nat → Prop} {p : Nat} {m part : Int} {fs bs : List Int}
theorem OS.below (h : OS w K p m fs part bs wr) : Below w.heap.size w wr := by
  obtain ⟨sv, g, q, vs, _, _, _, _, hq, _⟩ := h.at_
  exact hq.below
theorem OS.bounds (h : OS w K p m fs part bs wr) : 0 ≤ m ∧ m ≤ 1048576 ∧ (bs.length : Int) ≤ m := by
  obtain ⟨sv, g, q, vs, _, _, _, _, hq, _⟩ := h.at_
  exact hq.bounds
theorem OS.lt (h : OS w K p m fs part bs wr) : w.heap.size ≤ p ∧ p < wr.heap.size := by
  obtain ⟨sv, g, q, vs, ha, _⟩ := h.at_
  exact ⟨ha.lo, ha.lt⟩
theorem OS.mono {L : Nat → Prop} (h : OS w K p m fs part bs wr) (hl : ∀ k, L k → K k) : OS w L p m fs part bs wr := by
  obtain ⟨sv, g, q, vs, h1, h2, h3, h4, h5, h6⟩ := h.at_
  exact ⟨⟨sv, g, q, vs, h1, h2, h3, h4, h5.mono (fun k hk => hk.imp (hl k) id), fun k hk => h6 k (hl k hk)⟩, fun k hk => h.klt k (hl k hk), h.inv⟩
/-- Behind whatever leaves all blocks but those of K as they were, or new. -/
theorem OS.turn (h : OS w K p m fs part bs wr) (hm : Mod K wr w') (hk : ∀ k, K k → w.heap.size ≤ k) : OS w (More K wr w') p m fs part bs w' := by
  obtain ⟨sv, g, q, vs, h1, h2, h3, h4, h5, h6⟩ := h.at_
  have hq := h5.turn (hm.mono fun k _ e => .inl e) (fun k hk' => hk'.elim (hk k) fun hf => (h1.fplt hf).1)
  refine ⟨⟨sv, g, q, vs, h1.mod hm (fun k hf e => h6 k e hf), h2, h3, h4, hq.mono fun k e => ?_, fun k e hf => ?_⟩, fun k e => ?_, h.inv⟩
  · rcases e with (e | e) | e
    · exact .inl (.inl e)
    · exact .inr e
    · exact .inl (.inr e)
  · rcases e with e | e
    · exact h6 k e hf
    · have := (h1.fplt hf).2; omega
  · rcases e with e | e
    · exact Nat.lt_of_lt_of_le (h.klt k e) hm.size
    · exact e.2
theorem OS.grow (h : OS w K p m fs part bs wr) (hb : Below wr.heap.size wr w') : OS w (More K wr w') p m fs part bs w' := by
  obtain ⟨sv, g, q, vs, h1, h2, h3, h4, h5, h6⟩ := h.at_
  refine ⟨⟨sv, g, q, vs, h1.below hb, h2, h3, h4, (h5.grow hb).mono fun k e => ?_, fun k e hf => ?_⟩, fun k e => ?_, h.inv⟩
  · rcases e with (e | e) | e
    · exact .inl (.inl e)
    · exact .inr e
    · exact .inl (.inr e)
  · rcases e with e | e
    · exact h6 k e hf
    · have := (h1.fplt hf).2; omega
  · rcases e with e | e
    · exact Nat.lt_of_lt_of_le (h.klt k e) hb.size
    · exact e.2
theorem OS.drewN (h : OS w K p m fs part bs wr) (n : Nat) : OS w K p m fs part bs (wr.drewN n) := (h.grow (Below.drewN' wr n)).mono fun _ e => .inl e
theorem none_o (p q : Nat) (W : World) (h : W.cell? ⟨p, 3, none⟩ = some (.pointer (some ⟨q, 0, none⟩))) : Calls Try.prog 28 #[.pointer (some ⟨p, 0, none⟩)] W fun e w' => e = .returned (.bool false) ∧ W = w' := by
  go_enter Try.func28, Try.ntmps28
  go_wp2
  go_ret
  exact ⟨rfl, rfl⟩
theorem none_onil (W : World) : Calls Try.prog 28 #[.pointer none] W fun e w' => e = .returned (.bool true) ∧ W = w' := by
  go_enter Try.func28, Try.ntmps28
  go_wp2
  go_ret
  exact ⟨rfl, rfl⟩
theorem OS.len (h : OS w K p m fs part bs wr) : Calls Try.prog 15 #[.pointer (some ⟨p, 0, none⟩)] wr fun e w' => e = .returned (.int .i64 bs.length) ∧ ∃ q, w' = wr.drewN q := by
  obtain ⟨sv, g, q, vs, h1, _, _, _, h5, _⟩ := h.at_
  have HN := Lib.hid (none_o p q wr h1.c3)
  have HL := Lib.hid h5.len
  have c3 := h1.c3
  clear h h1 h5
  go_enter Try.func15, Try.ntmps15
  go_wp2_with (first | (go_at_call 28; refine HN.out.mono ?_; rintro e w' ⟨rfl, rfl⟩) | (go_at_call 38; refine HL.out.mono ?_; rintro e w' ⟨rfl, q, rfl⟩))
  go_ret
  exact ⟨rfl, _, rfl⟩
theorem OS.room (h : OS w K p m fs part bs wr) : Calls Try.prog 16 #[.pointer (some ⟨p, 0, none⟩)] wr fun e w' => e = .returned (.int .i64 (m - bs.length)) ∧ ∃ q, w' = wr.drewN q := by
  obtain ⟨sv, g, q, vs, h1, _, _, _, h5, _⟩ := h.at_
  have HN := Lib.hid (none_o p q wr h1.c3)
  have HL := Lib.hid h5.room
  have c3 := h1.c3
  clear h h1 h5
  go_enter Try.func16, Try.ntmps16
  go_wp2_with (first | (go_at_call 28; refine HN.out.mono ?_; rintro e w' ⟨rfl, rfl⟩) | (go_at_call 39; refine HL.out.mono ?_; rintro e w' ⟨rfl, q, rfl⟩))
  go_ret
  exact ⟨rfl, _, rfl⟩
theorem OS.begun (h : OS w K p m fs part bs wr) : Calls Try.prog 12 #[.pointer (some ⟨p, 0, none⟩)] wr fun e w' => e = .returned (.int .i64 part) ∧ ∃ q, w' = wr.drewN q := by
  obtain ⟨sv, g, q, vs, h1, _, _, _, h5, _⟩ := h.at_
  have HN := Lib.hid (none_o p q wr h1.c3)
  have c2 := h1.c2
  clear h h1 h5
  go_enter Try.func12, Try.ntmps12
  go_wp2_with (first | (go_at_call 28; refine HN.out.mono ?_; rintro e w' ⟨rfl, rfl⟩))
  go_ret
  exact ⟨rfl, 0, rfl⟩
theorem OS.frames (h : OS w K p m fs part bs wr) : Calls Try.prog 17 #[.pointer (some ⟨p, 0, none⟩)] wr fun e w' => e = .returned (.int .i64 fs.length) ∧ ∃ q, w' = wr.drewN q := by
  obtain ⟨sv, g, q, vs, h1, h2, h3, h4, h5, _⟩ := h.at_
  have HN := Lib.hid (none_o p q wr h1.c3)
  obtain ⟨ao, _, _, hL⟩ := oleft_any _ p g q part m sv vs wr h1 h2 (by omega)
  have hn : vs.length - g = fs.length := by rw [← h4, List.length_drop]
  obtain ⟨n, hn'⟩ : ∃ n, n = fs.length := ⟨_, rfl⟩
  rw [hn, ← hn'] at hL
  rw [← hn']
  have hnl : n ≤ 3000000 := by omega
  have HL := Lib.hid hL
  have c3 := h1.c3
  clear h h1 h5 hL h4 hn hn'
  go_enter Try.func17, Try.ntmps17
  go_wp2_with (first | (go_at_call 28; refine HN.out.mono ?_; rintro e w' ⟨rfl, rfl⟩) | (go_at_call 40; refine HL.out.mono ?_; rintro e w' ⟨rfl, q, rfl⟩))
  go_ret
  exact ⟨rfl, _, rfl⟩
end
theorem New_obad (m : Int) (w : World) (h : m < 0 ∨ 1048576 < m) : Calls Try.prog 9 #[.int .i64 m] w fun e w' => e = .returned (.tuple #[.pointer none, .int .i64 2]) ∧ w = w' := by
  have HN := Lib.hid (New_bad m w h)
  clear h
  go_enter Try.func9, Try.ntmps9
  go_wp2_with (go_at_call 27; refine HN.out.mono ?_; rintro e w' ⟨rfl, rfl⟩)
  go_ret2
  exact ⟨rfl, rfl⟩
theorem New_os (m : Int) (w w0 : World) (h0 : 0 ≤ m) (h1 : m ≤ 1048576) (hb : Below w.heap.size w w0) : Calls Try.prog 9 #[.int .i64 m] w0 fun e w' => ∃ p, e = .returned (.tuple #[.pointer (some ⟨p, 0, none⟩), .int .i64 0]) ∧ OS w (fun k => w.heap.size ≤ k ∧ k < w0.heap.size) p m [] 0 [] w' ∧ Below w0.heap.size w0 w' ∧ w0.heap.size ≤ p := by
  have HN := Lib.hid (New_qs m w w0 h0 h1 hb)
  have hs0 := hb.size
  clear hb
  go_enter Try.func9, Try.ntmps9
  go_wp2_with (go_at_call 27; fail)
  refine HN.out.mono ?_
  rintro e w1 ⟨q, rfl, hq, hb1, hq0⟩
  have HQ := Lib.hid hq
  have HB1 := Lib.hid hb1
  have HQ0 := Lib.hid hq0
  clear hq hb1 hq0 HN
  go_wp2
  go_ret2
  have hb2 : Below w1.heap.size w1 (w1.alloc (.cells #[.slice none 0 0, .int .i64 0, .int .i64 0, .pointer (some ⟨q, 0, none⟩), .int .i64 m] 63)) := (Below.refl _ w1).alloc (Nat.le_refl _) _
  have hb1 := HB1.out.size
  have hqs := (HQ.out.grow hb2)
  refine ⟨w1.heap.size, rfl, ⟨⟨.slice none 0 0, 0, q, [], ⟨alloc_blk_new _ _, World.ownsRow_nil _ _ _ _, (fun k e => by cases e), by omega⟩, Nat.le_refl _, by simp, rfl, hqs.mono fun k hk => ?_, fun k hk hf => ?_⟩, fun k hk => by simp; omega, OInv.nil'⟩, HB1.out.trans (hb2.mono hb1), hb1⟩
  · rcases hk with hk | hk
    · exact .inl hk
    · rcases hk with rfl | hk
      · exact .inr (by simp)
      · cases hk
  · rcases hf with rfl | hf
    · omega
    · cases hf
end Go.Proofs.Ytneeagabmdpjgaa
