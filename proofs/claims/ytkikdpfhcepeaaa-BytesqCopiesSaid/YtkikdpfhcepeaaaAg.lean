/-
  A call by both: more of act.
-/
import Derived.Test.YtkikdpfhcepeaaaAf
namespace Go.Proofs.Ytkikdpfhcepeaaa
open Go.RowKit
set_option linter.unusedVariables false
set_option linter.unusedSimpArgs false

/-- One row of one's own; two; three, none of which shares a block. -/
structure R1 (V W : World) (a : Option Addr) (n c : Nat) (xs : List Int) : Prop where
  below : Below V.heap.size V W
  ra : W.ownsRow V.heap.size 5 1 (.slice a n c) n (xs.map (.int .u8))
structure R2 (V W : World) (a : Option Addr) (n c : Nat) (xs : List Int) (b : Option Addr) (k d : Nat) (ys : List Int) : Prop where
  below : Below V.heap.size V W
  ra : W.ownsRow V.heap.size 5 1 (.slice a n c) n (xs.map (.int .u8))
  rb : W.ownsRow V.heap.size 5 1 (.slice b k d) k (ys.map (.int .u8))
  ab : ∀ q, (Value.slice a n c).ownBlock = some q → (Value.slice b k d).ownBlock = some q → False
structure R3 (V W : World) (a : Option Addr) (n c : Nat) (xs : List Int) (b : Option Addr) (k d : Nat) (ys : List Int) (e : Option Addr) (l f : Nat) (zs : List Int) : Prop where
  r2 : R2 V W a n c xs b k d ys
  rc : W.ownsRow V.heap.size 5 1 (.slice e l f) l (zs.map (.int .u8))
  ac : ∀ q, (Value.slice a n c).ownBlock = some q → (Value.slice e l f).ownBlock = some q → False
  bc : ∀ q, (Value.slice b k d).ownBlock = some q → (Value.slice e l f).ownBlock = some q → False
theorem row_bel {W W' : World} {base : Nat} {v : Value} {n : Nat} {xs : List Value} (h : W.ownsRow base 5 1 v n xs) (hb : Below W.heap.size W W') : W'.ownsRow base 5 1 v n xs := Mod.row (Mod.of_below hb (fun _ => False)) h (fun _ _ h => h)
theorem row_grown {W W' : World} {base : Nat} {v u : Value} {n : Nat} {xs : List Value} (h : W.ownsRow base 5 1 v n xs) (hg : W.grownBy W' u.ownBlock) (hs : ∀ q, v.ownBlock = some q → u.ownBlock = some q → False) : W'.ownsRow base 5 1 v n xs :=
  Mod.row (Mod.grown (S := fun q => u.ownBlock = some q) (Mod.refl _ W) hg (fun q hq => .inl hq)) h (fun q h1 h2 => hs q h1 h2)
theorem below_grown {V W W' : World} {u : Value} {n : Nat} {xs : List Value} (h : Below V.heap.size V W) (hr : W.ownsRow V.heap.size 5 1 u n xs) (hg : W.grownBy W' u.ownBlock) : Below V.heap.size V W' :=
  h.grown hg h.size (fun q hq => (hr.lt q hq).1)
theorem lit_row (W : World) (base : Nat) (hb : base ≤ W.heap.size) : (W.alloc (.cells #[] 5)).ownsRow base 5 1 (.slice (some ⟨W.heap.size, 0, none⟩) 0 0) 0 (([] : List Int).map (.int .u8)) := Joins.ownsRow_le (World.ownsRow_lit W #[] 0 (Nat.le_refl _) (by simp) rfl) hb
section
variable {V W W' : World} {a b e a' b' e' : Option Addr} {n c k d l f n' c' k' d' l' f' : Nat} {xs ys zs xs' ys' zs' : List Int}
theorem R1.start (h : Below V.heap.size V W) : R1 V (W.alloc (.cells #[] 5)) (some ⟨W.heap.size, 0, none⟩) 0 0 [] := ⟨h.alloc h.size _, lit_row W _ h.size⟩
theorem R1.app (h : R1 V W a n c xs) (hg : W.grownBy W' (Value.slice a n c).ownBlock) (ho : W'.ownsRow V.heap.size 5 1 (.slice a' n' c') n' (xs'.map (.int .u8))) : R1 V W' a' n' c' xs' := ⟨below_grown h.below h.ra hg, ho⟩
theorem R1.lit (h : R1 V W a n c xs) : R2 V (W.alloc (.cells #[] 5)) a n c xs (some ⟨W.heap.size, 0, none⟩) 0 0 [] :=
  ⟨h.below.alloc h.below.size _, row_bel h.ra ((Below.refl _ W).alloc (Nat.le_refl _) _), lit_row W _ h.below.size, fun q h1 h2 => by have := (h.ra.lt q h1).2; simp [Value.ownBlock] at h2; omega⟩
theorem R2.symm (h : R2 V W a n c xs b k d ys) : R2 V W b k d ys a n c xs := ⟨h.below, h.rb, h.ra, fun q h1 h2 => h.ab q h2 h1⟩
theorem R2.appA (h : R2 V W a n c xs b k d ys) (hg : W.grownBy W' (Value.slice a n c).ownBlock) (ho : W'.ownsRow V.heap.size 5 1 (.slice a' n' c') n' (xs'.map (.int .u8))) (hf : ∀ q, (Value.slice a' n' c').ownBlock = some q → (Value.slice a n c).ownBlock = some q ∨ W.heap.size ≤ q) : R2 V W' a' n' c' xs' b k d ys :=
  ⟨below_grown h.below h.ra hg, ho, row_grown h.rb hg (fun q h1 h2 => h.ab q h2 h1), fun q h1 h2 => by
    rcases hf q h1 with h3 | h3
    · exact h.ab q h3 h2
    · have := (h.rb.lt q h2).2; omega⟩
theorem R2.bel (h : R2 V W a n c xs b k d ys) (hb : Below W.heap.size W W') : R2 V W' a n c xs b k d ys := ⟨h.below.trans (hb.mono h.below.size), row_bel h.ra hb, row_bel h.rb hb, h.ab⟩
theorem R2.lit (h : R2 V W a n c xs b k d ys) : R3 V (W.alloc (.cells #[] 5)) a n c xs b k d ys (some ⟨W.heap.size, 0, none⟩) 0 0 [] :=
  ⟨h.bel ((Below.refl _ W).alloc (Nat.le_refl _) _), lit_row W _ h.below.size, fun q h1 h2 => by have := (h.ra.lt q h1).2; simp [Value.ownBlock] at h2; omega, fun q h1 h2 => by have := (h.rb.lt q h1).2; simp [Value.ownBlock] at h2; omega⟩
theorem R3.bel (h : R3 V W a n c xs b k d ys e l f zs) (hb : Below W.heap.size W W') : R3 V W' a n c xs b k d ys e l f zs := ⟨h.r2.bel hb, row_bel h.rc hb, h.ac, h.bc⟩
theorem R3.appC (h : R3 V W a n c xs b k d ys e l f zs) (hg : W.grownBy W' (Value.slice e l f).ownBlock) (ho : W'.ownsRow V.heap.size 5 1 (.slice e' l' f') l' (zs'.map (.int .u8))) (hf : ∀ q, (Value.slice e' l' f').ownBlock = some q → (Value.slice e l f).ownBlock = some q ∨ W.heap.size ≤ q) : R3 V W' a n c xs b k d ys e' l' f' zs' :=
  ⟨⟨below_grown h.r2.below h.rc hg, row_grown h.r2.ra hg h.ac, row_grown h.r2.rb hg h.bc, h.r2.ab⟩, ho, fun q h1 h2 => by
    rcases hf q h2 with h3 | h3
    · exact h.ac q h1 h3
    · have := (h.r2.ra.lt q h1).2; omega, fun q h1 h2 => by
    rcases hf q h2 with h3 | h3
    · exact h.bc q h1 h3
    · have := (h.r2.rb.lt q h1).2; omega⟩
end
/-- What act's second statement leaves. -/
structure O6 (W0 : World) (K0 : Nat → Prop) (u : Nat) (m : Int) (a : Option Addr) (c : Nat) (xs : List Int) (b : Option Addr) (d : Nat) (ys : List Int) (ra1 : Option Addr) (rc1 : Nat) (bs : List Int) (B : Nat) (wx : World) : Prop where
  r2 : R2 W0 wx a xs.length c xs b ys.length d ys
  box : wx.heap[B]? = some (.cells #[.slice ra1 bs.length rc1, .int .i64 m] 39 (0, 0))
  lo : W0.heap.size ≤ B
  na : ∀ q, (Value.slice a xs.length c).ownBlock = some q → q ≠ B
  arg : Arg (fun q => (K0 q ∧ q < u) ∨ (W0.heap.size ≤ q ∧ (Value.slice a xs.length c).ownBlock ≠ some q)) wx ra1 bs.length bs
theorem O6.of {W0 W : World} {K0 : Nat → Prop} {u : Nat} {m : Int} {a b ra1 : Option Addr} {c d rc1 B : Nat} {xs ys bs : List Int} {v : Value} (hu : u ≤ W0.heap.size) (h : R2 W0 W a xs.length c xs b ys.length d ys) (hB : W.heap[B]? = some (.cells #[v, .int .i64 0] 39 (0, 0))) (lo : W0.heap.size ≤ B)
    (na : ∀ q, (Value.slice a xs.length c).ownBlock = some q → q ≠ B) (nb : ∀ q, (Value.slice b ys.length d).ownBlock = some q → q ≠ B)
    (ha : Arg (fun q => (K0 q ∧ q < u) ∨ (W0.heap.size ≤ q ∧ q ≠ B ∧ (Value.slice a xs.length c).ownBlock ≠ some q)) W ra1 bs.length bs) :
    O6 W0 K0 u m a c xs b d ys ra1 rc1 bs B ((W.setCell ⟨B, 0, none⟩ (.slice ra1 bs.length rc1)).setCell ⟨B, 1, none⟩ (.int .i64 m)) := by
  have hM : Mod (fun q => q = B) W ((W.setCell ⟨B, 0, none⟩ (.slice ra1 bs.length rc1)).setCell ⟨B, 1, none⟩ (.int .i64 m)) := ((Mod.refl (fun q => q = B) W).setCell ⟨B, 0, none⟩ (.inl rfl) _).setCell ⟨B, 1, none⟩ (.inl rfl) _
  refine ⟨⟨(h.below.setCell (p := ⟨B, 0, none⟩) lo _).setCell (p := ⟨B, 1, none⟩) lo _, hM.row h.ra na, hM.row h.rb nb, h.ab⟩, setCell_blk (setCell_blk hB 0 _) 1 _, lo, na, ?_⟩
  exact (ha.mod hM (fun q hq e => by rcases hq with hq | hq <;> omega)).mono fun q _ hq => hq.imp id (fun h => ⟨h.1, h.2.2⟩)

/-- A box that was laid out among rows, and is none of theirs. -/
structure N6 (V W : World) (B : Nat) (vs : List Value) : Prop where
  box : W.heap[B]? = some (.cells #[.slice none 0 0, .int .i64 0] 39 (0, 0))
  lo : V.heap.size ≤ B
  no : ∀ v ∈ vs, ∀ q, v.ownBlock = some q → q ≠ B
section
variable {V W W' : World} {B : Nat} {u u' : Value} {vs : List Value}
theorem N6.start (h : V.heap.size ≤ W.heap.size) (hv : ∀ v ∈ vs, ∀ q, v.ownBlock = some q → q < W.heap.size) : N6 V (W.alloc (.cells #[.slice none 0 0, .int .i64 0] 39)) W.heap.size vs :=
  ⟨alloc_blk_new _ _, h, fun v hv' q hq => by have := hv v hv' q hq; omega⟩
theorem N6.bel (h : N6 V W B vs) (hb : Below W.heap.size W W') : N6 V W' B vs := ⟨(hb.block _ (blk_lt h.box)).trans h.box, h.lo, h.no⟩
theorem N6.lit (h : N6 V W B vs) : N6 V (W.alloc (.cells #[] 5)) B (.slice (some ⟨W.heap.size, 0, none⟩) 0 0 :: vs) := by
  have hB := blk_lt h.box
  refine ⟨(h.bel ((Below.refl _ W).alloc (Nat.le_refl _) _)).box, h.lo, fun v hv q hq => ?_⟩
  rcases List.mem_cons.1 hv with rfl | hv
  · simp [Value.ownBlock] at hq; omega
  · exact h.no v hv q hq
theorem N6.app (h : N6 V W B (u :: vs)) (hg : W.grownBy W' u.ownBlock) (hf : ∀ q, u'.ownBlock = some q → u.ownBlock = some q ∨ W.heap.size ≤ q) : N6 V W' B (u' :: vs) := by
  have hB := blk_lt h.box
  refine ⟨(hg.block B hB (fun e => h.no u (by simp) B e.symm rfl)).trans h.box, h.lo, fun v hv q hq => ?_⟩
  rcases List.mem_cons.1 hv with rfl | hv
  · rcases hf q hq with e | e
    · exact h.no u (by simp) q e
    · omega
  · exact h.no v (by simp [hv]) q hq
end

/-- Both queues take the same, or refuse it alike. -/
theorem push_both (m : Int) (bs xa xb : List Int) (hm0 : 0 ≤ m) (hm1 : m ≤ 1048576) (hb : (bs.length : Int) ≤ m) (hl : xa.length + xb.length ≤ 300) :
    ∃ (er : Int) (bs' : List Int), bs'.length ≤ 1048576 ∧ ((∀ x ∈ bs, 0 ≤ x ∧ x < 256) → (∀ x ∈ xa, 0 ≤ x ∧ x < 256) → (∀ x ∈ xb, 0 ≤ x ∧ x < 256) → ∀ x ∈ bs', 0 ≤ x ∧ x < 256) ∧
      (∀ (T U : Nat → Prop) (W : World) (ra : Option Addr) (rc : Nat) (b : Option Addr) (k bc : Nat), k = xa.length + xb.length → Rf T W ra rc bs → Arg U W b k (xa ++ xb) → (b = none → k = 0 ∧ bc = 0) → Calls Try.prog 27 #[qagg ra bs.length rc m, .slice b k bc] W fun e w' => ∃ a' c', e = .returned (.tuple #[qagg a' bs'.length c' m, .int .i64 er]) ∧
        Rf (fun q => T q ∨ W.heap.size ≤ q) w' a' c' bs' ∧ Below W.heap.size W w') ∧
      (∀ (w W : World) (K : Nat → Prop) (p : Nat) (pa : Option Addr) (pc : Nat), QS w K p m bs W → Parts (fun k => k < w.heap.size ∨ K k) W pa [xa, xb] → Calls Try.prog 11 #[.pointer (some ⟨p, 0, none⟩), .slice pa 2 pc] W fun e w' => e = .returned (.int .i64 er) ∧ QS w K p m bs' w' ∧ Mod (fun k => ¬ K k ∧ w.heap.size ≤ k) W w') := by
  have hfl : [xa, xb].flatten.length = xa.length + xb.length := by rw [flat_two, List.length_append]
  by_cases hf : (bs.length : Int) + ((xa.length : Int) + xb.length) ≤ m
  · refine ⟨0, bs ++ (xa ++ xb), by rw [List.length_append, List.length_append]; omega, fun h1 h2 h3 x hx => ?_, ?_, ?_⟩
    · rcases List.mem_append.1 hx with hx | hx
      · exact h1 x hx
      · rcases List.mem_append.1 hx with hx | hx
        · exact h2 x hx
        · exact h3 x hx
    · intro T U W ra rc b k bc hk hr hy hn
      subst hk
      refine (refPush_ok T U ra bs.length rc m bs b (xa.length + xb.length) bc (xa ++ xb) W hr.at_ hr.na hy hn hm0 hm1 hb (by omega) (by omega)).mono ?_
      rintro e w' ⟨a', c', rfl, hro, hbel⟩
      have hL : bs.length + (xa.length + xb.length) = (bs ++ (xa ++ xb)).length := by rw [List.length_append, List.length_append]
      rw [hL] at hro ⊢
      obtain ⟨_, hA, hna⟩ := row_arg hro
      refine ⟨a', c', rfl, ⟨hA.mono (fun q _ hq => .inr hq), hna, fun ad e => ?_, ?_, ?_⟩, hbel⟩
      · subst e
        rcases hro.2 with ⟨e, _⟩ | ⟨g, cap, cur, e, _⟩
        · cases e
        · injection e with e1 e2 e3
          injection e1 with e1
          rw [e1]
      · rcases hro.2 with ⟨e, h0⟩ | ⟨g, cap, cur, e, _, _, h1, _⟩
        · rw [h0]; exact Nat.zero_le _
        · injection e with e1 e2 e3
          rw [e3]; exact h1
      · rcases hro.2 with ⟨e, h0⟩ | ⟨g, cap, cur, e, _, _, _, h1, _⟩
        · injection e with e1 e2 e3
          rw [e3]; exact Nat.zero_le _
        · injection e with e1 e2 e3
          rw [e3]; exact h1
    · intro w W K p pa pc hq hP
      exact hq.push_ok pa pc 2 [xa, xb] rfl (by simp) (by omega) hP (by omega) _ (by rw [flat_two])
  · refine ⟨120, bs, by omega, fun h1 _ _ => h1, ?_, ?_⟩
    · intro T U W ra rc b k bc hk hr hy hn
      subst hk
      refine (refPush_full ra bs.length rc m b (xa.length + xb.length) bc W hm0 hm1 hb (by omega) (by omega)).mono ?_
      rintro e w' ⟨rfl, hbel⟩
      exact ⟨ra, rc, rfl, ⟨(hr.at_.below hbel).mono (fun q _ hq => .inl hq), hr.na, hr.sp, hr.cl, hr.cm⟩, hbel⟩
    · intro w W K p pa pc hq hP
      exact hq.push_no pa pc 2 [xa, xb] rfl (by simp) (by omega) hP (by omega)
end Go.Proofs.Ytkikdpfhcepeaaa
