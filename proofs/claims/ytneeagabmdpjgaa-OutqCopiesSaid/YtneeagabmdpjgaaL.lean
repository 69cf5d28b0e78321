/-
  A queue as its callers know it: the bytes that wait, and blocks that are none of its own.
-/
import Derived.Test.YtneeagabmdpjgaaI
namespace Go.Proofs.Ytneeagabmdpjgaa
open Go.RowKit
set_option linter.unusedVariables false
set_option linter.unusedSimpArgs false

/-- What the callers know of a queue: K: blocks that are none of its own. -/
structure QS (w : World) (K : Nat → Prop) (p : Nat) (m : Int) (bs : List Int) (wr : World) : Prop where
  below : Below w.heap.size w wr
  qu : ∃ sv g vs, Qu wr w.heap.size p m sv g vs bs ∧ ∀ k, K k → ¬ FP p sv k
  klt : ∀ k, K k → k < wr.heap.size
/-- K, and what was made since. -/
def More (K : Nat → Prop) (w w' : World) (k : Nat) : Prop := K k ∨ (w.heap.size ≤ k ∧ k < w'.heap.size)
section
variable {w wr w' : World} {K : Nat → Prop} {p : Nat} {m : Int} {bs bs' : List Int}
theorem QS.mono {L : Nat → Prop} (h : QS w K p m bs wr) (hl : ∀ k, L k → K k) : QS w L p m bs wr := by
  obtain ⟨sv, g, vs, hq, hk⟩ := h.qu
  exact ⟨h.below, ⟨sv, g, vs, hq, fun k hL => hk k (hl k hL)⟩, fun k hL => h.klt k (hl k hL)⟩
/-- Behind a step of the queue itself. -/
theorem QS.step {sv sv' : Value} {g g' : Nat} {vs vs' : List Int} (h : QS w K p m bs wr) (hq : Qu wr w.heap.size p m sv g vs bs) (hk : ∀ k, K k → ¬ FP p sv k) (hs : Step p sv sv' wr w') (hq' : Qu w' w.heap.size p m sv' g' vs' bs') :
    QS w K p m bs' w' ∧ Mod (fun k => ¬ K k ∧ w.heap.size ≤ k) wr w' := by
  have hM : Mod (fun k => ¬ K k ∧ w.heap.size ≤ k) wr w' := hs.mod.mono fun k hlt hf => ⟨fun e => hk k e hf, (hq.at_.fplt hf).1⟩
  refine ⟨⟨(Mod.trans (S := fun k => w.heap.size ≤ k) (Mod.of_below h.below _) hM (fun k hk hf => hf.2)).below (fun k hk => by omega), ⟨sv', g', vs', hq', fun k e hf => ?_⟩, fun k e => Nat.lt_of_lt_of_le (h.klt k e) hs.mod.size⟩, hM⟩
  rcases hs.fp k hf with h' | h'
  · exact hk k e h'
  · have := h.klt k e; omega
/-- Behind whatever leaves all blocks but those of K as they were, or new. -/
theorem QS.turn (h : QS w K p m bs wr) (hm : Mod K wr w') (hk : ∀ k, K k → w.heap.size ≤ k) : QS w (More K wr w') p m bs w' := by
  obtain ⟨sv, g, vs, hq, hK⟩ := h.qu
  refine ⟨(Mod.trans (S := fun k => w.heap.size ≤ k) (Mod.of_below h.below _) hm (fun k _ e => hk k e)).below (fun k hk => by omega), ⟨sv, g, vs, hq.mod hm (fun k hf e => hK k e hf), fun k e hf => ?_⟩, fun k e => ?_⟩
  · rcases e with e | e
    · exact hK k e hf
    · have := (hq.at_.fplt hf).2; omega
  · rcases e with e | e
    · exact Nat.lt_of_lt_of_le (h.klt k e) hm.size
    · exact e.2
theorem QS.grow (h : QS w K p m bs wr) (hb : Below wr.heap.size wr w') : QS w (More K wr w') p m bs w' := by
  obtain ⟨sv, g, vs, hq, hK⟩ := h.qu
  refine ⟨h.below.trans (hb.mono h.below.size), ⟨sv, g, vs, hq.below hb, fun k e hf => ?_⟩, fun k e => ?_⟩
  · rcases e with e | e
    · exact hK k e hf
    · have := (hq.at_.fplt hf).2; omega
  · rcases e with e | e
    · exact Nat.lt_of_lt_of_le (h.klt k e) hb.size
    · exact e.2
theorem QS.drewN (h : QS w K p m bs wr) (n : Nat) : QS w K p m bs (wr.drewN n) := (h.grow (Below.drewN' wr n)).mono fun _ e => .inl e
theorem QS.len (h : QS w K p m bs wr) : Calls Try.prog 38 #[.pointer (some ⟨p, 0, none⟩)] wr fun e w' => e = .returned (.int .i64 bs.length) ∧ ∃ q, w' = wr.drewN q := by
  obtain ⟨sv, g, vs, hq, _⟩ := h.qu
  have h1 := Len_any _ p g m sv vs wr hq.at_ hq.hg (by have := hq.hl; have := hq.hm1; omega)
  rwa [hq.len] at h1
theorem QS.room (h : QS w K p m bs wr) : Calls Try.prog 39 #[.pointer (some ⟨p, 0, none⟩)] wr fun e w' => e = .returned (.int .i64 (m - bs.length)) ∧ ∃ q, w' = wr.drewN q := by
  obtain ⟨sv, g, vs, hq, _⟩ := h.qu
  have h1 := Room_any _ p g m sv vs wr hq.at_ hq.hg (by have := hq.hl; have := hq.hm1; omega) hq.hm0 hq.hm1
  rwa [hq.len] at h1
theorem QS.bounds (h : QS w K p m bs wr) : 0 ≤ m ∧ m ≤ 1048576 ∧ (bs.length : Int) ≤ m := by
  obtain ⟨sv, g, vs, hq, _⟩ := h.qu
  exact ⟨hq.hm0, hq.hm1, hq.fit⟩
theorem QS.lt (h : QS w K p m bs wr) : w.heap.size ≤ p ∧ p < wr.heap.size := by
  obtain ⟨sv, g, vs, hq, _⟩ := h.qu
  exact ⟨hq.at_.lo, hq.at_.lt⟩
theorem QS.c3 (h : QS w K p m bs wr) : wr.cell? ⟨p, 3, none⟩ = some (.bool true) := by
  obtain ⟨sv, g, vs, hq, _⟩ := h.qu
  exact hq.at_.c3
theorem QS.take (h : QS w K p m bs wr) (most : Int) (h0 : 0 ≤ most) (k : Nat) (hk : kOf most bs.length = k) (xs ys : List Int) (hx : bs.take k = xs) (hy : bs.drop k = ys) :
    Calls Try.prog 36 #[.pointer (some ⟨p, 0, none⟩), .int .i64 most] wr fun e w' => ∃ a c, e = .returned (.tuple #[.slice a k c, .int .i64 0]) ∧
      w'.ownsRow wr.heap.size 5 1 (.slice a k c) k (xs.map (.int .u8)) ∧ QS w (More K wr w') p m ys w' ∧ Mod (fun k => ¬ K k ∧ w.heap.size ≤ k) wr w' := by
  obtain ⟨sv, g, vs, hq, hK⟩ := h.qu
  subst hk hx hy
  refine (Take_any _ p g m most sv vs wr hq.at_ hq.hg (by have := hq.hl; have := hq.hm1; omega) h0).mono ?_
  rintro e w' ⟨a, c, rfl, hr, hqa, hs⟩
  have hl := hq.len
  have hg := hq.hg
  have hk := kOf_le most bs.length
  rw [hl] at hr hqa ⊢
  rw [hq.hb] at hr
  have hq2 : Qu w' w.heap.size p m sv (g + kOf most bs.length) vs (bs.drop (kOf most bs.length)) := ⟨hqa, by omega, by rw [← List.drop_drop, hq.hb], hq.hl, hq.hm0, hq.hm1, by have := hq.fit; rw [List.length_drop]; omega⟩
  obtain ⟨h1, h2⟩ := h.step hq hK hs hq2
  refine ⟨a, c, rfl, hr, ⟨h1.below, ⟨sv, _, vs, hq2, fun k e hf => ?_⟩, fun k e => ?_⟩, h2⟩
  · rcases e with e | e
    · exact hK k e hf
    · have := (hq.at_.fplt hf).2; omega
  · rcases e with e | e
    · exact h1.klt k e
    · exact e.2
theorem QS.take_bad (h : QS w K p m bs wr) (most : Int) (h0 : most < 0) :
    Calls Try.prog 36 #[.pointer (some ⟨p, 0, none⟩), .int .i64 most] wr fun e w' => e = .returned (.tuple #[.slice none 0 0, .int .i64 2]) ∧ wr = w' := Take_bad p most wr h.c3 h0
theorem QS.drop_bad (h : QS w K p m bs wr) (most : Int) (h0 : most < 0) :
    Calls Try.prog 35 #[.pointer (some ⟨p, 0, none⟩), .int .i64 most] wr fun e w' => e = .returned (.tuple #[.int .i64 0, .int .i64 2]) ∧ wr = w' := Drop_bad p most wr h.c3 h0
theorem QS.peek_bad (h : QS w K p m bs wr) (most : Int) (h0 : most < 0) :
    Calls Try.prog 56 #[.pointer (some ⟨p, 0, none⟩), .int .i64 most] wr fun e w' => e = .returned (.tuple #[.slice none 0 0, .int .i64 2]) ∧ wr = w' := Peek_bad p most wr h.c3 h0
theorem QS.peek (h : QS w K p m bs wr) (most : Int) (h0 : 0 ≤ most) (k : Nat) (hk : kOf most bs.length = k) (xs : List Int) (hx : bs.take k = xs) :
    Calls Try.prog 56 #[.pointer (some ⟨p, 0, none⟩), .int .i64 most] wr fun e w' => ∃ a c, e = .returned (.tuple #[.slice a k c, .int .i64 0]) ∧
      w'.ownsRow wr.heap.size 5 1 (.slice a k c) k (xs.map (.int .u8)) ∧ QS w (More K wr w') p m bs w' ∧ Below wr.heap.size wr w' := by
  obtain ⟨sv, g, vs, hq, hK⟩ := h.qu
  subst hk hx
  refine (Peek_any _ p g m most sv vs wr hq.at_ hq.hg (by have := hq.hl; have := hq.hm1; omega) h0).mono ?_
  rintro e w' ⟨v, rfl, hr, hb'⟩
  rw [hq.len] at hr
  rw [hq.hb] at hr
  obtain ⟨a, c, rfl⟩ := row_slice hr
  exact ⟨a, c, rfl, hr, h.grow hb', hb'⟩
theorem QS.drop (h : QS w K p m bs wr) (most : Int) (h0 : 0 ≤ most) (k : Nat) (hk : kOf most bs.length = k) (ys : List Int) (hy : bs.drop k = ys) :
    Calls Try.prog 35 #[.pointer (some ⟨p, 0, none⟩), .int .i64 most] wr fun e w' => e = .returned (.tuple #[.int .i64 k, .int .i64 0]) ∧ QS w K p m ys w' ∧ Mod (fun k => ¬ K k ∧ w.heap.size ≤ k) wr w' := by
  obtain ⟨sv, g, vs, hq, hK⟩ := h.qu
  subst hk hy
  refine (Drop_any _ p g m most sv vs wr hq.at_ hq.hg (by have := hq.hl; have := hq.hm1; omega) h0).mono ?_
  rintro e w' ⟨rfl, hqa, hs⟩
  have hl := hq.len
  have hg := hq.hg
  have hk := kOf_le most bs.length
  rw [hl] at hqa ⊢
  exact ⟨rfl, h.step hq hK hs ⟨hqa, by omega, by rw [← List.drop_drop, hq.hb], hq.hl, hq.hm0, hq.hm1, by have := hq.fit; rw [List.length_drop]; omega⟩⟩
end
/-- What is told of a row that was handed out. -/
theorem row_arg {w : World} {base : Nat} {a : Option Addr} {n c : Nat} {xs : List Int} (h : w.ownsRow base 5 1 (.slice a n c) n (xs.map (.int .u8))) : xs.length = n ∧ Arg (fun k => base ≤ k) w a xs.length xs ∧ (a = none → xs.length = 0 ∧ c = 0) := by
  have hl : xs.length = n := by simpa using h.1
  subst hl
  refine ⟨rfl, ⟨rfl, fun hp => ?_⟩, fun e => ?_⟩
  · obtain ⟨b, e, ha⟩ := row_window h 0 xs.length (by omega) hp
    obtain ⟨_, h2⟩ := ha
    obtain ⟨b', off, e', hb, hT, hc⟩ := h2 hp
    subst e
    cases e'
    exact ⟨b, 0, rfl, hb, (h.lt b rfl).1, fun j hj => by have := hc j hj; simpa [List.getD, List.getElem?_take_of_lt hj] using this⟩
  · subst e
    rcases h.2 with ⟨e, _⟩ | ⟨g', c', cur, e, _⟩
    · injection e with e1 e2 e3
      exact ⟨e2, e3⟩
    · cases e
theorem Parts.mono {T U : Nat → Prop} {w : World} {pa : Option Addr} {ls : List (List Int)} (h : Parts T w pa ls) (hu : ∀ k, k < w.heap.size → T k → U k) : Parts U w pa ls := fun hp => by
  obtain ⟨b, off, e, hb, hT, hc⟩ := h hp
  refine ⟨b, off, e, hb, hu b hb hT, fun j hj => ?_⟩
  obtain ⟨a, c, h1, h2, h3⟩ := hc j hj
  exact ⟨a, c, h1, h2.mono hu, h3⟩
section
variable {w wr w' : World} {K : Nat → Prop} {p : Nat} {m : Int} {bs bs' : List Int}
/-- Push of parts that lie elsewhere. -/
theorem QS.push (h : QS w K p m bs wr) (pa : Option Addr) (pc n : Nat) (ls : List (List Int)) (hn : ls.length = n) (hln : ls.length ≤ 1000) (hfl : ls.flatten.length ≤ 1000000) (hP : Parts (fun k => k < w.heap.size ∨ K k) wr pa ls) :
    Calls Try.prog 31 #[.pointer (some ⟨p, 0, none⟩), .slice pa n pc] wr fun e w' =>
      (((bs.length : Int) + ls.flatten.length ≤ m ∧ e = .returned (.int .i64 0) ∧ QS w K p m (bs ++ ls.flatten) w') ∨ (m < (bs.length : Int) + ls.flatten.length ∧ e = .returned (.int .i64 120) ∧ QS w K p m bs w')) ∧ Mod (fun k => ¬ K k ∧ w.heap.size ≤ k) wr w' := by
  subst hn
  obtain ⟨sv, g, vs, hq, hK⟩ := h.qu
  have hP2 : Parts (fun k => ¬ FP p sv k) wr pa ls := hP.mono fun k hk ht hf => by
    rcases ht with h1 | h1
    · have := hq.at_.fplt hf; omega
    · exact hK k h1 hf
  by_cases hf : (bs.length : Int) + ls.flatten.length ≤ m
  · refine (Push_room _ p g m sv vs bs pa pc ls wr hq hln hP2 hf).mono ?_
    rintro e w' ⟨rfl, sv', g', vs', hq', hs⟩
    obtain ⟨h1, h2⟩ := h.step hq hK hs hq'
    exact ⟨.inl ⟨hf, rfl, h1⟩, h2⟩
  · refine (Push_full _ p g m sv vs bs pa pc ls wr hq hln hP2 (by omega) hfl).mono ?_
    rintro e w' ⟨rfl, q, rfl⟩
    exact ⟨.inr ⟨by omega, rfl, h.drewN q⟩, Mod.of_below (Below.drewN' wr q) _⟩
theorem QS.push_ok (h : QS w K p m bs wr) (pa : Option Addr) (pc n : Nat) (ls : List (List Int)) (hn : ls.length = n) (hln : ls.length ≤ 1000) (hfl : ls.flatten.length ≤ 1000000) (hP : Parts (fun k => k < w.heap.size ∨ K k) wr pa ls)
    (hf : (bs.length : Int) + ls.flatten.length ≤ m) (cs : List Int) (hcs : bs ++ ls.flatten = cs) :
    Calls Try.prog 31 #[.pointer (some ⟨p, 0, none⟩), .slice pa n pc] wr fun e w' => e = .returned (.int .i64 0) ∧ QS w K p m cs w' ∧ Mod (fun k => ¬ K k ∧ w.heap.size ≤ k) wr w' := by
  refine (h.push pa pc n ls hn hln hfl hP).mono ?_
  rintro e w' ⟨⟨_, rfl, h1⟩ | ⟨h0, _, _⟩, h2⟩
  · exact ⟨rfl, hcs ▸ h1, h2⟩
  · omega
theorem QS.push_no (h : QS w K p m bs wr) (pa : Option Addr) (pc n : Nat) (ls : List (List Int)) (hn : ls.length = n) (hln : ls.length ≤ 1000) (hfl : ls.flatten.length ≤ 1000000) (hP : Parts (fun k => k < w.heap.size ∨ K k) wr pa ls)
    (hf : m < (bs.length : Int) + ls.flatten.length) :
    Calls Try.prog 31 #[.pointer (some ⟨p, 0, none⟩), .slice pa n pc] wr fun e w' => e = .returned (.int .i64 120) ∧ QS w K p m bs w' ∧ Mod (fun k => ¬ K k ∧ w.heap.size ≤ k) wr w' := by
  refine (h.push pa pc n ls hn hln hfl hP).mono ?_
  rintro e w' ⟨⟨h0, _, _⟩ | ⟨_, rfl, h1⟩, h2⟩
  · omega
  · exact ⟨rfl, h1, h2⟩
theorem New_qs (m : Int) (w w0 : World) (h0 : 0 ≤ m) (h1 : m ≤ 1048576) (hb : Below w.heap.size w w0) : Calls Try.prog 27 #[.int .i64 m] w0 fun e w' => ∃ p, e = .returned (.tuple #[.pointer (some ⟨p, 0, none⟩), .int .i64 0]) ∧ QS w (fun k => w.heap.size ≤ k ∧ k < w0.heap.size) p m [] w' ∧ Below w0.heap.size w0 w' ∧ w0.heap.size ≤ p := by
  refine (New_any m w0 h0 h1).mono ?_
  rintro e w' ⟨rfl, hq, hb'⟩
  have hs := hb'.size
  refine ⟨_, rfl, ⟨hb.trans (hb'.mono hb.size), ⟨.slice none 0 0, 0, [], ⟨⟨hq.blk, World.ownsRow_nil _ _ _ _, (fun k e => by cases e), hb.size⟩, Nat.le_refl _, rfl, by simp; omega, h0, h1, by simpa using h0⟩, fun k hk hf => ?_⟩, fun k hk => by omega⟩, hb', Nat.le_refl _⟩
  rcases hf with hf | hf
  · omega
  · cases hf
end
end Go.Proofs.Ytneeagabmdpjgaa
