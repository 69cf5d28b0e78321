/-
  A range over a function, where the body may turn whatever the iterator does not hold.
-/
import Derived.Test.YtplpgjcdoodmlaaSa
namespace Go.Proofs.Ytplpgjcdoodmlaa
open Go.RowKit Go.Shelf
set_option linter.unusedVariables false
set_option linter.unusedSimpArgs false

/-- It stays while the holder of H, which may take new blocks, turns its own. -/
def Steady {β : Type} (J : (Nat → Prop) → β → World → Prop) : Prop :=
  ∀ H H' s U V, J H s U → (∀ k, H k → H' k) → (∀ k, H' k → H k ∨ U.heap.size ≤ k) → Mod H' U V → J H' s V
/-- AN ITERATOR's CONTRACT: it holds H0, and what it takes; the body keeps what it holds. -/
def SeqHeld {α : Type} (F : Fence) (n : Nat) (P : Program) (g : Nat) (lb : Array Value) (encs : α → Array Value) (H0 : Nat → Prop) (n₀ : Nat) (S Sp : List α → Prop) (N : Nat) (w : World) : Prop :=
  ∀ (l : Nat) (J Jx : (Nat → Prop) → List α → World → Prop) (W : World), Below w.heap.size w W → Steady J → Steady Jx →
    (∀ H pre x U, J H pre U → (∀ k, H k → k < U.heap.size) → pre.length < N → YieldAt F (n - 1) P l (encs x) U fun e V =>
      Kp H U V ∧ ((e = .returned (.bool true) ∧ J H (pre ++ [x]) V ∧ Below n₀ U V) ∨ (e = .returned (.bool false) ∧ Jx H (pre ++ [x]) V))) →
    J H0 [] W →
    CallsIn F n P g (#[.func (.yield l) #[] #[]] ++ lb) W fun e V => (∃ v, e = .returned v) ∧ ∃ H, (∀ k, H k → H0 k ∨ W.heap.size ≤ k) ∧ ((∃ xs, S xs ∧ J H xs V) ∨ (∃ pre, Sp pre ∧ Jx H pre V))
/-- How a round may be left. -/
def heldPost {α : Type} (H : Nat → Prop) (n₀ : Nat) (I : (Nat → Prop) → List α → World → Prop) (Ix : Code → (Nat → Prop) → List α → World → Prop) (xs : List α) (W : World) : Exit → Act → World → Prop
  | .normal, _, V => Kp H W V ∧ Below n₀ W V ∧ I H xs V
  | .ret, _, V => Kp H W V ∧ Ix .ret H xs V
  | .exit id, _, V => Kp H W V ∧ Ix (.exit id) H xs V
  | .goto t, _, V => Kp H W V ∧ Ix (.goto t) H xs V
  | .panic _, _, _ => False
  | .outgrown, _, _ => False
theorem mod_put {S : Nat → Prop} {l : Nat} {W : World} {o : Obj} (h : S l) : Mod S W (W.putObj l o) :=
  ⟨rfl, rfl, rfl, by simp, fun k hk hs => World.putObj_heap_other (fun e => hs (e ▸ h))⟩

/-- THE CALLER's LAW. -/
theorem wpIn_range_held {α : Type} {F : Fence} {n : Nat} {P : Program} {g : Operand} {ps : Array Tmp} {assign body : Code} {Q : Exit → Act → World → Prop} {a : Act} {w : World}
    (hro : F.round = none) (h1 : 1 ≤ n) {gf : Nat} {lb : Array Value} (hg : a.eval g = .func (.func gf) #[] lb) (hFg : F.fn gf) (eg : ∀ args w, (callFunc gf args).run P w = .ok (.enter gf args) w)
    {encs : α → Array Value} {H0 : Nat → Prop} (hH0 : ∀ k, H0 k → k < w.heap.size) {n₀ : Nat} (hn₀ : n₀ ≤ w.heap.size) {S Sp : List α → Prop} {N : Nat} (hseq : SeqHeld F (n - 1) P gf lb encs H0 n₀ S Sp N w) (hps : ∀ x, (encs x).size = ps.size)
    (I : (Nat → Prop) → List α → World → Prop) (Ix : Code → (Nat → Prop) → List α → World → Prop) (hI : Steady I) (hIx : ∀ c, Steady (Ix c)) (h0 : I H0 [] w) (a₁ : α → Act)
    (hassign : ∀ (l : Nat) (x : α) (W : World) (K : Act → World → Prop), K (a₁ x) W →
      assign.wpIn (F.inRound l) (n - 1 - 1) P (Exit.then K (fun _ _ _ => False)) { tmps := (ps.zip (encs x)).foldl (fun t (p, v) => t.setIfInBounds p v) a.tmps, defers := [] } W)
    (hbody : ∀ (l : Nat) (H : Nat → Prop) (pre : List α) (x : α) (W : World), I H pre W → (∀ k, H k → k < W.heap.size) → pre.length < N → body.wpIn (F.inRound l) (n - 1 - 1) P (heldPost H n₀ I Ix (pre ++ [x]) W) (a₁ x) W)
    (hdone : ∀ (D : Nat) (H : Nat → Prop) (xs : List α) (W : World), w.heap.size ≤ D → H D → S xs → I H xs W → W.heap[D]? = some (.deferred (some [])) → Q .normal { a with defers := { target := .collected D, args := #[] } :: a.defers } W)
    (hstop : ∀ (D : Nat) (H : Nat → Prop) (c : Code) (pre : List α) (W : World), w.heap.size ≤ D → H D → Sp pre → Ix c H pre W → W.heap[D]? = some (.deferred (some [])) → c.wpIn F n P Q { a with defers := { target := .collected D, args := #[] } :: a.defers } W) :
    (Code.rangeFunc g ps assign body).wpIn F n P Q a w := by
  refine wpIn_rangeFunc fun fn hfn => ?_
  rw [hro]
  obtain ⟨B, hB⟩ : ∃ B, B = w.heap.size := ⟨_, rfl⟩
  rw [← hB] at hdone hstop hn₀ hH0
  obtain ⟨rec, hrec⟩ : ∃ rec : LoopState → Option Code → Loop, rec = fun st pe => { state := st, pending := pe, fn, tmps := a.tmps, params := ps, assign, body, defers := B } := ⟨_, rfl⟩
  obtain ⟨W1, hW1⟩ : ∃ W1, W1 = (w.alloc (.deferred (some []))).alloc (.loop (rec .ready none)) := ⟨_, rfl⟩
  have s1 : W1.heap.size = B + 2 := by rw [hW1, hB]; simp
  have b1 : Below w.heap.size w W1 := by rw [hW1]; exact ((Below.refl _ w).alloc (Nat.le_refl _) _).alloc (by simp) _
  have kD : W1.heap[B]? = some (.deferred (some [])) := by rw [hW1, hB]; exact (Below.heap_alloc _ _ _ (by simp)).trans (World.alloc_heap_new w _)
  have kL : W1.heap[B + 1]? = some (.loop (rec .ready none)) := by
    have := World.alloc_heap_new (w.alloc (.deferred (some []))) (.loop (rec .ready none))
    rw [← hW1, World.size_alloc, ← hB] at this
    exact this
  -- what the body is to keep
  obtain ⟨M, hM⟩ : ∃ M : (Nat → Prop) → Nat → Prop, M = fun H k => H k ∨ k = B ∨ k = B + 1 := ⟨_, rfl⟩
  have mB : ∀ H, M H B := fun H => by rw [hM]; exact .inr (.inl rfl)
  have mL : ∀ H, M H (B + 1) := fun H => by rw [hM]; exact .inr (.inr rfl)
  have mH : ∀ {H : Nat → Prop} {k}, H k → M H k := fun h => by rw [hM]; exact .inl h
  have sI : ∀ {J : (Nat → Prop) → List α → World → Prop} {H xs U V}, Steady J → J (M H) xs U → Mod (M H) U V → J (M H) xs V := fun hs h hm => hs _ _ _ _ _ h (fun _ e => e) (fun _ e => .inl e) hm
  -- what the caller knows between two rounds, and behind a jump
  obtain ⟨J, hJ⟩ : ∃ J : (Nat → Prop) → List α → World → Prop, J = fun H pre W => I (M H) pre W ∧ W.heap[B + 1]? = some (.loop (rec .ready none)) ∧ W.heap[B]? = some (.deferred (some [])) ∧ ¬ H B ∧ ¬ H (B + 1) := ⟨_, rfl⟩
  obtain ⟨Jx, hJx⟩ : ∃ Jx : (Nat → Prop) → List α → World → Prop, Jx = fun H pre W => ∃ c, Ix c (M H) pre W ∧ W.heap[B + 1]? = some (.loop (rec .done (some c))) ∧ W.heap[B]? = some (.deferred (some [])) ∧ ¬ H B ∧ ¬ H (B + 1) := ⟨_, rfl⟩
  have lt_of : ∀ {W : World} {k : Nat} {o : Obj}, W.heap[k]? = some o → k < W.heap.size := fun h => (Array.getElem?_eq_some_iff.1 h).1
  have stM : ∀ {H H' : Nat → Prop} {U : World}, (∀ k, H k → H' k) → (∀ k, H' k → H k ∨ U.heap.size ≤ k) → (∀ k, M H k → M H' k) ∧ (∀ k, M H' k → M H k ∨ U.heap.size ≤ k) := fun e1 e2 => by
    rw [hM]
    refine ⟨fun k h => h.imp (e1 k) id, fun k h => ?_⟩
    rcases h with h | h
    · exact (e2 k h).imp .inl id
    · exact .inl (.inr h)
  have modM : ∀ {H : Nat → Prop} {U V : World}, Mod H U V → Mod (M H) U V := fun h => h.mono fun k _ e => mH e
  have aJ : Steady J := by
    rw [hJ]
    rintro H H' s U V ⟨g1, g2, g3, g4, g5⟩ e1 e2 hm
    have n1 : ¬ H' B := fun e => (e2 B e).elim g4 (fun e => by have := lt_of g3; omega)
    have n2 : ¬ H' (B + 1) := fun e => (e2 _ e).elim g5 (fun e => by have := lt_of g2; omega)
    exact ⟨hI _ _ _ _ _ g1 (stM e1 e2).1 (stM e1 e2).2 (modM hm), (hm.block _ (lt_of g2) n2).trans g2, (hm.block _ (lt_of g3) n1).trans g3, n1, n2⟩
  have aJx : Steady Jx := by
    rw [hJx]
    rintro H H' s U V ⟨c, g1, g2, g3, g4, g5⟩ e1 e2 hm
    have n1 : ¬ H' B := fun e => (e2 B e).elim g4 (fun e => by have := lt_of g3; omega)
    have n2 : ¬ H' (B + 1) := fun e => (e2 _ e).elim g5 (fun e => by have := lt_of g2; omega)
    exact ⟨c, hIx c _ _ _ _ _ g1 (stM e1 e2).1 (stM e1 e2).2 (modM hm), (hm.block _ (lt_of g2) n2).trans g2, (hm.block _ (lt_of g3) n1).trans g3, n1, n2⟩
  have j0 : J H0 [] W1 := by
    rw [hJ]
    refine ⟨hI _ _ _ _ _ h0 (fun k h => mH h) (fun k h => ?_) (Mod.of_below b1 _), kL, kD, fun h => by have := hH0 _ h; omega, fun h => by have := hH0 _ h; omega⟩
    rw [hM] at h
    rcases h with h | h | h
    · exact .inl h
    · exact .inr (by omega)
    · exact .inr (by omega)
  refine ⟨B + 1, [{ target := .collected B, args := #[] }], W1, { target := .fn (.func gf) lb, args := #[.func (.yield (B + 1)) #[] #[]] }, W1, gf, #[.func (.yield (B + 1)) #[] #[]] ++ lb, W1, ?_, ?_, ?_, ?_, fun _ => h1, ?_⟩
  · rw [hW1, hrec, hB]; exact run_enterLoop_outer _ _ _ _ _
  · simp only [resolve, hg]
    simp [go_sem]
  · intro f' hf'; simp [Target.leads] at hf'; subst hf'; exact hFg
  · simp [invoke, go_sem, eg]
  refine (hseq (B + 1) J Jx W1 b1 aJ aJx ?_ j0).mono ?_
  · -- a round
    intro H pre x U hu hHl hlen
    rw [hJ] at hu
    obtain ⟨hi, hl, hk, nB, nL⟩ := hu
    have hUl := lt_of hl
    have hy := run_yield (P := P) (args := encs x) hl (by rw [hrec]; exact hps x)
    rw [hrec] at hy
    refine ⟨fn, _, assign, body, hy, roundIn_of_wpIn hfn (hassign _ x U _ ⟨_, run_beginRound hl (by rw [hrec]), ?_⟩)⟩
    clear hy
    obtain ⟨U2, hU2⟩ : ∃ X, X = U.putObj (B + 1) (.loop { rec .ready none with state := .busy }) := ⟨_, rfl⟩
    rw [← hU2]
    have hl2 : U2.heap[B + 1]? = some (.loop { rec .ready none with state := .busy }) := by rw [hU2]; exact World.putObj_heap_same (by omega)
    have hk2 : U2.heap[B]? = some (.deferred (some [])) := by rw [hU2]; exact (World.putObj_heap_other (by omega)).trans hk
    have hb2 : Mod (M H) U U2 := by rw [hU2]; exact mod_put (mL H)
    have hz2 : U2.heap.size = U.heap.size := by rw [hU2]; simp
    have hn2 : Below n₀ U U2 := by rw [hU2]; exact below_put (by omega)
    have hMl : ∀ k, M H k → k < U2.heap.size := fun k h => by
      rw [hM] at h
      rcases h with h | h | h
      · have := hHl k h; omega
      · omega
      · omega
    refine wpIn_mono (hbody _ (M H) pre x U2 (sI hI hi hb2) hMl hlen) ?_
    -- behind the body: the record is turned once more
    have fin : ∀ (jump : Option Code) (V : World), Kp (M H) U2 V →
        (Instr.endRound (B + 1) jump).run P V = .ok (.bool jump.isNone) (V.putObj (B + 1) (.loop (rec (if jump.isNone then .ready else .done) jump))) ∧
        Kp H U (V.putObj (B + 1) (.loop (rec (if jump.isNone then .ready else .done) jump))) ∧
        (V.putObj (B + 1) (.loop (rec (if jump.isNone then .ready else .done) jump))).heap[B + 1]? = some (.loop (rec (if jump.isNone then .ready else .done) jump)) ∧
        (V.putObj (B + 1) (.loop (rec (if jump.isNone then .ready else .done) jump))).heap[B]? = some (.deferred (some [])) := by
      intro jump V hs
      have hlV := (hs.2 (B + 1) (mL H) (by omega)).trans hl2
      have he := run_endRound (P := P) jump hlV
      refine ⟨by rw [hrec] at he ⊢; exact he, ⟨by have := hs.1; simp; omega, fun k hk hkl => ?_⟩, World.putObj_heap_same (lt_of hlV), (World.putObj_heap_other (by omega)).trans ((hs.2 B (mB H) (by omega)).trans hk2)⟩
      have hne : k ≠ B + 1 := fun e => nL (e ▸ hk)
      refine (World.putObj_heap_other hne).trans ((hs.2 k (mH hk) (by omega)).trans ?_)
      rw [hU2]; exact World.putObj_heap_other hne
    rintro e a3 V hp
    cases e with
    | normal =>
      obtain ⟨hs, hbn, hi3⟩ := hp
      obtain ⟨hr, hst, hl4, hk4⟩ := fin none V hs
      refine ⟨_, _, hr, hst, .inl ⟨rfl, ?_, ?_⟩⟩
      · rw [hJ]; exact ⟨sI hI hi3 (mod_put (mL H)), hl4, hk4, nB, nL⟩
      · exact (hn2.trans hbn).trans (below_put (by omega))
    | ret =>
      obtain ⟨hr, hst, hl4, hk4⟩ := fin (some .ret) V hp.1
      refine ⟨_, _, hr, hst, .inr ⟨rfl, ?_⟩⟩
      rw [hJx]; exact ⟨.ret, sI (hIx _) hp.2 (mod_put (mL H)), hl4, hk4, nB, nL⟩
    | exit id =>
      obtain ⟨hr, hst, hl4, hk4⟩ := fin (some (.exit id)) V hp.1
      refine ⟨_, _, hr, hst, .inr ⟨rfl, ?_⟩⟩
      rw [hJx]; exact ⟨.exit id, sI (hIx _) hp.2 (mod_put (mL H)), hl4, hk4, nB, nL⟩
    | goto t =>
      obtain ⟨hr, hst, hl4, hk4⟩ := fin (some (.goto t)) V hp.1
      refine ⟨_, _, hr, hst, .inr ⟨rfl, ?_⟩⟩
      rw [hJx]; exact ⟨.goto t, sI (hIx _) hp.2 (mod_put (mL H)), hl4, hk4, nB, nL⟩
    | panic ch => exact hp.elim
    | outgrown => exact hp.elim
  · -- behind the iterator
    rw [hJ, hJx]
    rintro e V ⟨⟨v, rfl⟩, H, hHH, ⟨xs, hS, hi, hl, hk, nB, nL⟩ | ⟨pre, hSp, c, hi, hl, hk, nB, nL⟩⟩
    · exact ⟨none, _, by have := run_endLoop (P := P) hl (by rw [hrec]; simp); rw [hrec] at this; exact this, hdone B (M H) xs _ (Nat.le_refl _) (mB H) hS (sI hI hi (mod_put (mL H))) ((World.putObj_heap_other (by omega)).trans hk)⟩
    · exact ⟨some c, _, by have := run_endLoop (P := P) hl (by rw [hrec]; simp); rw [hrec] at this; exact this, hstop B (M H) c pre _ (Nat.le_refl _) (mB H) hSp (sI (hIx _) hi (mod_put (mL H))) ((World.putObj_heap_other (by omega)).trans hk)⟩
end Go.Proofs.Ytplpgjcdoodmlaa
