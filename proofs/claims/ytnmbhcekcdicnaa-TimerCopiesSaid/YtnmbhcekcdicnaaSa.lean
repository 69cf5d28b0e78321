/-
  A range over a function, where the iterator may range over another one: who reads what.
-/
import Derived.RangeFuncNested
import Derived.RangeFuncBound
import Derived.RangeFuncCalls
import Derived.RangeFuncLeaves
import Derived.Shelf.Abstract
import Derived.Shelf.RegionOpen
import Derived.WalkKit
import Derived.OwnWalkIn
import Derived.TacticsInMore
import Derived.LoopNIn
import Derived.LoopIn
import Derived.Scope
import Derived.Test.YtnmbhcekcdicnaaCom
namespace Go.Proofs.Ytnmbhcekcdicnaa
open Go.RowKit Go.Shelf
set_option linter.unusedVariables false
set_option linter.unusedSimpArgs false

/-- What lies from B on stays. -/
def Stays (B : Nat) (W W' : World) : Prop := W.heap.size ≤ W'.heap.size ∧ ∀ k, B ≤ k → k < W.heap.size → W'.heap[k]? = W.heap[k]?
theorem Stays.refl (B : Nat) (W : World) : Stays B W W := ⟨Nat.le_refl _, fun _ _ _ => rfl⟩
theorem Stays.trans {B : Nat} {U V W : World} (h : Stays B U V) (g : Stays B V W) : Stays B U W :=
  ⟨Nat.le_trans h.1 g.1, fun k hk hl => (g.2 k hk (Nat.lt_of_lt_of_le hl h.1)).trans (h.2 k hk hl)⟩
theorem Stays.mono {B C : Nat} {U V : World} (h : Stays B U V) (hc : B ≤ C) : Stays C U V := ⟨h.1, fun k hk hl => h.2 k (Nat.le_trans hc hk) hl⟩
theorem Stays.below {B n₀ : Nat} {U V : World} (h : Below U.heap.size U V) : Stays B U V := ⟨h.size, fun k _ hl => h.block k hl⟩
/-- A store into a block ahead of B. -/
theorem Stays.setCell {B : Nat} {U V : World} (h : Stays B U V) {p : Addr} (hp : p.block < B) (v : Value) : Stays B U (V.setCell p v) :=
  ⟨by simpa [World.setCell] using h.1, fun k hk hl => (Below.heap_setCell V p v k (by omega)).trans (h.2 k hk hl)⟩

/-- It reads what lies ahead of B alone. -/
def Ahead {β : Type} (B : Nat) (J : β → World → Prop) : Prop := ∀ s U V, J s U → Below B U V → J s V

/-- AN ITERATOR's CONTRACT: it keeps what lay when it began; it may read what it has laid itself, and what lies below n₀. -/
def SeqDeep {α : Type} (F : Fence) (n : Nat) (P : Program) (g : Nat) (lb : Array Value) (encs : α → Array Value) (n₀ : Nat) (S Sp : List α → Prop) (N : Nat) (w : World) : Prop :=
  ∀ (l : Nat) (J Jx : List α → World → Prop) (W : World), Below w.heap.size w W → Ahead W.heap.size J → Ahead W.heap.size Jx →
    (∀ pre x U, W.heap.size ≤ U.heap.size → J pre U → pre.length < N → YieldAt F (n - 1) P l (encs x) U fun e V =>
      Stays W.heap.size U V ∧ ((e = .returned (.bool true) ∧ J (pre ++ [x]) V ∧ Below n₀ U V) ∨ (e = .returned (.bool false) ∧ Jx (pre ++ [x]) V))) →
    J [] W →
    CallsIn F n P g (#[.func (.yield l) #[] #[]] ++ lb) W fun e V => (∃ v, e = .returned v) ∧ ((∃ xs, S xs ∧ J xs V) ∨ (∃ pre, Sp pre ∧ Jx pre V))

/-- How a round may be left. -/
def deepPost {α : Type} (B n₀ : Nat) (I : List α → World → Prop) (Ix : Code → List α → World → Prop) (xs : List α) (W : World) : Exit → Act → World → Prop
  | .normal, _, V => Stays B W V ∧ Below n₀ W V ∧ I xs V
  | .ret, _, V => Stays B W V ∧ Ix .ret xs V
  | .exit id, _, V => Stays B W V ∧ Ix (.exit id) xs V
  | .goto t, _, V => Stays B W V ∧ Ix (.goto t) xs V
  | .panic _, _, _ => False
  | .outgrown, _, _ => False

theorem below_put {B l : Nat} {W : World} {o : Obj} (h : B ≤ l) : Below B W (W.putObj l o) :=
  ⟨rfl, rfl, rfl, by simp, fun k hk => World.putObj_heap_other (by omega)⟩

/-- THE CALLER's LAW. -/
theorem wpIn_range_deep {α : Type} {F : Fence} {n : Nat} {P : Program} {g : Operand} {ps : Array Tmp} {assign body : Code} {Q : Exit → Act → World → Prop} {a : Act} {w : World}
    (hro : F.round = none) (h1 : 1 ≤ n) {gf : Nat} {lb : Array Value} (hg : a.eval g = .func (.func gf) #[] lb) (hFg : F.fn gf) (eg : ∀ args w, (callFunc gf args).run P w = .ok (.enter gf args) w)
    {encs : α → Array Value} {n₀ : Nat} (hn₀ : n₀ ≤ w.heap.size) {S Sp : List α → Prop} {N : Nat} (hseq : SeqDeep F (n - 1) P gf lb encs n₀ S Sp N w) (hps : ∀ x, (encs x).size = ps.size)
    (I : List α → World → Prop) (Ix : Code → List α → World → Prop) (hI : Ahead w.heap.size I) (hIx : ∀ c, Ahead w.heap.size (Ix c)) (h0 : I [] w) (a₁ : α → Act)
    (hassign : ∀ (l : Nat) (x : α) (W : World) (K : Act → World → Prop), K (a₁ x) W →
      assign.wpIn (F.inRound l) (n - 1 - 1) P (Exit.then K (fun _ _ _ => False)) { tmps := (ps.zip (encs x)).foldl (fun t (p, v) => t.setIfInBounds p v) a.tmps, defers := [] } W)
    (hbody : ∀ (l : Nat) (pre : List α) (x : α) (W : World), w.heap.size ≤ W.heap.size → I pre W → pre.length < N → body.wpIn (F.inRound l) (n - 1 - 1) P (deepPost w.heap.size n₀ I Ix (pre ++ [x]) W) (a₁ x) W)
    (hdone : ∀ (D : Nat) (xs : List α) (W : World), w.heap.size ≤ D → S xs → I xs W → W.heap[D]? = some (.deferred (some [])) → Q .normal { a with defers := { target := .collected D, args := #[] } :: a.defers } W)
    (hstop : ∀ (D : Nat) (c : Code) (pre : List α) (W : World), w.heap.size ≤ D → Sp pre → Ix c pre W → W.heap[D]? = some (.deferred (some [])) → c.wpIn F n P Q { a with defers := { target := .collected D, args := #[] } :: a.defers } W) :
    (Code.rangeFunc g ps assign body).wpIn F n P Q a w := by
  refine wpIn_rangeFunc fun fn hfn => ?_
  rw [hro]
  obtain ⟨B, hB⟩ : ∃ B, B = w.heap.size := ⟨_, rfl⟩
  rw [← hB] at hI hIx hbody hdone hstop hn₀
  obtain ⟨rec, hrec⟩ : ∃ rec : LoopState → Option Code → Loop, rec = fun st pe => { state := st, pending := pe, fn, tmps := a.tmps, params := ps, assign, body, defers := B } := ⟨_, rfl⟩
  have hr0 : ∀ st pe st' pe', { rec st pe with state := st', pending := pe' } = rec st' pe' := fun st pe st' pe' => by rw [hrec]
  obtain ⟨W1, hW1⟩ : ∃ W1, W1 = (w.alloc (.deferred (some []))).alloc (.loop (rec .ready none)) := ⟨_, rfl⟩
  have s1 : W1.heap.size = B + 2 := by rw [hW1, hB]; simp
  have b1 : Below w.heap.size w W1 := by rw [hW1]; exact ((Below.refl _ w).alloc (Nat.le_refl _) _).alloc (by simp) _
  have kD : W1.heap[B]? = some (.deferred (some [])) := by rw [hW1, hB]; exact (Below.heap_alloc _ _ _ (by simp)).trans (World.alloc_heap_new w _)
  have kL : W1.heap[B + 1]? = some (.loop (rec .ready none)) := by
    have := World.alloc_heap_new (w.alloc (.deferred (some []))) (.loop (rec .ready none))
    rw [← hW1, World.size_alloc, ← hB] at this
    exact this
  -- what the caller knows between two rounds, and behind a jump
  obtain ⟨J, hJ⟩ : ∃ J : List α → World → Prop, J = fun pre W => I pre W ∧ W.heap[B + 1]? = some (.loop (rec .ready none)) ∧ W.heap[B]? = some (.deferred (some [])) := ⟨_, rfl⟩
  obtain ⟨Jx, hJx⟩ : ∃ Jx : List α → World → Prop, Jx = fun pre W => ∃ c, Ix c pre W ∧ W.heap[B + 1]? = some (.loop (rec .done (some c))) ∧ W.heap[B]? = some (.deferred (some [])) := ⟨_, rfl⟩
  have lt_of : ∀ {W : World} {k : Nat} {o : Obj}, W.heap[k]? = some o → k < W.heap.size := fun h => (Array.getElem?_eq_some_iff.1 h).1
  have aJ : Ahead W1.heap.size J := by
    rw [hJ, s1]
    exact fun s U V h hb => ⟨hI s U V h.1 (hb.mono (by omega)), (hb.block _ (by omega)).trans h.2.1, (hb.block _ (by omega)).trans h.2.2⟩
  have aJx : Ahead W1.heap.size Jx := by
    rw [hJx, s1]
    rintro s U V ⟨c, h1, h2, h3⟩ hb
    exact ⟨c, hIx c s U V h1 (hb.mono (by omega)), (hb.block _ (by omega)).trans h2, (hb.block _ (by omega)).trans h3⟩
  have j0 : J [] W1 := by rw [hJ]; exact ⟨hI [] w W1 h0 (hB ▸ b1), kL, kD⟩
  refine ⟨B + 1, [{ target := .collected B, args := #[] }], W1, { target := .fn (.func gf) lb, args := #[.func (.yield (B + 1)) #[] #[]] }, W1, gf, #[.func (.yield (B + 1)) #[] #[]] ++ lb, W1, ?_, ?_, ?_, ?_, fun _ => h1, ?_⟩
  · rw [hW1, hrec, hB]; exact run_enterLoop_outer _ _ _ _ _
  · simp only [resolve, hg]
    simp [go_sem]
  · intro f' hf'; simp [Target.leads] at hf'; subst hf'; exact hFg
  · simp [invoke, go_sem, eg]
  refine (hseq (B + 1) J Jx W1 b1 aJ aJx ?_ j0).mono ?_
  · -- a round
    intro pre x U hU hu hlen
    rw [hJ] at hu
    obtain ⟨hi, hl, hk⟩ := hu
    rw [s1] at hU
    have hy := run_yield (P := P) (args := encs x) hl (by rw [hrec]; exact hps x)
    rw [hrec] at hy
    refine ⟨fn, _, assign, body, hy, roundIn_of_wpIn hfn (hassign _ x U _ ⟨_, run_beginRound hl (by rw [hrec]), ?_⟩)⟩
    clear hy
    obtain ⟨U2, hU2⟩ : ∃ X, X = U.putObj (B + 1) (.loop { rec .ready none with state := .busy }) := ⟨_, rfl⟩
    rw [← hU2]
    have hl2 : U2.heap[B + 1]? = some (.loop { rec .ready none with state := .busy }) := by rw [hU2]; exact World.putObj_heap_same (by omega)
    have hk2 : U2.heap[B]? = some (.deferred (some [])) := by rw [hU2]; exact (World.putObj_heap_other (by omega)).trans hk
    have hb2 : Below (B + 1) U U2 := by rw [hU2]; exact below_put (Nat.le_refl _)
    have st2 : Stays (B + 2) U U2 := ⟨hb2.size, fun k hk _ => by rw [hU2]; exact World.putObj_heap_other (by omega)⟩
    have hz2 : U2.heap.size = U.heap.size := by rw [hU2]; simp
    refine wpIn_mono (hbody _ pre x U2 (by omega) (hI _ _ _ hi (hb2.mono (by omega))) hlen) ?_
    -- behind the body: the record is turned once more
    have fin : ∀ (jump : Option Code) (V : World), Stays B U2 V →
        (Instr.endRound (B + 1) jump).run P V = .ok (.bool jump.isNone) (V.putObj (B + 1) (.loop (rec (if jump.isNone then .ready else .done) jump))) ∧
        Stays (B + 2) U (V.putObj (B + 1) (.loop (rec (if jump.isNone then .ready else .done) jump))) ∧
        (V.putObj (B + 1) (.loop (rec (if jump.isNone then .ready else .done) jump))).heap[B + 1]? = some (.loop (rec (if jump.isNone then .ready else .done) jump)) ∧
        (V.putObj (B + 1) (.loop (rec (if jump.isNone then .ready else .done) jump))).heap[B]? = some (.deferred (some [])) := by
      intro jump V hs
      have hlV := (hs.2 (B + 1) (by omega) (by omega)).trans hl2
      have he := run_endRound (P := P) jump hlV
      refine ⟨by rw [hrec] at he ⊢; exact he, ⟨by have := hs.1; simp; omega, fun k hk hkl => ?_⟩, World.putObj_heap_same (lt_of hlV), (World.putObj_heap_other (by omega)).trans ((hs.2 B (Nat.le_refl _) (by omega)).trans hk2)⟩
      exact (World.putObj_heap_other (by omega)).trans ((hs.2 k (by omega) (by omega)).trans (st2.2 k hk hkl))
    rw [s1]
    rintro e a3 V hp
    cases e with
    | normal =>
      obtain ⟨hs, hbn, hi3⟩ := hp
      obtain ⟨hr, hst, hl4, hk4⟩ := fin none V hs
      refine ⟨_, _, hr, hst, .inl ⟨rfl, ?_, ?_⟩⟩
      · rw [hJ]; exact ⟨hI _ _ _ hi3 (below_put (by omega)), hl4, hk4⟩
      · exact ((hb2.mono (by omega)).trans hbn).trans (below_put (by omega))
    | ret =>
      obtain ⟨hr, hst, hl4, hk4⟩ := fin (some .ret) V hp.1
      refine ⟨_, _, hr, hst, .inr ⟨rfl, ?_⟩⟩
      rw [hJx]; exact ⟨.ret, hIx _ _ _ _ hp.2 (below_put (by omega)), hl4, hk4⟩
    | exit id =>
      obtain ⟨hr, hst, hl4, hk4⟩ := fin (some (.exit id)) V hp.1
      refine ⟨_, _, hr, hst, .inr ⟨rfl, ?_⟩⟩
      rw [hJx]; exact ⟨.exit id, hIx _ _ _ _ hp.2 (below_put (by omega)), hl4, hk4⟩
    | goto t =>
      obtain ⟨hr, hst, hl4, hk4⟩ := fin (some (.goto t)) V hp.1
      refine ⟨_, _, hr, hst, .inr ⟨rfl, ?_⟩⟩
      rw [hJx]; exact ⟨.goto t, hIx _ _ _ _ hp.2 (below_put (by omega)), hl4, hk4⟩
    | panic ch => exact hp.elim
    | outgrown => exact hp.elim
  · -- behind the iterator
    rw [hJ, hJx]
    rintro e V ⟨⟨v, rfl⟩, ⟨xs, hS, hi, hl, hk⟩ | ⟨pre, hSp, c, hi, hl, hk⟩⟩
    · exact ⟨none, _, by have := run_endLoop (P := P) hl (by rw [hrec]; simp); rw [hrec] at this; exact this, hdone B xs _ (Nat.le_refl _) hS (hI _ _ _ hi (below_put (by omega))) ((World.putObj_heap_other (by omega)).trans hk)⟩
    · exact ⟨some c, _, by have := run_endLoop (P := P) hl (by rw [hrec]; simp); rw [hrec] at this; exact this, hstop B c pre _ (Nat.le_refl _) hSp (hIx _ _ _ _ hi (below_put (by omega))) ((World.putObj_heap_other (by omega)).trans hk)⟩
/-- THE CALLER's LAW, where what is handed over is laid into a block of its own. -/
theorem wpIn_range_deepA {α : Type} {F : Fence} {n : Nat} {P : Program} {g : Operand} {ps : Array Tmp} {assign body : Code} {Q : Exit → Act → World → Prop} {a : Act} {w : World}
    (hro : F.round = none) (h1 : 1 ≤ n) {gf : Nat} {lb : Array Value} (hg : a.eval g = .func (.func gf) #[] lb) (hFg : F.fn gf) (eg : ∀ args w, (callFunc gf args).run P w = .ok (.enter gf args) w)
    {encs : α → Array Value} {n₀ : Nat} (hn₀ : n₀ ≤ w.heap.size) {S Sp : List α → Prop} {N : Nat} (hseq : SeqDeep F (n - 1) P gf lb encs n₀ S Sp N w) (hps : ∀ x, (encs x).size = ps.size)
    (I : List α → World → Prop) (Ix : Code → List α → World → Prop) (hI : Ahead w.heap.size I) (hIx : ∀ c, Ahead w.heap.size (Ix c)) (h0 : I [] w) (obj : α → Obj) (a₁ : α → Nat → Act)
    (hassign : ∀ (l : Nat) (x : α) (W : World) (X : Nat) (K : Act → World → Prop), X = W.heap.size → (∀ V, V = W.alloc (obj x) → K (a₁ x X) V) →
      assign.wpIn (F.inRound l) (n - 1 - 1) P (Exit.then K (fun _ _ _ => False)) { tmps := (ps.zip (encs x)).foldl (fun t (p, v) => t.setIfInBounds p v) a.tmps, defers := [] } W)
    (hbody : ∀ (l : Nat) (pre : List α) (x : α) (W : World) (X : Nat), w.heap.size < X → W.heap[X]? = some (obj x) → I pre W → pre.length < N → body.wpIn (F.inRound l) (n - 1 - 1) P (deepPost w.heap.size n₀ I Ix (pre ++ [x]) W) (a₁ x X) W)
    (hdone : ∀ (D : Nat) (xs : List α) (W : World), w.heap.size ≤ D → S xs → I xs W → W.heap[D]? = some (.deferred (some [])) → Q .normal { a with defers := { target := .collected D, args := #[] } :: a.defers } W)
    (hstop : ∀ (D : Nat) (c : Code) (pre : List α) (W : World), w.heap.size ≤ D → Sp pre → Ix c pre W → W.heap[D]? = some (.deferred (some [])) → c.wpIn F n P Q { a with defers := { target := .collected D, args := #[] } :: a.defers } W) :
    (Code.rangeFunc g ps assign body).wpIn F n P Q a w := by
  refine wpIn_rangeFunc fun fn hfn => ?_
  rw [hro]
  obtain ⟨B, hB⟩ : ∃ B, B = w.heap.size := ⟨_, rfl⟩
  rw [← hB] at hI hIx hbody hdone hstop hn₀
  obtain ⟨rec, hrec⟩ : ∃ rec : LoopState → Option Code → Loop, rec = fun st pe => { state := st, pending := pe, fn, tmps := a.tmps, params := ps, assign, body, defers := B } := ⟨_, rfl⟩
  have hr0 : ∀ st pe st' pe', { rec st pe with state := st', pending := pe' } = rec st' pe' := fun st pe st' pe' => by rw [hrec]
  obtain ⟨W1, hW1⟩ : ∃ W1, W1 = (w.alloc (.deferred (some []))).alloc (.loop (rec .ready none)) := ⟨_, rfl⟩
  have s1 : W1.heap.size = B + 2 := by rw [hW1, hB]; simp
  have b1 : Below w.heap.size w W1 := by rw [hW1]; exact ((Below.refl _ w).alloc (Nat.le_refl _) _).alloc (by simp) _
  have kD : W1.heap[B]? = some (.deferred (some [])) := by rw [hW1, hB]; exact (Below.heap_alloc _ _ _ (by simp)).trans (World.alloc_heap_new w _)
  have kL : W1.heap[B + 1]? = some (.loop (rec .ready none)) := by
    have := World.alloc_heap_new (w.alloc (.deferred (some []))) (.loop (rec .ready none))
    rw [← hW1, World.size_alloc, ← hB] at this
    exact this
  -- what the caller knows between two rounds, and behind a jump
  obtain ⟨J, hJ⟩ : ∃ J : List α → World → Prop, J = fun pre W => I pre W ∧ W.heap[B + 1]? = some (.loop (rec .ready none)) ∧ W.heap[B]? = some (.deferred (some [])) := ⟨_, rfl⟩
  obtain ⟨Jx, hJx⟩ : ∃ Jx : List α → World → Prop, Jx = fun pre W => ∃ c, Ix c pre W ∧ W.heap[B + 1]? = some (.loop (rec .done (some c))) ∧ W.heap[B]? = some (.deferred (some [])) := ⟨_, rfl⟩
  have lt_of : ∀ {W : World} {k : Nat} {o : Obj}, W.heap[k]? = some o → k < W.heap.size := fun h => (Array.getElem?_eq_some_iff.1 h).1
  have aJ : Ahead W1.heap.size J := by
    rw [hJ, s1]
    exact fun s U V h hb => ⟨hI s U V h.1 (hb.mono (by omega)), (hb.block _ (by omega)).trans h.2.1, (hb.block _ (by omega)).trans h.2.2⟩
  have aJx : Ahead W1.heap.size Jx := by
    rw [hJx, s1]
    rintro s U V ⟨c, h1, h2, h3⟩ hb
    exact ⟨c, hIx c s U V h1 (hb.mono (by omega)), (hb.block _ (by omega)).trans h2, (hb.block _ (by omega)).trans h3⟩
  have j0 : J [] W1 := by rw [hJ]; exact ⟨hI [] w W1 h0 (hB ▸ b1), kL, kD⟩
  refine ⟨B + 1, [{ target := .collected B, args := #[] }], W1, { target := .fn (.func gf) lb, args := #[.func (.yield (B + 1)) #[] #[]] }, W1, gf, #[.func (.yield (B + 1)) #[] #[]] ++ lb, W1, ?_, ?_, ?_, ?_, fun _ => h1, ?_⟩
  · rw [hW1, hrec, hB]; exact run_enterLoop_outer _ _ _ _ _
  · simp only [resolve, hg]
    simp [go_sem]
  · intro f' hf'; simp [Target.leads] at hf'; subst hf'; exact hFg
  · simp [invoke, go_sem, eg]
  refine (hseq (B + 1) J Jx W1 b1 aJ aJx ?_ j0).mono ?_
  · -- a round
    intro pre x U hU hu hlen
    rw [hJ] at hu
    obtain ⟨hi, hl, hk⟩ := hu
    rw [s1] at hU
    have hy := run_yield (P := P) (args := encs x) hl (by rw [hrec]; exact hps x)
    rw [hrec] at hy
    refine ⟨fn, _, assign, body, hy, roundIn_of_wpIn hfn (hassign _ x U _ _ rfl (fun Ua hUa => ?_))⟩
    clear hy
    have hba : Below U.heap.size U Ua := by rw [hUa]; exact (Below.refl _ U).alloc (Nat.le_refl _) _
    have hsa : Ua.heap.size = U.heap.size + 1 := by rw [hUa]; simp
    have hXa : Ua.heap[U.heap.size]? = some (obj x) := by rw [hUa]; exact World.alloc_heap_new _ _
    have lLt := lt_of hl
    have lDt := lt_of hk
    have hla := (hba.block (B + 1) lLt).trans hl
    have hka := (hba.block B lDt).trans hk
    have hia := hI _ _ _ hi (hba.mono (by omega))
    obtain ⟨X, hX⟩ : ∃ X, X = U.heap.size := ⟨_, rfl⟩
    rw [← hX] at hXa hsa
    refine ⟨_, run_beginRound hla (by rw [hrec]), ?_⟩
    rw [← hX]
    obtain ⟨U2, hU2⟩ : ∃ X, X = Ua.putObj (B + 1) (.loop { rec .ready none with state := .busy }) := ⟨_, rfl⟩
    rw [← hU2]
    have hl2 : U2.heap[B + 1]? = some (.loop { rec .ready none with state := .busy }) := by rw [hU2]; exact World.putObj_heap_same (by omega)
    have hk2 : U2.heap[B]? = some (.deferred (some [])) := by rw [hU2]; exact (World.putObj_heap_other (by omega)).trans hka
    have hb2' : Below (B + 1) Ua U2 := by rw [hU2]; exact below_put (Nat.le_refl _)
    have hb2 : Below (B + 1) U U2 := (hba.mono (by omega)).trans hb2'
    have st2 : Stays (B + 2) U U2 := ⟨hb2.size, fun k hk hkl => by rw [hU2]; exact (World.putObj_heap_other (by omega)).trans (hba.block k hkl)⟩
    have hz2 : U2.heap.size = U.heap.size + 1 := by rw [hU2]; simp [hsa, hX]
    have hX2 : U2.heap[X]? = some (obj x) := by rw [hU2]; exact (World.putObj_heap_other (by omega)).trans hXa
    refine wpIn_mono (hbody _ pre x U2 X (by omega) hX2 (hI _ _ _ hi (hb2.mono (by omega))) hlen) ?_
    -- behind the body: the record is turned once more
    have fin : ∀ (jump : Option Code) (V : World), Stays B U2 V →
        (Instr.endRound (B + 1) jump).run P V = .ok (.bool jump.isNone) (V.putObj (B + 1) (.loop (rec (if jump.isNone then .ready else .done) jump))) ∧
        Stays (B + 2) U (V.putObj (B + 1) (.loop (rec (if jump.isNone then .ready else .done) jump))) ∧
        (V.putObj (B + 1) (.loop (rec (if jump.isNone then .ready else .done) jump))).heap[B + 1]? = some (.loop (rec (if jump.isNone then .ready else .done) jump)) ∧
        (V.putObj (B + 1) (.loop (rec (if jump.isNone then .ready else .done) jump))).heap[B]? = some (.deferred (some [])) := by
      intro jump V hs
      have hlV := (hs.2 (B + 1) (by omega) (by omega)).trans hl2
      have he := run_endRound (P := P) jump hlV
      refine ⟨by rw [hrec] at he ⊢; exact he, ⟨by have := hs.1; simp; omega, fun k hk hkl => ?_⟩, World.putObj_heap_same (lt_of hlV), (World.putObj_heap_other (by omega)).trans ((hs.2 B (Nat.le_refl _) (by omega)).trans hk2)⟩
      exact (World.putObj_heap_other (by omega)).trans ((hs.2 k (by omega) (by omega)).trans (st2.2 k hk hkl))
    rw [s1]
    rintro e a3 V hp
    cases e with
    | normal =>
      obtain ⟨hs, hbn, hi3⟩ := hp
      obtain ⟨hr, hst, hl4, hk4⟩ := fin none V hs
      refine ⟨_, _, hr, hst, .inl ⟨rfl, ?_, ?_⟩⟩
      · rw [hJ]; exact ⟨hI _ _ _ hi3 (below_put (by omega)), hl4, hk4⟩
      · exact ((hb2.mono (by omega)).trans hbn).trans (below_put (by omega))
    | ret =>
      obtain ⟨hr, hst, hl4, hk4⟩ := fin (some .ret) V hp.1
      refine ⟨_, _, hr, hst, .inr ⟨rfl, ?_⟩⟩
      rw [hJx]; exact ⟨.ret, hIx _ _ _ _ hp.2 (below_put (by omega)), hl4, hk4⟩
    | exit id =>
      obtain ⟨hr, hst, hl4, hk4⟩ := fin (some (.exit id)) V hp.1
      refine ⟨_, _, hr, hst, .inr ⟨rfl, ?_⟩⟩
      rw [hJx]; exact ⟨.exit id, hIx _ _ _ _ hp.2 (below_put (by omega)), hl4, hk4⟩
    | goto t =>
      obtain ⟨hr, hst, hl4, hk4⟩ := fin (some (.goto t)) V hp.1
      refine ⟨_, _, hr, hst, .inr ⟨rfl, ?_⟩⟩
      rw [hJx]; exact ⟨.goto t, hIx _ _ _ _ hp.2 (below_put (by omega)), hl4, hk4⟩
    | panic ch => exact hp.elim
    | outgrown => exact hp.elim
  · -- behind the iterator
    rw [hJ, hJx]
    rintro e V ⟨⟨v, rfl⟩, ⟨xs, hS, hi, hl, hk⟩ | ⟨pre, hSp, c, hi, hl, hk⟩⟩
    · exact ⟨none, _, by have := run_endLoop (P := P) hl (by rw [hrec]; simp); rw [hrec] at this; exact this, hdone B xs _ (Nat.le_refl _) hS (hI _ _ _ hi (below_put (by omega))) ((World.putObj_heap_other (by omega)).trans hk)⟩
    · exact ⟨some c, _, by have := run_endLoop (P := P) hl (by rw [hrec]; simp); rw [hrec] at this; exact this, hstop B c pre _ (Nat.le_refl _) hSp (hIx _ _ _ _ hi (below_put (by omega))) ((World.putObj_heap_other (by omega)).trans hk)⟩
end Go.Proofs.Ytnmbhcekcdicnaa
