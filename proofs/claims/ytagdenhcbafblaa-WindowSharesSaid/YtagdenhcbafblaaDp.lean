/-
  A range over a function, where the iterator may range over another one: who reads what.
-/
import Derived.Test.YtagdenhcbafblaaSt
namespace Go.Proofs.Ytagdenhcbafblaa
open Go.RowKit Go.Shelf
set_option linter.unusedVariables false
set_option linter.unusedSimpArgs false

/-- What lies from B on stays. -/
def Stays (B : Nat) (W W' : World) : Prop := W.heap.size ≤ W'.heap.size ∧ ∀ k, B ≤ k → k < W.heap.size → W'.heap[k]? = W.heap[k]?
theorem Stays.refl (B : Nat) (W : World) : Stays B W W := ⟨Nat.le_refl _, fun _ _ _ => rfl⟩
theorem Stays.trans {B : Nat} {U V W : World} (h : Stays B U V) (g : Stays B V W) : Stays B U W :=
  ⟨Nat.le_trans h.1 g.1, fun k hk hl => (g.2 k hk (Nat.lt_of_lt_of_le hl h.1)).trans (h.2 k hk hl)⟩
theorem Stays.mono {B C : Nat} {U V : World} (h : Stays B U V) (hc : B ≤ C) : Stays C U V := ⟨h.1, fun k hk hl => h.2 k (Nat.le_trans hc hk) hl⟩
theorem Stays.below {B n₀ : Nat} {U V : World} (h : Below U.heap.size U V) : Stays B U V := ⟨h.size, fun k _ hl => h.block k hl⟩
/-- A store into a block ahead of B. -/
theorem Stays.setCell {B : Nat} {U V : World} (h : Stays B U V) {p : Addr} (hp : p.block < B) (v : Value) : Stays B U (V.setCell p v) :=
  ⟨by simpa [World.setCell] using h.1, fun k hk hl => (Below.heap_setCell V p v k (by omega)).trans (h.2 k hk hl)⟩

/-- It reads what lies ahead of B alone. -/
def Ahead {β : Type} (B : Nat) (J : β → World → Prop) : Prop := ∀ s U V, J s U → Below B U V → J s V

/-- AN ITERATOR's CONTRACT: it keeps what lay when it began; it may read what it has laid itself, and what lies below n₀. -/
def SeqDeep {α : Type} (F : Fence) (n : Nat) (P : Program) (g : Nat) (lb : Array Value) (encs : α → Array Value) (n₀ : Nat) (S Sp : List α → Prop) (N : Nat) (w : World) : Prop :=
  ∀ (l : Nat) (J Jx : List α → World → Prop) (W : World), Below w.heap.size w W → Ahead W.heap.size J → Ahead W.heap.size Jx →
    (∀ pre x U, W.heap.size ≤ U.heap.size → J pre U → pre.length < N → YieldAt F (n - 1) P l (encs x) U fun e V =>
      Stays W.heap.size U V ∧ ((e = .returned (.bool true) ∧ J (pre ++ [x]) V ∧ Below n₀ U V) ∨ (e = .returned (.bool false) ∧ Jx (pre ++ [x]) V))) →
    J [] W →
    CallsIn F n P g (#[.func (.yield l) #[] #[]] ++ lb) W fun e V => (∃ v, e = .returned v) ∧ ((∃ xs, S xs ∧ J xs V) ∨ (∃ pre, Sp pre ∧ Jx pre V))

/-- How a round may be left. -/
def deepPost {α : Type} (B n₀ : Nat) (I : List α → World → Prop) (Ix : Code → List α → World → Prop) (xs : List α) (W : World) : Exit → Act → World → Prop
  | .normal, _, V => Stays B W V ∧ Below n₀ W V ∧ I xs V
  | .ret, _, V => Stays B W V ∧ Ix .ret xs V
  | .exit id, _, V => Stays B W V ∧ Ix (.exit id) xs V
  | .goto t, _, V => Stays B W V ∧ Ix (.goto t) xs V
  | .panic _, _, _ => False
  | .outgrown, _, _ => False

theorem below_put {B l : Nat} {W : World} {o : Obj} (h : B ≤ l) : Below B W (W.putObj l o) :=
  ⟨rfl, rfl, rfl, by simp, fun k hk => World.putObj_heap_other (by omega)⟩

/-- THE CALLER's LAW. -/
theorem wpIn_range_deep {α : Type} {F : Fence} {n : Nat} {P : Program} {g : Operand} {ps : Array Tmp} {assign body : Code} {Q : Exit → Act → World → Prop} {a : Act} {w : World}
    (hro : F.round = none) (h1 : 1 ≤ n) {gf : Nat} {lb : Array Value} (hg : a.eval g = .func (.func gf) #[] lb) (hFg : F.fn gf) (eg : ∀ args w, (callFunc gf args).run P w = .ok (.enter gf args) w)
    {encs : α → Array Value} {n₀ : Nat} (hn₀ : n₀ ≤ w.heap.size) {S Sp : List α → Prop} {N : Nat} (hseq : SeqDeep F (n - 1) P gf lb encs n₀ S Sp N w) (hps : ∀ x, (encs x).size = ps.size)
    (I : List α → World → Prop) (Ix : Code → List α → World → Prop) (hI : Ahead w.heap.size I) (hIx : ∀ c, Ahead w.heap.size (Ix c)) (h0 : I [] w) (a₁ : α → Act)
    (hassign : ∀ (l : Nat) (x : α) (W : World) (K : Act → World → Prop), K (a₁ x) W →
      assign.wpIn (F.inRound l) (n - 1 - 1) P (Exit.then K (fun _ _ _ => False)) { tmps := (ps.zip (encs x)).foldl (fun t (p, v) => t.setIfInBounds p v) a.tmps, defers := [] } W)
    (hbody : ∀ (l : Nat) (pre : List α) (x : α) (W : World), w.heap.size ≤ W.heap.size → I pre W → pre.length < N → body.wpIn (F.inRound l) (n - 1 - 1) P (deepPost w.heap.size n₀ I Ix (pre ++ [x]) W) (a₁ x) W)
    (hdone : ∀ (D : Nat) (xs : List α) (W : World), w.heap.size ≤ D → S xs → I xs W → W.heap[D]? = some (.deferred (some [])) → Q .normal { a with defers := { target := .collected D, args := #[] } :: a.defers } W)
    (hstop : ∀ (D : Nat) (c : Code) (pre : List α) (W : World), w.heap.size ≤ D → Sp pre → Ix c pre W → W.heap[D]? = some (.deferred (some [])) → c.wpIn F n P Q { a with defers := { target := .collected D, args := #[] } :: a.defers } W) :
    (Code.rangeFunc g ps assign body).wpIn F n P Q a w := by
  refine wpIn_rangeFunc fun fn hfn => ?_
  rw [hro]
  obtain ⟨B, hB⟩ : ∃ B, B = w.heap.size := ⟨_, rfl⟩
  rw [← hB] at hI hIx hbody hdone hstop hn₀
  obtain ⟨rec, hrec⟩ : ∃ rec : LoopState → Option Code → Loop, rec = fun st pe => { state := st, pending := pe, fn, tmps := a.tmps, params := ps, assign, body, defers := B } := ⟨_, rfl⟩
  have hr0 : ∀ st pe st' pe', { rec st pe with state := st', pending := pe' } = rec st' pe' := fun st pe st' pe' => by rw [hrec]
  obtain ⟨W1, hW1⟩ : ∃ W1, W1 = (w.alloc (.deferred (some []))).alloc (.loop (rec .ready none)) := ⟨_, rfl⟩
  have s1 : W1.heap.size = B + 2 := by rw [hW1, hB]; simp
  have b1 : Below w.heap.size w W1 := by rw [hW1]; exact ((Below.refl _ w).alloc (Nat.le_refl _) _).alloc (by simp) _
  have kD : W1.heap[B]? = some (.deferred (some [])) := by rw [hW1, hB]; exact (Below.heap_alloc _ _ _ (by simp)).trans (World.alloc_heap_new w _)
  have kL : W1.heap[B + 1]? = some (.loop (rec .ready none)) := by
    have := World.alloc_heap_new (w.alloc (.deferred (some []))) (.loop (rec .ready none))
    rw [← hW1, World.size_alloc, ← hB] at this
    exact this
  -- what the caller knows between two rounds, and behind a jump
  obtain ⟨J, hJ⟩ : ∃ J : List α → World → Prop, J = fun pre W => I pre W ∧ W.heap[B + 1]? = some (.loop (rec .ready none)) ∧ W.heap[B]? = some (.deferred (some [])) := ⟨_, rfl⟩
  obtain ⟨Jx, hJx⟩ : ∃ Jx : List α → World → Prop, Jx = fun pre W => ∃ c, Ix c pre W ∧ W.heap[B + 1]? = some (.loop (rec .done (some c))) ∧ W.heap[B]? = some (.deferred (some [])) := ⟨_, rfl⟩
  have lt_of : ∀ {W : World} {k : Nat} {o : Obj}, W.heap[k]? = some o → k < W.heap.size := fun h => (Array.getElem?_eq_some_iff.1 h).1
  have aJ : Ahead W1.heap.size J := by
    rw [hJ, s1]
    exact fun s U V h hb => ⟨hI s U V h.1 (hb.mono (by omega)), (hb.block _ (by omega)).trans h.2.1, (hb.block _ (by omega)).trans h.2.2⟩
  have aJx : Ahead W1.heap.size Jx := by
    rw [hJx, s1]
    rintro s U V ⟨c, h1, h2, h3⟩ hb
    exact ⟨c, hIx c s U V h1 (hb.mono (by omega)), (hb.block _ (by omega)).trans h2, (hb.block _ (by omega)).trans h3⟩
  have j0 : J [] W1 := by rw [hJ]; exact ⟨hI [] w W1 h0 (hB ▸ b1), kL, kD⟩
  refine ⟨B + 1, [{ target := .collected B, args := #[] }], W1, { target := .fn (.func gf) lb, args := #[.func (.yield (B + 1)) #[] #[]] }, W1, gf, #[.func (.yield (B + 1)) #[] #[]] ++ lb, W1, ?_, ?_, ?_, ?_, fun _ => h1, ?_⟩
  · rw [hW1, hrec, hB]; exact run_enterLoop_outer _ _ _ _ _
  · simp only [resolve, hg]
    simp [go_sem]
  · intro f' hf'; simp [Target.leads] at hf'; subst hf'; exact hFg
  · simp [invoke, go_sem, eg]
  refine (hseq (B + 1) J Jx W1 b1 aJ aJx ?_ j0).mono ?_
  · -- a round
    intro pre x U hU hu hlen
    rw [hJ] at hu
    obtain ⟨hi, hl, hk⟩ := hu
    rw [s1] at hU
    have hy := run_yield (P := P) (args := encs x) hl (by rw [hrec]; exact hps x)
    rw [hrec] at hy
    refine ⟨fn, _, assign, body, hy, roundIn_of_wpIn hfn (hassign _ x U _ ⟨_, run_beginRound hl (by rw [hrec]), ?_⟩)⟩
    clear hy
    obtain ⟨U2, hU2⟩ : ∃ X, X = U.putObj (B + 1) (.loop { rec .ready none with state := .busy }) := ⟨_, rfl⟩
    rw [← hU2]
    have hl2 : U2.heap[B + 1]? = some (.loop { rec .ready none with state := .busy }) := by rw [hU2]; exact World.putObj_heap_same (by omega)
    have hk2 : U2.heap[B]? = some (.deferred (some [])) := by rw [hU2]; exact (World.putObj_heap_other (by omega)).trans hk
    have hb2 : Below (B + 1) U U2 := by rw [hU2]; exact below_put (Nat.le_refl _)
    have st2 : Stays (B + 2) U U2 := ⟨hb2.size, fun k hk _ => by rw [hU2]; exact World.putObj_heap_other (by omega)⟩
    have hz2 : U2.heap.size = U.heap.size := by rw [hU2]; simp
    refine wpIn_mono (hbody _ pre x U2 (by omega) (hI _ _ _ hi (hb2.mono (by omega))) hlen) ?_
    -- behind the body: the record is turned once more
    have fin : ∀ (jump : Option Code) (V : World), Stays B U2 V →
        (Instr.endRound (B + 1) jump).run P V = .ok (.bool jump.isNone) (V.putObj (B + 1) (.loop (rec (if jump.isNone then .ready else .done) jump))) ∧
        Stays (B + 2) U (V.putObj (B + 1) (.loop (rec (if jump.isNone then .ready else .done) jump))) ∧
        (V.putObj (B + 1) (.loop (rec (if jump.isNone then .ready else .done) jump))).heap[B + 1]? = some (.loop (rec (if jump.isNone then .ready else .done) jump)) ∧
        (V.putObj (B + 1) (.loop (rec (if jump.isNone then .ready else .done) jump))).heap[B]? = some (.deferred (some [])) := by
      intro jump V hs
      have hlV := (hs.2 (B + 1) (by omega) (by omega)).trans hl2
      have he := run_endRound (P := P) jump hlV
      refine ⟨by rw [hrec] at he ⊢; exact he, ⟨by have := hs.1; simp; omega, fun k hk hkl => ?_⟩, World.putObj_heap_same (lt_of hlV), (World.putObj_heap_other (by omega)).trans ((hs.2 B (Nat.le_refl _) (by omega)).trans hk2)⟩
      exact (World.putObj_heap_other (by omega)).trans ((hs.2 k (by omega) (by omega)).trans (st2.2 k hk hkl))
    rw [s1]
    rintro e a3 V hp
    cases e with
    | normal =>
      obtain ⟨hs, hbn, hi3⟩ := hp
      obtain ⟨hr, hst, hl4, hk4⟩ := fin none V hs
      refine ⟨_, _, hr, hst, .inl ⟨rfl, ?_, ?_⟩⟩
      · rw [hJ]; exact ⟨hI _ _ _ hi3 (below_put (by omega)), hl4, hk4⟩
      · exact ((hb2.mono (by omega)).trans hbn).trans (below_put (by omega))
    | ret =>
      obtain ⟨hr, hst, hl4, hk4⟩ := fin (some .ret) V hp.1
      refine ⟨_, _, hr, hst, .inr ⟨rfl, ?_⟩⟩
      rw [hJx]; exact ⟨.ret, hIx _ _ _ _ hp.2 (below_put (by omega)), hl4, hk4⟩
    | exit id =>
      obtain ⟨hr, hst, hl4, hk4⟩ := fin (some (.exit id)) V hp.1
      refine ⟨_, _, hr, hst, .inr ⟨rfl, ?_⟩⟩
      rw [hJx]; exact ⟨.exit id, hIx _ _ _ _ hp.2 (below_put (by omega)), hl4, hk4⟩
    | goto t =>
      obtain ⟨hr, hst, hl4, hk4⟩ := fin (some (.goto t)) V hp.1
      refine ⟨_, _, hr, hst, .inr ⟨rfl, ?_⟩⟩
      rw [hJx]; exact ⟨.goto t, hIx _ _ _ _ hp.2 (below_put (by omega)), hl4, hk4⟩
    | panic ch => exact hp.elim
    | outgrown => exact hp.elim
  · -- behind the iterator
    rw [hJ, hJx]
    rintro e V ⟨⟨v, rfl⟩, ⟨xs, hS, hi, hl, hk⟩ | ⟨pre, hSp, c, hi, hl, hk⟩⟩
    · exact ⟨none, _, by have := run_endLoop (P := P) hl (by rw [hrec]; simp); rw [hrec] at this; exact this, hdone B xs _ (Nat.le_refl _) hS (hI _ _ _ hi (below_put (by omega))) ((World.putObj_heap_other (by omega)).trans hk)⟩
    · exact ⟨some c, _, by have := run_endLoop (P := P) hl (by rw [hrec]; simp); rw [hrec] at this; exact this, hstop B c pre _ (Nat.le_refl _) hSp (hIx _ _ _ _ hi (below_put (by omega))) ((World.putObj_heap_other (by omega)).trans hk)⟩
attribute [local go_sem] Oper.semAt_some
theorem YieldAt.deep {m k : Nat} {P : Program} {l l' : Nat} {args : Array Value} {W : World} {R : Ending → World → Prop} (h : YieldAt Fence.wide m P l args W R) : YieldAt (Fence.wide.inRound l') k P l args W R := by
  obtain ⟨fn, tmps, assign, body, hy, hR⟩ := h
  exact ⟨fn, tmps, assign, body, hy, hR.1, fun c cs _ => hR.2 c cs (room_wide _)⟩

/-- Between two rounds: what came is a beginning of the whole; so many are counted. -/
def Rnd {α : Type} (T : List α) (many : Int) (nb : Nat) (wn : World) (pre : List α) (W : World) : Prop :=
  (pre <+: T ∧ (pre.length = 0 ∨ (pre.length : Int) < many)) ∧ (W.cell? ⟨nb, 0, none⟩ = some (.int .i64 pre.length) ∧ W.frozen? ⟨nb, 0, none⟩ = false) ∧ Below nb wn W
/-- Behind a jump: what came was no beginning of the whole, or enough came. -/
def Rxt {α : Type} (T : List α) (many : Int) (nb : Nat) (wn : World) (x : Nat) (c : Code) (pre : List α) (W : World) : Prop :=
  (c = .ret ∧ ¬ pre <+: T) ∨ (c = .exit x ∧ (pre <+: T ∧ many ≤ (pre.length : Int) ∧ (pre.length = 1 ∨ (pre.length : Int) - 1 < many) ∧ 1 ≤ pre.length) ∧ (W.cell? ⟨nb, 0, none⟩ = some (.int .i64 pre.length) ∧ W.frozen? ⟨nb, 0, none⟩ = false) ∧ Below nb wn W)
section
variable {α : Type} {T : List α} {many : Int} {nb x B : Nat} {wn : World}
theorem Rnd.ahead (h : nb < B) : Ahead B (Rnd T many nb wn) := fun s U V hs hb =>
  ⟨hs.1, ⟨(hb.cell (p := ⟨nb, 0, none⟩) h).trans hs.2.1.1, (hb.frozen (p := ⟨nb, 0, none⟩) h).trans hs.2.1.2⟩, hs.2.2.trans (hb.mono (by omega))⟩
theorem Rxt.ahead (h : nb < B) (c : Code) : Ahead B (Rxt T many nb wn x c) := fun s U V hs hb => by
  rcases hs with g | g
  · exact .inl g
  · exact .inr ⟨g.1, g.2.1, ⟨(hb.cell (p := ⟨nb, 0, none⟩) h).trans g.2.2.1.1, (hb.frozen (p := ⟨nb, 0, none⟩) h).trans g.2.2.1.2⟩, g.2.2.2.trans (hb.mono (by omega))⟩
theorem Rnd.start (hc : wn.cell? ⟨nb, 0, none⟩ = some (.int .i64 0)) (hf : wn.frozen? ⟨nb, 0, none⟩ = false) : Rnd T many nb wn [] wn :=
  ⟨⟨List.nil_prefix, .inl rfl⟩, ⟨hc, hf⟩, Below.refl _ _⟩
theorem Rnd.more {pre : List α} {y : α} {W : World} (hp : pre ++ [y] <+: T) {k : Int} (hk : k = (pre.length : Int) + 1) (hm : k < many) (hc : (W.cell? ⟨nb, 0, none⟩).isSome = true) (hf : W.frozen? ⟨nb, 0, none⟩ = false) (hB : Below nb wn W) :
    Rnd T many nb wn (pre ++ [y]) (W.setCell ⟨nb, 0, none⟩ (.int .i64 k)) := by
  subst hk
  refine ⟨⟨hp, .inr (by simpa using hm)⟩, ⟨?_, by rw [World.frozen?_setCell]; exact hf⟩, hB.setCell (p := ⟨nb, 0, none⟩) (Nat.le_refl _) _⟩
  rw [World.cell?_setCell_same' _ _ _ hc, List.length_append]
  rfl
theorem Rxt.more {pre : List α} {y : α} {W : World} (hp : pre ++ [y] <+: T) {k : Int} (hk : k = (pre.length : Int) + 1) (hm : many ≤ k) (h0 : pre.length = 0 ∨ (pre.length : Int) < many) (hc : (W.cell? ⟨nb, 0, none⟩).isSome = true) (hf : W.frozen? ⟨nb, 0, none⟩ = false) (hB : Below nb wn W) :
    Rxt T many nb wn x (.exit x) (pre ++ [y]) (W.setCell ⟨nb, 0, none⟩ (.int .i64 k)) := by
  subst hk
  refine .inr ⟨rfl, ⟨hp, by simpa using hm, ?_, by simp⟩, ⟨?_, by rw [World.frozen?_setCell]; exact hf⟩, hB.setCell (p := ⟨nb, 0, none⟩) (Nat.le_refl _) _⟩
  · rw [List.length_append, List.length_singleton]; omega
  · rw [World.cell?_setCell_same' _ _ _ hc, List.length_append]
    rfl
/-- How many came, when all came. -/
theorem Rnd.whole {W : World} (h : Rnd T many nb wn T W) : (∃ c : Nat, (c : Int) = min (T.length : Int) (max 1 many) ∧ W.cell? ⟨nb, 0, none⟩ = some (.int .i64 c)) ∧ Below nb wn W :=
  ⟨⟨T.length, by have := h.1.2; omega, h.2.1.1⟩, h.2.2⟩
theorem Rxt.part {pre : List α} {W : World} {c : Code} (h : Rxt T many nb wn x c pre W) (hp : pre <+: T) : c = .exit x ∧ (∃ c : Nat, (c : Int) = min (T.length : Int) (max 1 many) ∧ W.cell? ⟨nb, 0, none⟩ = some (.int .i64 c)) ∧ Below nb wn W := by
  rcases h with g | g
  · exact absurd hp g.2
  · have hl := hp.length_le
    have g2 := g.2.1
    exact ⟨g.1, ⟨pre.length, by omega, g.2.2.1.1⟩, g.2.2.2⟩
end

set_option maxRecDepth 100000 in
set_option maxHeartbeats 2000000 in
theorem shares1_deep (m : Nat) (hm : 1 ≤ m) (A n₀ : Nat) (ao : Option Addr) (len cap : Nat) (zs : List Int) (hreach : len ≤ 1000000) (w : World) (hA : A < w.heap.size) (hn₀ : n₀ ≤ w.heap.size)
    (hc : w.cell? ⟨A, 0, none⟩ = some (.slice ao len cap)) (hI : 0 < len → ∃ b off, ao = some ⟨b, off, none⟩ ∧ b < n₀ ∧ ∀ j, j < len → w.cell? ⟨b, off + j, none⟩ = some (.int .i64 (zs[j]?.getD 0))) :
    SeqDeep Fence.wide m Try.prog 35 #[.pointer (some ⟨A, 0, none⟩)] (fun x : Nat × Int => #[.int .i64 (x.1 : Int), .int .i64 x.2]) n₀ (fun ys => ys = some_ zs len) (fun pre => pre <+: some_ zs len) len w := by
  intro l J Jx W hW hJ hJx hY h0
  have hBs := (hW.cell (p := ⟨A, 0, none⟩) hA).trans hc
  have hI' : 0 < len → ∃ b off, ao = some ⟨b, off, none⟩ ∧ b < n₀ ∧ ∀ j, j < len → W.cell? ⟨b, off + j, none⟩ = some (.int .i64 (zs[j]?.getD 0)) := fun hp => by
    obtain ⟨b, off, e, hb, hcs⟩ := hI hp
    exact ⟨b, off, e, hb, fun j hj => (hW.cell (p := ⟨b, off + j, none⟩) (by show b < _; omega)).trans (hcs j hj)⟩
  show CallsIn Fence.wide m Try.prog 35 #[.func (.yield l) #[] #[], .pointer (some ⟨A, 0, none⟩)] W _
  refine callsIn_of_wp Try.func35 rfl trivial ?_ rfl
  simp only [Try.ntmps35, List.size_toArray, List.length_cons, List.length_nil, Nat.reduceAdd, Nat.reduceSub, Array.replicate_succ, Array.replicate_zero, List.push_toArray, List.append_toArray, List.nil_append, List.cons_append]
  gi_wp2
  refine wpIn_scope_straight ?_
  refine wpIn_seq ?_
  refine wpIn_label ?_
  gi_wp2
  gi_loopw [7] (fun i wr => ∃ k : Nat, k ≤ len ∧ i = .int .i64 k ∧ J (some_ zs k) wr ∧ Below n₀ W wr ∧ W.heap.size ≤ wr.heap.size)
    (fun i _ => len - (intOf i).toNat)
  case atStart => exact ⟨0, Nat.zero_le _, rfl, h0, Below.refl _ _, Nat.le_refl _⟩
  case round =>
    obtain ⟨k, hk, rfl, hJs, hnx, hsz⟩ := hrel
    by_cases hlt : k < len
    · obtain ⟨b, off, rfl, hb, hcz⟩ := hI' (by omega)
      have hcx' : wr.cell? ⟨b, off + k, none⟩ = some (.int .i64 (zs[k]?.getD 0)) := (hnx.cell (p := ⟨b, off + k, none⟩) hb).trans (hcz k hlt)
      by_cases hpos : 0 < zs[k]?.getD 0
      · have hd : decide (0 < zs[k]?.getD 0) = true := by simpa using hpos
        obtain ⟨fn, tmps, assign, body, hy, hR⟩ := hY _ (k, zs[k]?.getD 0) wr hsz hJs (by have := some_len zs k; omega)
        dsimp only at hy
        gi_wp2
        refine hR.mono ?_
        rintro e W3 ⟨hst, ⟨rfl, hJ3, hk3⟩ | ⟨rfl, hJx3⟩⟩
        · gi_wp2
          go_roundw
          case rel => exact ⟨k + 1, by omega, by simp, by rw [some_succ_pos zs k hpos]; exact hJ3, hnx.trans hk3, Nat.le_trans hsz hst.1⟩
          case measure => simp [intOf]; omega
        · gi_wp2
          simp only [Exit.noGoto]
          refine bodyPost_end (results_none rfl _ _ _) rfl ?_
          exact ⟨⟨_, rfl⟩, .inr ⟨_, by rw [← some_succ_pos zs k hpos]; exact some_prefix _ (by omega), hJx3⟩⟩
      · have hd : decide (0 < zs[k]?.getD 0) = false := by simpa using hpos
        gi_wp2
        refine ⟨fun _ h => (by cases h), ?_⟩
        gi_wp2
        go_roundw
        case rel => exact ⟨k + 1, by omega, by simp, by rw [some_succ_zero zs k (by omega)]; exact hJs, hnx, hsz⟩
        case measure => simp [intOf]; omega
    · obtain rfl : k = len := by omega
      gi_wp2
      simp only [Exit.noGoto]
      refine bodyPost_end (results_none rfl _ _ _) rfl ?_
      exact ⟨⟨_, rfl⟩, .inl ⟨_, rfl, hJs⟩⟩
end Go.Proofs.Ytagdenhcbafblaa
