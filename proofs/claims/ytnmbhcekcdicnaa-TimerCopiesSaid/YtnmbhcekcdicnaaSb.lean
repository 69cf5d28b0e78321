/-
  All's iterator; what a round of a range over it knows.
-/
import Derived.Test.YtnmbhcekcdicnaaSa
import Derived.Test.YtnmbhcekcdicnaaCp
import Derived.Deep.CutBlock
namespace Go.Proofs.Ytnmbhcekcdicnaa
open Go.RowKit Go.Shelf
set_option linter.unusedVariables false
set_option linter.unusedSimpArgs false
attribute [local go_sem] Oper.semAt_some

theorem run_eql_func42 (f : Fn) (x y : Array Value) (w : World) : (binOp .eql 42 (.func f x y) .nilFunc).run Try.prog w = .ok (.bool false) w := by
  have h : ∀ d : Nat, (Op.equalIn (d + 1) 42 (.func f x y) .nilFunc).run Try.prog w = .ok false w := fun d => by
    simp [Op.equalIn, run_underlying Try.underlying42]
  simp only [binOp]
  simp [Op.equal, Op.maxDepth, h 9999]
/-- What has come when k rounds are over. -/
def fins (n k : Nat) : List (Fin n) := (List.finRange n).take k
theorem fins_succ {n k : Nat} (h : k < n) : fins n (k + 1) = fins n k ++ [⟨k, h⟩] := by
  unfold fins
  rw [List.take_succ_eq_append_getElem (by simpa using h)]
  simp
theorem fins_length {n k : Nat} (h : k ≤ n) : (fins n k).length = k := by simp [fins, h]
theorem fins_all (n : Nat) : fins n n = List.finRange n := List.take_of_length_le (by simp)
theorem fins_prefix (n k : Nat) : fins n k <+: List.finRange n := List.take_prefix _ _

theorem YieldAt.deep {m k : Nat} {P : Program} {l l' : Nat} {args : Array Value} {W : World} {R : Ending → World → Prop} (h : YieldAt Fence.wide m P l args W R) : YieldAt (Fence.wide.inRound l') k P l args W R := by
  obtain ⟨fn, tmps, assign, body, hy, hR⟩ := h
  exact ⟨fn, tmps, assign, body, hy, hR.1, fun c cs _ => hR.2 c cs (room_wide _)⟩

section
variable {F : Fence} {n : Nat} {P : Program} {b : Frame} {a : Act} {k : List Item} {cs : List Frame} {w : World} {Q : Exit → Act → World → Prop}
theorem stepR_scope {c : Code} : step P (lone (b.atR a (.code (.scope c) :: k)) cs w) = .next (lone (b.atR a (.code c :: .inScope c :: k)) cs w) :=
  step_lone_go (by simp [stepG, stepG.exec, Frame.atR])
theorem stepR_inScope {c : Code} : step P (lone (b.atR a (.inScope c :: k)) cs w) = .next (lone (b.atR a k) cs w) :=
  step_lone_go (by simp [stepG, stepG.exec, Frame.atR])
/-- Within a fence: a scope without a goto. -/
theorem wpIn_scope_straight {c : Code} (h : c.wpIn F n P (Exit.noGoto Q) a w) : (Code.scope c).wpIn F n P Q a w := by
  intro b k cs hro hb hr
  have h0 : (lone (b.atR a (.code (.scope c) :: k)) cs w).fenced P F := fenced_calm hb hr rfl
  obtain ⟨e, a₁, w₁, hq, harr⟩ := h b (.inScope c :: k) cs hro hb hr
  cases e with
  | normal => exact ⟨.normal, a₁, w₁, hq, .head h0 stepR_scope (StepsIn.trans harr (.one (fenced_calm hb hr rfl) stepR_inScope))⟩
  | exit id =>
    have hx : exitTo id (.inScope c :: k) = exitTo id k := by simp [exitTo]
    exact ⟨_, a₁, w₁, hq, fun k' hk => .head h0 stepR_scope (harr.1 k' (by rw [hx]; exact hk)),
      fun hr' hk => let ⟨k₁, h1, h2⟩ := harr.2 hr' (by rw [hx]; exact hk); ⟨k₁, h1, .head h0 stepR_scope h2⟩⟩
  | goto l => exact hq.elim
  | ret => exact ⟨_, a₁, w₁, hq, .of_steps (.one h0 stepR_scope) harr⟩
  | panic ch => exact ⟨_, a₁, w₁, hq, .of_steps (.one h0 stepR_scope) harr⟩
  | outgrown => exact ⟨_, a₁, w₁, hq, .of_steps (.one h0 stepR_scope) harr⟩
end
theorem range_cut {P : Program} {c : Code} {K : Act → World → Prop} {Q' : Exit → Act → World → Prop} {a : Act} {w : World} (R : Nat → World → Prop)
    (first : c.wp P (fun e a' W => e = .normal ∧ ∃ D, a' = { a with defers := { target := .collected D, args := #[] } :: a.defers } ∧ R D W) a w)
    (rest : ∀ D W, R D W → K { a with defers := { target := .collected D, args := #[] } :: a.defers } W) : c.wp P (Exit.then K Q') a w :=
  wp_mono first (fun e a' W h => by obtain ⟨rfl, D, rfl, hr⟩ := h; exact rest D W hr)
theorem prefix_more {α : Type} (T l : List α) (x : α) (h : l <+: T) : (l ++ [x] <+: T) ↔ T[l.length]? = some x := by
  obtain ⟨r, rfl⟩ := h
  rw [List.prefix_append_right_inj]
  cases r with
  | nil => simp
  | cons y ys => simp [List.cons_prefix_cons, eq_comm]
/-- Between two rounds: what came is a beginning of the whole; so many are counted. -/
def Rnd {α : Type} (T : List α) (many : Int) (nb : Nat) (wn : World) (pre : List α) (W : World) : Prop :=
  (pre <+: T ∧ (pre.length = 0 ∨ (pre.length : Int) < many)) ∧ (W.cell? ⟨nb, 0, none⟩ = some (.int .i64 pre.length) ∧ W.frozen? ⟨nb, 0, none⟩ = false) ∧ Below nb wn W
/-- Behind a jump: what came was no beginning of the whole, or enough came. -/
def Rxt {α : Type} (T : List α) (many : Int) (nb : Nat) (wn : World) (x : Nat) (c : Code) (pre : List α) (W : World) : Prop :=
  (c = .ret ∧ ¬ pre <+: T) ∨ (c = .exit x ∧ (pre <+: T ∧ many ≤ (pre.length : Int) ∧ (pre.length = 1 ∨ (pre.length : Int) - 1 < many) ∧ 1 ≤ pre.length) ∧ (W.cell? ⟨nb, 0, none⟩ = some (.int .i64 pre.length) ∧ W.frozen? ⟨nb, 0, none⟩ = false) ∧ Below nb wn W)
section
variable {α : Type} {T : List α} {many : Int} {nb x B : Nat} {wn : World}
theorem Rnd.ahead (h : nb < B) : Ahead B (Rnd T many nb wn) := fun s U V hs hb =>
  ⟨hs.1, ⟨(hb.cell (p := ⟨nb, 0, none⟩) h).trans hs.2.1.1, (hb.frozen (p := ⟨nb, 0, none⟩) h).trans hs.2.1.2⟩, hs.2.2.trans (hb.mono (by omega))⟩
theorem Rxt.ahead (h : nb < B) (c : Code) : Ahead B (Rxt T many nb wn x c) := fun s U V hs hb => by
  rcases hs with g | g
  · exact .inl g
  · exact .inr ⟨g.1, g.2.1, ⟨(hb.cell (p := ⟨nb, 0, none⟩) h).trans g.2.2.1.1, (hb.frozen (p := ⟨nb, 0, none⟩) h).trans g.2.2.1.2⟩, g.2.2.2.trans (hb.mono (by omega))⟩
theorem Rnd.start (hc : wn.cell? ⟨nb, 0, none⟩ = some (.int .i64 0)) (hf : wn.frozen? ⟨nb, 0, none⟩ = false) : Rnd T many nb wn [] wn :=
  ⟨⟨List.nil_prefix, .inl rfl⟩, ⟨hc, hf⟩, Below.refl _ _⟩
theorem Rnd.more {pre : List α} {y : α} {W : World} (hp : pre ++ [y] <+: T) {k : Int} (hk : k = (pre.length : Int) + 1) (hm : k < many) (hc : (W.cell? ⟨nb, 0, none⟩).isSome = true) (hf : W.frozen? ⟨nb, 0, none⟩ = false) (hB : Below nb wn W) :
    Rnd T many nb wn (pre ++ [y]) (W.setCell ⟨nb, 0, none⟩ (.int .i64 k)) := by
  subst hk
  refine ⟨⟨hp, .inr (by simpa using hm)⟩, ⟨?_, by rw [World.frozen?_setCell]; exact hf⟩, hB.setCell (p := ⟨nb, 0, none⟩) (Nat.le_refl _) _⟩
  rw [World.cell?_setCell_same' _ _ _ hc, List.length_append]
  rfl
theorem Rxt.more {pre : List α} {y : α} {W : World} (hp : pre ++ [y] <+: T) {k : Int} (hk : k = (pre.length : Int) + 1) (hm : many ≤ k) (h0 : pre.length = 0 ∨ (pre.length : Int) < many) (hc : (W.cell? ⟨nb, 0, none⟩).isSome = true) (hf : W.frozen? ⟨nb, 0, none⟩ = false) (hB : Below nb wn W) :
    Rxt T many nb wn x (.exit x) (pre ++ [y]) (W.setCell ⟨nb, 0, none⟩ (.int .i64 k)) := by
  subst hk
  refine .inr ⟨rfl, ⟨hp, by simpa using hm, ?_, by simp⟩, ⟨?_, by rw [World.frozen?_setCell]; exact hf⟩, hB.setCell (p := ⟨nb, 0, none⟩) (Nat.le_refl _) _⟩
  · rw [List.length_append, List.length_singleton]; omega
  · rw [World.cell?_setCell_same' _ _ _ hc, List.length_append]
    rfl
/-- How many came, when all came. -/
theorem Rnd.whole {W : World} (h : Rnd T many nb wn T W) : (∃ c : Nat, (c : Int) = min (T.length : Int) (max 1 many) ∧ W.cell? ⟨nb, 0, none⟩ = some (.int .i64 c)) ∧ Below nb wn W :=
  ⟨⟨T.length, by have := h.1.2; omega, h.2.1.1⟩, h.2.2⟩
theorem Rxt.part {pre : List α} {W : World} {c : Code} (h : Rxt T many nb wn x c pre W) (hp : pre <+: T) : c = .exit x ∧ (∃ c : Nat, (c : Int) = min (T.length : Int) (max 1 many) ∧ W.cell? ⟨nb, 0, none⟩ = some (.int .i64 c)) ∧ Below nb wn W := by
  rcases h with g | g
  · exact absurd hp g.2
  · have hl := hp.length_le
    have g2 := g.2.1
    exact ⟨g.1, ⟨pre.length, by omega, g.2.2.1.1⟩, g.2.2.2⟩
end
theorem fin_more (n : Nat) (l : List (Fin n)) (x : Fin n) (h : l <+: List.finRange n) : (l ++ [x] <+: List.finRange n) ↔ x.val = l.length := by
  rw [prefix_more _ _ _ h]
  have hx := x.isLt
  constructor
  · intro e
    have h1 := List.getElem?_eq_some_iff.1 e
    obtain ⟨h2, h3⟩ := h1
    rw [← h3]
    simp
  · intro e
    rw [← e]
    simp [hx]


/-- Timers to go over: their rows lie in blocks that may be (A). -/
structure SeqAt (A : Nat → Prop) (W : World) (B : Nat) (l : List Rw) : Prop where
  ok : A B
  ex : ∃ ao n c, W.heap[B]? = some (.cells #[.slice ao n c] 53 (0, 0)) ∧ RowsIn A W ao n c l
theorem SeqAt.keep {A A' : Nat → Prop} {W W' : World} {B : Nat} {l : List Rw} (h : SeqAt A W B l) (ha : ∀ q, A q → q < W.heap.size → A' q) (hb : ∀ q, A q → q < W.heap.size → W'.heap[q]? = W.heap[q]?) : SeqAt A' W' B l := by
  obtain ⟨ao, n, c, h1, h2⟩ := h.ex
  refine ⟨ha B h.ok (blk_lt h1), ao, n, c, (hb B h.ok (blk_lt h1)).trans h1, h2.len, h2.cap, h2.none_, h2.big, fun a e => ?_⟩
  obtain ⟨b, cur, e1, e2, e3, e4⟩ := h2.some_ a e
  exact ⟨b, cur, e1, ha b e2 (blk_lt e3), (hb b e2 (blk_lt e3)).trans e3, e4⟩
theorem SeqAt.below {A : Nat → Prop} {W W' : World} {B : Nat} {l : List Rw} (h : SeqAt A W B l) (hb : Below W.heap.size W W') : SeqAt A W' B l :=
  h.keep (fun _ e _ => e) fun q _ hq => hb.block q hq
attribute [local go_sem] eql54
/-- All of timers that run. -/
theorem TS.all {K : Nat → Prop} {p : Nat} {most : Int} {l : List Rw} {w : World} (h : TS K p most l w) :
    Calls Try.prog 12 #[.pointer (some ⟨p, 0, none⟩)] w fun e w' => ∃ B, e = .returned (.func (.func 32) #[] #[.pointer (some ⟨B, 0, none⟩)]) ∧ SeqAt (fun q => w.heap.size ≤ q) w' B l ∧ Below w.heap.size w w' := by
  obtain ⟨ao, n, c, mb, g⟩ := h.ex
  have hn : n ≤ 100000 := by have := g.le; have := g.m1; omega
  obtain ⟨u, hu⟩ : ∃ W, W = w.alloc (.cells #[.slice none 0 0] 53) := ⟨_, rfl⟩
  obtain ⟨B, hB⟩ : ∃ B, B = w.heap.size := ⟨_, rfl⟩
  have b1 : Below w.heap.size w u := by rw [hu]; exact (Below.refl _ w).alloc (Nat.le_refl _) _
  have k1 : u.heap[B]? = some (.cells #[.slice none 0 0] 53 (0, 0)) := by rw [hu, hB]; exact alloc_blk_new _ _
  have g1 := g.below b1
  have HN := Lib.hid g1.isT
  have HC := Lib.hid (clone31 g1.rows hn)
  have c0 := cell_blk g1.blk 0 _ rfl
  have lp := blk_lt g1.blk
  have HU := Lib.hid hu
  have HBB := Lib.hid hB
  have B1 := Lib.hid b1
  have K1 := Lib.hid k1
  clear h g g1 hu hB b1 k1
  go_enter Try.func12, Try.ntmps12
  go_wp2_with (go_at_call 30; fail)
  rw [← HU.out]
  try rw [← HBB.out]
  refine HN.out.mono ?_
  rintro e w' ⟨rfl, rfl⟩
  go_wp2_with (go_at_call 31; fail)
  refine HC.out.mono ?_
  rintro e v ⟨ao', c', rfl, hr, hb⟩
  have hk := (hb.block _ (blk_lt K1.out)).trans K1.out
  have HK := Lib.hid hk
  have e0 := cell_blk hk 0 _ rfl
  have e1 := frozen_blk hk 0
  have e2 := blk_lt hk
  have HR := Lib.hid hr
  have HB := Lib.hid hb
  clear hk hr hb
  go_wp2
  go_ret
  have hBw := HBB.out
  have hBu := blk_lt K1.out
  refine ⟨B, rfl, ⟨by omega, ao', n, c', setCell_blk HK.out 0 _, HR.out.other (fun q e => Nat.le_trans B1.out.size e.1) (fun q cur hq => setCell_blk_ne ?_ _)⟩, (B1.out.trans (HB.out.mono B1.out.size)).setCell (p := ⟨B, 0, none⟩) (by show w.heap.size ≤ B; omega) _⟩
  intro e
  have h1 := HK.out
  rw [← (show q = B from e), hq] at h1
  cases h1
/-- What the iterator hands over. -/
def encT (l : List Rw) (n : Nat) (x : Fin n) : Array Value := #[.int .u64 (rAt l x.val).d, .agg #[.int .i64 (rAt l x.val).k, .int .u64 (rAt l x.val).i]]
set_option maxRecDepth 100000 in
set_option maxHeartbeats 3200000 in
theorem All32_deep (m : Nat) (hm : 1 ≤ m) (A n₀ : Nat) (ao : Option Addr) (len cap : Nat) (l : List Rw) (hreach : len ≤ 100000) (w : World) (hA : A < w.heap.size) (hn₀ : n₀ ≤ w.heap.size)
    (hc : w.cell? ⟨A, 0, none⟩ = some (.slice ao len cap)) (hI : 0 < len → ∃ b off, ao = some ⟨b, off, none⟩ ∧ b < n₀ ∧ ∀ j, j < len → w.cell? ⟨b, off + j * 3, none⟩ = some (.int .i64 (rAt l j).k) ∧ w.cell? ⟨b, off + j * 3 + 1, none⟩ = some (.int .u64 (rAt l j).i) ∧ w.cell? ⟨b, off + j * 3 + 2, none⟩ = some (.int .u64 (rAt l j).d)) :
    SeqDeep Fence.wide m Try.prog 32 #[.pointer (some ⟨A, 0, none⟩)] (encT l len) n₀ (fun ys => ys = List.finRange len) (fun pre => pre <+: List.finRange len) len w := by
  intro l' J Jx W hW hJ hJx hY h0
  have hBs := (hW.cell (p := ⟨A, 0, none⟩) hA).trans hc
  have hI' : 0 < len → ∃ b off, ao = some ⟨b, off, none⟩ ∧ b < n₀ ∧ ∀ j, j < len → W.cell? ⟨b, off + j * 3, none⟩ = some (.int .i64 (rAt l j).k) ∧ W.cell? ⟨b, off + j * 3 + 1, none⟩ = some (.int .u64 (rAt l j).i) ∧ W.cell? ⟨b, off + j * 3 + 2, none⟩ = some (.int .u64 (rAt l j).d) := fun hp => by
    obtain ⟨b, off, e, hb, hcs⟩ := hI hp
    exact ⟨b, off, e, hb, fun j hj => ⟨(hW.cell (p := ⟨b, off + j * 3, none⟩) (by show b < _; omega)).trans (hcs j hj).1, (hW.cell (p := ⟨b, off + j * 3 + 1, none⟩) (by show b < _; omega)).trans (hcs j hj).2.1, (hW.cell (p := ⟨b, off + j * 3 + 2, none⟩) (by show b < _; omega)).trans (hcs j hj).2.2⟩⟩
  have hnW := Nat.le_trans hn₀ hW.size
  have HJ := Lib.hid hJ
  have HJx := Lib.hid hJx
  have HI := Lib.hid hI'
  have HYY := Lib.hid hY
  clear hJ hJx hI' hY hI hc
  show CallsIn Fence.wide m Try.prog 32 #[.func (.yield l') #[] #[], .pointer (some ⟨A, 0, none⟩)] W _
  refine callsIn_of_wp Try.func32 rfl trivial ?_ rfl
  simp only [Try.ntmps32, List.size_toArray, List.length_cons, List.length_nil, Nat.reduceAdd, Nat.reduceSub, Array.replicate_succ, Array.replicate_zero, List.push_toArray, List.append_toArray, List.nil_append, List.cons_append]
  gi_wp2
  refine wpIn_scope_straight ?_
  refine wpIn_seq ?_
  refine wpIn_label ?_
  gi_wp2
  gi_loopw [7] (fun i wr => ∃ k : Nat, k ≤ len ∧ i = .int .i64 k ∧ J (fins len k) wr ∧ Below n₀ W wr ∧ W.heap.size ≤ wr.heap.size)
    (fun i _ => len - (intOf i).toNat)
  case atStart => exact ⟨0, Nat.zero_le _, rfl, by simpa [fins] using h0, Below.refl _ _, Nat.le_refl _⟩
  case round =>
    obtain ⟨k, hk, rfl, hJs, hnx, hsz⟩ := hrel
    by_cases hlt : k < len
    · obtain ⟨b, off, rfl, hb, hcz⟩ := HI.out (by omega)
      obtain ⟨y0, y1, y2⟩ := hcz k hlt
      have y0 := (hnx.cell (p := ⟨b, off + k * 3, none⟩) hb).trans y0
      have y1 := (hnx.cell (p := ⟨b, off + k * 3 + 1, none⟩) hb).trans y1
      have y2 := (hnx.cell (p := ⟨b, off + k * 3 + 2, none⟩) hb).trans y2
      obtain ⟨xk, hxk⟩ : ∃ x, x = (rAt l k).k := ⟨_, rfl⟩
      obtain ⟨xi, hxi⟩ : ∃ x, x = (rAt l k).i := ⟨_, rfl⟩
      obtain ⟨xd, hxd⟩ : ∃ x, x = (rAt l k).d := ⟨_, rfl⟩
      rw [← hxk] at y0
      rw [← hxi] at y1
      rw [← hxd] at y2
      have hb3 : Below wr.heap.size wr (wr.alloc (.cells #[.int .i64 xk, .int .u64 xi, .int .u64 xd] 80)) := (Below.refl _ wr).alloc (Nat.le_refl _) _
      obtain ⟨fn, tmps, assign, body, hy, hR⟩ := HYY.out _ ⟨k, hlt⟩ (wr.alloc (.cells #[.int .i64 xk, .int .u64 xi, .int .u64 xd] 80)) (by have := hb3.size; omega) (HJ.out _ wr _ hJs (hb3.mono hsz)) (by rw [fins_length hk]; exact hlt)
      unfold encT at hy
      dsimp only at hy
      rw [← hxk, ← hxi, ← hxd] at hy
      have hbw : b < wr.heap.size := by omega
      clear hcz hxk hxi hxd
      gi_wp2
      refine hR.mono ?_
      rintro e W3 ⟨hst, ⟨rfl, hJ3, hk3⟩ | ⟨rfl, hJx3⟩⟩
      · have hw1 : IntKind.i64.wrap ((k : Int) + 1) = (k : Int) + 1 := by rw [IntKind.wrap_i64]; omega
        have hz3 := hb3.size
        have hz4 := hst.1
        gi_wp2
        go_roundw
        case rel => exact ⟨k + 1, by omega, by simp, by rw [fins_succ hlt]; exact hJ3, (hnx.trans (hb3.mono (by omega))).trans hk3, by omega⟩
        case measure => simp [intOf]; omega
      · gi_wp2
        simp only [Exit.noGoto]
        refine bodyPost_end (results_none rfl _ _ _) rfl ?_
        exact ⟨⟨_, rfl⟩, .inr ⟨_, by rw [← fins_succ hlt]; exact fins_prefix _ _, hJx3⟩⟩
    · obtain rfl : k = len := by omega
      gi_wp2
      simp only [Exit.noGoto]
      refine bodyPost_end (results_none rfl _ _ _) rfl ?_
      exact ⟨⟨_, rfl⟩, .inl ⟨_, fins_all _, hJs⟩⟩
end Go.Proofs.Ytnmbhcekcdicnaa
