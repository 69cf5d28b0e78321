/-
  A queue stands as the document's: is.
-/
import Derived.Test.YtneeagabmdpjgaaSb
import Derived.Test.YtneeagabmdpjgaaPe
import Derived.Deep.CutBlock
import Derived.Deep.RegionHeld3
namespace Go.Proofs.Ytneeagabmdpjgaa
open Go.RowKit Go.Shelf
set_option linter.unusedVariables false
set_option linter.unusedSimpArgs false
attribute [local go_sem] Oper.semAt_some

/-- The law says yes, and keeps to new memory. -/
def Yes (w : World) (e : Ending) (w' : World) : Prop := e = .returned (.bool true) ∧ Below w.heap.size w w'

theorem run_eql_func53 (f : Fn) (x y : Array Value) (w : World) : (binOp .eql 53 (.func f x y) .nilFunc).run Try.prog w = .ok (.bool false) w := by
  have h : ∀ d : Nat, (Op.equalIn (d + 1) 53 (.func f x y) .nilFunc).run Try.prog w = .ok false w := fun d => by
    simp [Op.equalIn, run_underlying Try.underlying53]
  simp only [binOp]
  simp [Op.equal, Op.maxDepth, h 9999]
attribute [local go_sem] run_eql_func53

/-- Where is's boxes lie. -/
structure Ci (w : World) (v : Value) (g m many : Int) (W : World) : Prop where
  b0 : W.heap[w.heap.size]? = some (.cells #[v, .int .i64 g, .int .i64 m] 43 (0, 0))
  b1 : W.heap[w.heap.size + 1]? = some (.cells #[.int .i64 many] 3 (0, 0))
  b2 : W.heap[w.heap.size + 2]? = some (.cells #[.bool false] 4 (0, 0))
  below : Below w.heap.size w W
theorem Ci.lt {w W : World} {v : Value} {g m many : Int} (h : Ci w v g m many W) : w.heap.size + 2 < W.heap.size := blk_lt h.b2
theorem Ci.start (w : World) (v : Value) (g m many : Int) : Ci w v g m many (((w.alloc (.cells #[v, .int .i64 g, .int .i64 m] 43)).alloc (.cells #[.int .i64 many] 3)).alloc (.cells #[.bool false] 4)) := by
  have s1 : ∀ (W : World) (o : Obj), (W.alloc o).heap.size = W.heap.size + 1 := fun W o => by simp
  obtain ⟨W1, h1⟩ : ∃ W, W = w.alloc (.cells #[v, .int .i64 g, .int .i64 m] 43) := ⟨_, rfl⟩
  obtain ⟨W2, h2⟩ : ∃ W, W = W1.alloc (.cells #[.int .i64 many] 3) := ⟨_, rfl⟩
  have z1 : W1.heap.size = w.heap.size + 1 := by rw [h1]; exact s1 _ _
  have z2 : W2.heap.size = w.heap.size + 2 := by rw [h2, s1, z1]
  have b1 : W1.heap[w.heap.size]? = some (.cells #[v, .int .i64 g, .int .i64 m] 43 (0, 0)) := by rw [h1]; exact alloc_blk_new _ _
  have b2 : W2.heap[w.heap.size + 1]? = some (.cells #[.int .i64 many] 3 (0, 0)) := by rw [h2, ← z1]; exact alloc_blk_new _ _
  rw [← h1, ← h2]
  refine ⟨?_, alloc_blk b2 _, ?_, ?_⟩
  · have := alloc_blk b1 (.cells #[.int .i64 many] 3)
    rw [← h2] at this
    exact alloc_blk this _
  · rw [← z2]; exact alloc_blk_new _ _
  · have c1 : Below w.heap.size w W1 := by rw [h1]; exact (Below.refl _ w).alloc (Nat.le_refl _) _
    have c2 : Below w.heap.size w W2 := by rw [h2]; exact c1.alloc (by omega) _
    exact c2.alloc (by omega) _
theorem Ci.cells {w W : World} {v : Value} {g m many : Int} (h : Ci w v g m many W) :
    (W.cell? ⟨w.heap.size, 0, none⟩ = some v ∧ W.cell? ⟨w.heap.size, 1, none⟩ = some (.int .i64 g) ∧ W.cell? ⟨w.heap.size, 2, none⟩ = some (.int .i64 m)) ∧ W.cell? ⟨w.heap.size + 1, 0, none⟩ = some (.int .i64 many) ∧
    W.cell? ⟨w.heap.size + 1 + 1, 0, none⟩ = some (.bool false) ∧ W.frozen? ⟨w.heap.size + 1 + 1, 0, none⟩ = false :=
  ⟨⟨cell_blk h.b0 0 _ rfl, cell_blk h.b0 1 _ rfl, cell_blk h.b0 2 _ rfl⟩, cell_blk h.b1 0 _ rfl, cell_blk h.b2 0 _ rfl, frozen_blk h.b2 0⟩
theorem Ci.belN {w W W' : World} {v : Value} {g m many : Int} (h : Ci w v g m many W) {nb : Nat} (hb : Below nb W W') (hl : w.heap.size + 2 < nb) : Ci w v g m many W' :=
  ⟨(hb.block _ (by omega)).trans h.b0, (hb.block _ (by omega)).trans h.b1, (hb.block _ (by omega)).trans h.b2, h.below.trans (hb.mono (by omega))⟩
theorem Ci.bel {w W W' : World} {v : Value} {g m many : Int} (h : Ci w v g m many W) (hb : Below W.heap.size W W') : Ci w v g m many W' := h.belN hb h.lt
theorem lefts_wl (ls : List (List Int)) (g : Nat) : lefts (ls.map strOfNums) g = wl (lens ls) g := by
  cases ls with
  | nil => rfl
  | cons l ls => simp [lefts, wl, lens, strOfNums_size]
theorem range_cut {P : Program} {c : Code} {K : Act → World → Prop} {Q' : Exit → Act → World → Prop} {a : Act} {w : World} (R : Nat → World → Prop)
    (first : c.wp P (fun e a' W => e = .normal ∧ ∃ D, a' = { a with defers := { target := .collected D, args := #[] } :: a.defers } ∧ R D W) a w)
    (rest : ∀ D W, R D W → K { a with defers := { target := .collected D, args := #[] } :: a.defers } W) : c.wp P (Exit.then K Q') a w :=
  wp_mono first (fun e a' W h => by obtain ⟨rfl, D, rfl, hr⟩ := h; exact rest D W hr)
theorem prefix_more {α : Type} (T l : List α) (x : α) (h : l <+: T) : (l ++ [x] <+: T) ↔ T[l.length]? = some x := by
  obtain ⟨r, rfl⟩ := h
  rw [List.prefix_append_right_inj]
  cases r with
  | nil => simp
  | cons y ys => simp [List.cons_prefix_cons, eq_comm]
/-- Between two rounds: what came is a beginning of the whole; so many are counted. -/
def Rnd {α : Type} (T : List α) (many : Int) (nb : Nat) (wn : World) (pre : List α) (W : World) : Prop :=
  (pre <+: T ∧ (pre.length = 0 ∨ (pre.length : Int) < many)) ∧ (W.cell? ⟨nb, 0, none⟩ = some (.int .i64 pre.length) ∧ W.frozen? ⟨nb, 0, none⟩ = false) ∧ Below nb wn W
/-- Behind a jump: what came was no beginning of the whole, or enough came. -/
def Rxt {α : Type} (T : List α) (many : Int) (nb : Nat) (wn : World) (x : Nat) (c : Code) (pre : List α) (W : World) : Prop :=
  (c = .ret ∧ ¬ pre <+: T) ∨ (c = .exit x ∧ (pre <+: T ∧ many ≤ (pre.length : Int) ∧ (pre.length = 1 ∨ (pre.length : Int) - 1 < many) ∧ 1 ≤ pre.length) ∧ (W.cell? ⟨nb, 0, none⟩ = some (.int .i64 pre.length) ∧ W.frozen? ⟨nb, 0, none⟩ = false) ∧ Below nb wn W)
section
variable {α : Type} {T : List α} {many : Int} {nb x B : Nat} {wn : World}
theorem Rnd.ahead (h : nb < B) : Ahead B (Rnd T many nb wn) := fun s U V hs hb =>
  ⟨hs.1, ⟨(hb.cell (p := ⟨nb, 0, none⟩) h).trans hs.2.1.1, (hb.frozen (p := ⟨nb, 0, none⟩) h).trans hs.2.1.2⟩, hs.2.2.trans (hb.mono (by omega))⟩
theorem Rxt.ahead (h : nb < B) (c : Code) : Ahead B (Rxt T many nb wn x c) := fun s U V hs hb => by
  rcases hs with g | g
  · exact .inl g
  · exact .inr ⟨g.1, g.2.1, ⟨(hb.cell (p := ⟨nb, 0, none⟩) h).trans g.2.2.1.1, (hb.frozen (p := ⟨nb, 0, none⟩) h).trans g.2.2.1.2⟩, g.2.2.2.trans (hb.mono (by omega))⟩
theorem Rnd.start (hc : wn.cell? ⟨nb, 0, none⟩ = some (.int .i64 0)) (hf : wn.frozen? ⟨nb, 0, none⟩ = false) : Rnd T many nb wn [] wn :=
  ⟨⟨List.nil_prefix, .inl rfl⟩, ⟨hc, hf⟩, Below.refl _ _⟩
theorem Rnd.more {pre : List α} {y : α} {W : World} (hp : pre ++ [y] <+: T) {k : Int} (hk : k = (pre.length : Int) + 1) (hm : k < many) (hc : (W.cell? ⟨nb, 0, none⟩).isSome = true) (hf : W.frozen? ⟨nb, 0, none⟩ = false) (hB : Below nb wn W) :
    Rnd T many nb wn (pre ++ [y]) (W.setCell ⟨nb, 0, none⟩ (.int .i64 k)) := by
  subst hk
  refine ⟨⟨hp, .inr (by simpa using hm)⟩, ⟨?_, by rw [World.frozen?_setCell]; exact hf⟩, hB.setCell (p := ⟨nb, 0, none⟩) (Nat.le_refl _) _⟩
  rw [World.cell?_setCell_same' _ _ _ hc, List.length_append]
  rfl
theorem Rxt.more {pre : List α} {y : α} {W : World} (hp : pre ++ [y] <+: T) {k : Int} (hk : k = (pre.length : Int) + 1) (hm : many ≤ k) (h0 : pre.length = 0 ∨ (pre.length : Int) < many) (hc : (W.cell? ⟨nb, 0, none⟩).isSome = true) (hf : W.frozen? ⟨nb, 0, none⟩ = false) (hB : Below nb wn W) :
    Rxt T many nb wn x (.exit x) (pre ++ [y]) (W.setCell ⟨nb, 0, none⟩ (.int .i64 k)) := by
  subst hk
  refine .inr ⟨rfl, ⟨hp, by simpa using hm, ?_, by simp⟩, ⟨?_, by rw [World.frozen?_setCell]; exact hf⟩, hB.setCell (p := ⟨nb, 0, none⟩) (Nat.le_refl _) _⟩
  · rw [List.length_append, List.length_singleton]; omega
  · rw [World.cell?_setCell_same' _ _ _ hc, List.length_append]
    rfl
/-- How many came, when all came. -/
theorem Rnd.whole {W : World} (h : Rnd T many nb wn T W) : (∃ c : Nat, (c : Int) = min (T.length : Int) (max 1 many) ∧ W.cell? ⟨nb, 0, none⟩ = some (.int .i64 c)) ∧ Below nb wn W :=
  ⟨⟨T.length, by have := h.1.2; omega, h.2.1.1⟩, h.2.2⟩
theorem Rxt.part {pre : List α} {W : World} {c : Code} (h : Rxt T many nb wn x c pre W) (hp : pre <+: T) : c = .exit x ∧ (∃ c : Nat, (c : Int) = min (T.length : Int) (max 1 many) ∧ W.cell? ⟨nb, 0, none⟩ = some (.int .i64 c)) ∧ Below nb wn W := by
  rcases h with g | g
  · exact absurd hp g.2
  · have hl := hp.length_le
    have g2 := g.2.1
    exact ⟨g.1, ⟨pre.length, by omega, g.2.2.1.1⟩, g.2.2.2⟩
end
theorem fin_more (n : Nat) (l : List (Fin n)) (x : Fin n) (h : l <+: List.finRange n) : (l ++ [x] <+: List.finRange n) ↔ x.val = l.length := by
  rw [prefix_more _ _ _ h]
  have hx := x.isLt
  constructor
  · intro e
    have h1 := List.getElem?_eq_some_iff.1 e
    obtain ⟨h2, h3⟩ := h1
    rw [← h3]
    simp
  · intro e
    rw [← e]
    simp [hx]

set_option maxHeartbeats 6400000 in
set_option maxRecDepth 100000 in
theorem is_o {w00 w : World} {K T : Nat → Prop} {p : Nat} {m part : Int} {fs bs : List Int} (a : Option Addr) (c g n : Nat) (ls : List (List Int)) (many : Int) (h : OS w00 K p m fs part bs w) (hd : DQ T w a c ls) (hnl : ls.length = n) (ht : Tie ls g fs part bs) :
    Calls Try.prog 20 #[.pointer (some ⟨p, 0, none⟩), dagg a n c g m, .int .i64 many] w (Yes w) := by
  have hbd := h.bounds
  have hn0 := ht.n h.inv
  rw [hnl] at hn0
  have hn : n ≤ 1048576 := by omega
  have hfl := ht.flat h.inv
  have hgb := ht.g_big h.inv
  have hgl := ht.g_le h.inv
  have hbig := ht.big h.inv
  have hlen := ht.len h.inv
  have hfn : fs.length = n := by rw [ht.fs, lens_len, hnl]
  obtain ⟨zs, hzs⟩ : ∃ zs, zs = wl fs part := ⟨_, rfl⟩
  obtain ⟨B, hB⟩ : ∃ B, B = bs.length := ⟨_, rfl⟩
  have hdn := hd.at_
  rw [hnl] at hdn
  have HC := Lib.hid (Ci.start w (.slice a n c) g m many)
  have HLeft : Hid (∀ W, Below w.heap.size w W → Calls Try.prog 21 #[.agg #[.slice a n c, .int .i64 g, .int .i64 m]] W fun e w' => ∃ a' c', e = .returned (.slice a' n c') ∧ Nar (fun k => W.heap.size ≤ k) w' a' n zs ∧ Below W.heap.size W w') := Lib.hid (fun W hW => by
    refine (refLeft_any a n c g m (ls.map strOfNums) W (hdn.below hW) (by omega) (fun s hs => ?_) (by omega)).mono ?_
    · obtain ⟨l, hl, rfl⟩ := List.mem_map.1 hs
      have := hbig l hl
      rw [strOfNums_size]; omega
    · rintro e w' ⟨a', c', rfl, hrow, hb⟩
      rw [lefts_wl, ← ht.fs, ← ht.part, ← hzs] at hrow
      exact ⟨a', c', rfl, (row_nar hrow).1, hb⟩)
  have HAll : Hid (∀ W, Below w.heap.size w W → Calls Try.prog 22 #[.pointer (some ⟨p, 0, none⟩)] W fun e w' => ∃ B a c, e = .returned (.func (.func 46) #[] #[.pointer (some ⟨B, 0, none⟩)]) ∧ w'.heap[B]? = some (.cells #[.slice a n c] 50 (0, 0)) ∧ W.heap.size ≤ B ∧ Nar (fun k => W.heap.size ≤ k) w' a n zs ∧ Below W.heap.size W w') := Lib.hid (fun W hW => by
    have := (h.grow hW).all
    rw [hfn, ← hzs] at this
    exact this)
  have H15 : Hid (∀ W, Below w.heap.size w W → Calls Try.prog 15 #[.pointer (some ⟨p, 0, none⟩)] W fun e w' => e = .returned (.int .i64 B) ∧ Below W.heap.size W w') := Lib.hid (fun W hW => by
    rw [hB]
    exact (h.grow hW).len.mono (fun e w' ⟨h1, q, h2⟩ => ⟨h1, by rw [h2]; exact Below.drewN' W q⟩))
  have H16 : Hid (∀ W, Below w.heap.size w W → Calls Try.prog 16 #[.pointer (some ⟨p, 0, none⟩)] W fun e w' => e = .returned (.int .i64 (m - B)) ∧ Below W.heap.size W w') := Lib.hid (fun W hW => by
    rw [hB]
    exact (h.grow hW).room.mono (fun e w' ⟨h1, q, h2⟩ => ⟨h1, by rw [h2]; exact Below.drewN' W q⟩))
  have H12 : Hid (∀ W, Below w.heap.size w W → Calls Try.prog 12 #[.pointer (some ⟨p, 0, none⟩)] W fun e w' => e = .returned (.int .i64 g) ∧ Below W.heap.size W w') := Lib.hid (fun W hW => by
    rw [← ht.part]
    exact (h.grow hW).begun.mono (fun e w' ⟨h1, q, h2⟩ => ⟨h1, by rw [h2]; exact Below.drewN' W q⟩))
  have H17 : Hid (∀ W, Below w.heap.size w W → Calls Try.prog 17 #[.pointer (some ⟨p, 0, none⟩)] W fun e w' => e = .returned (.int .i64 n) ∧ Below W.heap.size W w') := Lib.hid (fun W hW => by
    rw [← hfn]
    exact (h.grow hW).frames.mono (fun e w' ⟨h1, q, h2⟩ => ⟨h1, by rw [h2]; exact Below.drewN' W q⟩))
  have H44 : Hid (∀ W, Below w.heap.size w W → Calls Try.prog 44 #[.agg #[.slice a n c, .int .i64 g, .int .i64 m]] W fun e w' => e = .returned (.int .i64 B) ∧ Below W.heap.size W w') := Lib.hid (fun W hW => by
    have := refLen_any a n c g m (ls.map strOfNums) W (hdn.below hW) (by omega) (by rw [totS_map]; omega) (by rw [totS_map]; exact hgl)
    rw [totS_map, hlen, ← hB] at this
    exact this)
  obtain ⟨hbm0, hbm1, hbm2⟩ := hbd
  rw [← hB] at hbm2
  unfold dagg
  clear h hd ht hdn hfl hgl hbig hlen hfn hzs hB hn0 hnl
  refine (callsIn_wide (n := 5)).1 ?_
  refine callsIn_of_wp_marks Try.func20 rfl trivial ?_ rfl
  simp only [Try.ntmps20, List.size_toArray, List.length_cons, List.length_nil, Nat.reduceAdd, Nat.reduceSub, Array.replicate_succ, Array.replicate_zero, List.push_toArray, List.append_toArray, List.nil_append, List.cons_append]
  refine wpIn_wide.2 ?_
  have cbox := HC.out.cells
  obtain ⟨⟨q1, q2, q3⟩, q4, q5, q6⟩ := cbox
  go_wp2_with (go_at_call 21; fail)
  clear q1 q2 q3 q4 q5 q6
  refine (HLeft.out _ HC.out.below).mono ?_
  obtain ⟨wc0, hwc0⟩ : ∃ W, W = (((w.alloc (.cells #[.slice a n c, .int .i64 g, .int .i64 m] 43)).alloc (.cells #[.int .i64 many] 3)).alloc (.cells #[.bool false] 4)) := ⟨_, rfl⟩
  rw [← hwc0] at HC ⊢
  rintro e w1 ⟨la, lc, rfl, hA1, hb1⟩
  obtain ⟨X7, hX7⟩ : ∃ X, X = w1.heap.size := ⟨_, rfl⟩
  obtain ⟨w2, hw2⟩ : ∃ W, W = w1.alloc (.cells #[.slice la n lc] 50) := ⟨_, rfl⟩
  have hb2 : Below w1.heap.size w1 w2 := by rw [hw2]; exact (Below.refl _ w1).alloc (Nat.le_refl _) _
  have k2 : w2.heap[X7]? = some (.cells #[.slice la n lc] 50 (0, 0)) := by rw [hw2, hX7]; exact alloc_blk_new _ _
  have hA2 := hA1.below hb2
  have C2 := Lib.hid ((HC.out.bel hb1).bel hb2)
  have hX73 : w.heap.size + 2 < X7 := by have := HC.out.lt; have := hb1.size; omega
  have HA2 := Lib.hid (hA2.mono (U := fun k => w.heap.size + 2 < k) (fun k _ hk => by have := HC.out.lt; have h3 : wc0.heap.size ≤ k := hk; omega))
  have K2 := Lib.hid k2
  have E2 := Lib.hid hw2
  have E7 := Lib.hid hX7
  clear hb2 k2 hA2 hA1 hb1 hwc0 HC hw2 hX7
  go_wp2_with (go_at_call 22; fail)
  rw [← E2.out, ← E7.out]
  refine (HAll.out _ C2.out.below).mono ?_
  rintro e w3 ⟨qb, qa, qcap, rfl, hbx, hqb, hA, hb⟩
  have C3 := Lib.hid (C2.out.bel hb)
  have K3 := Lib.hid ((hb.block _ (blk_lt K2.out)).trans K2.out)
  have HA3 := Lib.hid (HA2.out.below hb)
  have hqb3 : w.heap.size + 2 < qb := by have := C2.out.lt; omega
  have HBX := Lib.hid hbx
  have HA := Lib.hid hA
  have hql := blk_lt hbx
  clear hbx hA hb hqb C2 K2 HA2 E2
  have hnn : (n != n) = false := by simp
  have hnn2 : ((n : Int) != n) = false := by simp
  have hbb2 : ((B : Int) != B) = false := by simp
  have hgg2 : ((g : Int) != g) = false := by simp
  have hmm : ((m - (B : Int)) != (m - (B : Int))) = false := by simp
  have hmw : IntKind.i64.wrap (m - (B : Int)) = m - B := by rw [IntKind.wrap_i64]; omega
  obtain ⟨⟨c0, c1, c2⟩, c3, c4, f4⟩ := C3.out.cells
  have c7 := cell_blk K3.out 0 _ rfl
  go_upto_region 3 with fail
  refine wp_region_noPanic ?_
  obtain ⟨wd, hwd⟩ : ∃ W, W = (w3).drew := ⟨_, rfl⟩
  have HBd : Hid (Below (w3).heap.size (w3) wd) := Lib.hid (by rw [hwd]; exact Below.drewN' (w3) 1)
  have hS0 : (fun W : World => W.cell? ⟨w.heap.size, 0, none⟩ = some (.slice a n c) ∧ W.cell? ⟨w.heap.size, 1, none⟩ = some (.int .i64 g) ∧ W.cell? ⟨w.heap.size, 2, none⟩ = some (.int .i64 m) ∧ W.cell? ⟨X7, 0, none⟩ = some (.slice la n lc)) wd := by rw [hwd]; exact ⟨c0, c1, c2, c7⟩
  refine wp_region_held_drew (S := fun W => W.cell? ⟨w.heap.size, 0, none⟩ = some (.slice a n c) ∧ W.cell? ⟨w.heap.size, 1, none⟩ = some (.int .i64 g) ∧ W.cell? ⟨w.heap.size, 2, none⟩ = some (.int .i64 m) ∧ W.cell? ⟨X7, 0, none⟩ = some (.slice la n lc)) (by kernel_rfl) (by rw [← hwd]; exact hS0) (fun hHeld => ?_)
  rw [← hwd] at hHeld ⊢
  clear hwd hS0
  refine' wpAnyH_take (i := 0) (oi := { dst := some 16, op := Op.move (Operand.tmp 8), type := 53, pos := "law.go:87", after := #[], guard := none }) (v := ?v1001) rfl (by kernel_rfl) (by kernel_rfl) (by kernel_rfl) (fun _ _ _ h => h) (.inl ⟨by first | rfl | simp [Region.wanted, yielded], ?hy1001⟩) (by assumption) ?rest1001
  case hy1001 => (intro W hW; obtain ⟨f1, f2, f3, f4⟩ := hW; go_simp; try with_reducible rfl)
  simp only [Act.put, List.setIfInBounds_toArray, List.set_cons_zero, List.set_cons_succ]
  refine' wpAnyH_take (i := 1) (oi := { dst := some 17, op := Op.binOp BinOp.eql 53 (Operand.tmp 16) (Operand.const Value.nilFunc) 53, type := 4, pos := "law.go:87", after := #[{ on := 0, ground := Ground.data }], guard := none }) (v := ?v1002) rfl (by kernel_rfl) (by kernel_rfl) (by kernel_rfl) (fun _ _ _ h => h) (.inl ⟨by first | rfl | simp [Region.wanted, yielded], ?hy1002⟩) (by assumption) ?rest1002
  case hy1002 => (intro W hW; obtain ⟨f1, f2, f3, f4⟩ := hW; go_simp; try with_reducible rfl)
  simp only [Act.put, List.setIfInBounds_toArray, List.set_cons_zero, List.set_cons_succ]
  refine' wpAnyH_take (i := 2) (oi := { dst := some 18, op := Op.move (Operand.tmp 17), type := 4, pos := "law.go:87", after := #[{ on := 1, ground := Ground.data }], guard := none }) (v := ?v1003) rfl (by kernel_rfl) (by kernel_rfl) (by kernel_rfl) (fun _ _ _ h => h) (.inl ⟨by first | rfl | simp [Region.wanted, yielded], ?hy1003⟩) (by assumption) ?rest1003
  case hy1003 => (intro W hW; obtain ⟨f1, f2, f3, f4⟩ := hW; go_simp; try with_reducible rfl)
  simp only [Act.put, List.setIfInBounds_toArray, List.set_cons_zero, List.set_cons_succ]
  refine' wpAnyH_take (i := 3) (oi := { dst := some 19, op := Op.move (Operand.tmp 0), type := 25, pos := "law.go:87", after := #[{ on := 2, ground := Ground.guard }], guard := some (2, false) }) (v := ?v1004) rfl (by kernel_rfl) (by kernel_rfl) (by kernel_rfl) (fun _ _ _ h => h) (.inl ⟨by first | rfl | simp [Region.wanted, yielded], ?hy1004⟩) (by assumption) ?rest1004
  case hy1004 => (intro W hW; obtain ⟨f1, f2, f3, f4⟩ := hW; go_simp; try with_reducible rfl)
  simp only [Act.put, List.setIfInBounds_toArray, List.set_cons_zero, List.set_cons_succ]
  refine' wpAnyH_take (i := 5) (oi := { dst := some 21, op := Op.load 43 (Operand.tmp 4), type := 43, pos := "law.go:87", after := #[{ on := 2, ground := Ground.guard }], guard := some (2, false) }) (v := ?v1005) rfl (by kernel_rfl) (by kernel_rfl) (by kernel_rfl) (fun _ _ _ h => h) (.inl ⟨by first | rfl | simp [Region.wanted, yielded], ?hy1005⟩) (by assumption) ?rest1005
  case hy1005 => (intro W hW; obtain ⟨f1, f2, f3, f4⟩ := hW; go_simp; try with_reducible rfl)
  simp only [Act.put, List.setIfInBounds_toArray, List.set_cons_zero, List.set_cons_succ]
  refine wpAnyH_ready (rs := [4]) (by kernel_rfl) (by simp) ?_
  refine AllReadyH.cons (o := { dst := some 20, op := Op.call { callee := Callee.value (Operand.func 15), args := #[Operand.tmp 19], argTypes := #[25] }, type := 3, pos := "law.go:87", after := #[{ on := 3, ground := Ground.data }, { on := 2, ground := Ground.chain }, { on := 2, ground := Ground.guard }], guard := some (2, false) }) rfl (fun KK hK => ?_) (AllReadyH.nil)
  try simp only [List.getElem_toArray, List.getElem_cons_succ, List.getElem_cons_zero]
  have hbd3 : Below w3.heap.size w3 wd := HBd.out
  have HBD := Lib.hid hbd3
  clear hbd3
  go_simp
  refine (H15.out wd (C3.out.bel HBD.out).below).mono ?_
  rintro e v3 ⟨rfl, hbn⟩
  have HBv3 := Lib.hid (HBD.out.trans (hbn.mono HBD.out.size))
  have civ3 := (C3.out.bel HBv3.out).cells
  have hSn : (fun W : World => W.cell? ⟨w.heap.size, 0, none⟩ = some (.slice a n c) ∧ W.cell? ⟨w.heap.size, 1, none⟩ = some (.int .i64 g) ∧ W.cell? ⟨w.heap.size, 2, none⟩ = some (.int .i64 m) ∧ W.cell? ⟨X7, 0, none⟩ = some (.slice la n lc)) v3 := ⟨civ3.1.1, civ3.1.2.1, civ3.1.2.2, cell_blk ((HBv3.out.block _ (blk_lt K3.out)).trans K3.out) 0 _ rfl⟩
  clear hbn civ3
  refine hK.out _ _ (by assumption) (fun hHeld => ?_)
  clear hK KK
  try simp only [Act.put, List.setIfInBounds_toArray, List.set_cons_zero, List.set_cons_succ]
  refine wpAnyH_ready (rs := [6]) (by kernel_rfl) (by simp) ?_
  refine AllReadyH.cons (o := { dst := some 22, op := Op.call { callee := Callee.value (Operand.func 44), args := #[Operand.tmp 21], argTypes := #[43] }, type := 3, pos := "law.go:87", after := #[{ on := 5, ground := Ground.data }, { on := 4, ground := Ground.chain }, { on := 2, ground := Ground.guard }], guard := some (2, false) }) rfl (fun KK hK => ?_) (AllReadyH.nil)
  try simp only [List.getElem_toArray, List.getElem_cons_succ, List.getElem_cons_zero]
  go_simp
  refine (H44.out v3 (C3.out.bel HBv3.out).below).mono ?_
  rintro e v4 ⟨rfl, hbn⟩
  have HBv4 := Lib.hid (HBv3.out.trans (hbn.mono HBv3.out.size))
  have civ4 := (C3.out.bel HBv4.out).cells
  have hSn : (fun W : World => W.cell? ⟨w.heap.size, 0, none⟩ = some (.slice a n c) ∧ W.cell? ⟨w.heap.size, 1, none⟩ = some (.int .i64 g) ∧ W.cell? ⟨w.heap.size, 2, none⟩ = some (.int .i64 m) ∧ W.cell? ⟨X7, 0, none⟩ = some (.slice la n lc)) v4 := ⟨civ4.1.1, civ4.1.2.1, civ4.1.2.2, cell_blk ((HBv4.out.block _ (blk_lt K3.out)).trans K3.out) 0 _ rfl⟩
  clear hbn civ4
  refine hK.out _ _ (by assumption) (fun hHeld => ?_)
  clear hK KK
  try simp only [Act.put, List.setIfInBounds_toArray, List.set_cons_zero, List.set_cons_succ]
  refine' wpAnyH_take (i := 7) (oi := { dst := some 23, op := Op.binOp BinOp.neq 3 (Operand.tmp 20) (Operand.tmp 22) 3, type := 4, pos := "law.go:87", after := #[{ on := 4, ground := Ground.data }, { on := 6, ground := Ground.data }, { on := 2, ground := Ground.guard }], guard := some (2, false) }) (v := ?v1006) rfl (by kernel_rfl) (by kernel_rfl) (by kernel_rfl) (fun _ _ _ h => h) (.inl ⟨by first | rfl | simp [Region.wanted, yielded], ?hy1006⟩) (by assumption) ?rest1006
  case hy1006 => (intro W hW; obtain ⟨f1, f2, f3, f4⟩ := hW; go_simp; try with_reducible rfl)
  simp only [Act.put, List.setIfInBounds_toArray, List.set_cons_zero, List.set_cons_succ]
  refine' wpAnyH_take (i := 8) (oi := { dst := some 24, op := Op.pick (Operand.tmp 18) (Operand.const (Value.bool true)) (Operand.tmp 23), type := 4, pos := "law.go:87", after := #[{ on := 2, ground := Ground.data }, { on := 7, ground := Ground.data }], guard := none }) (v := ?v1007) rfl (by kernel_rfl) (by kernel_rfl) (by kernel_rfl) (fun _ _ _ h => h) (.inl ⟨by first | rfl | simp [Region.wanted, yielded], ?hy1007⟩) (by assumption) ?rest1007
  case hy1007 => (intro W hW; obtain ⟨f1, f2, f3, f4⟩ := hW; go_simp; try with_reducible rfl)
  simp only [Act.put, List.setIfInBounds_toArray, List.set_cons_zero, List.set_cons_succ]
  refine' wpAnyH_take (i := 9) (oi := { dst := some 25, op := Op.move (Operand.tmp 24), type := 4, pos := "law.go:87", after := #[{ on := 8, ground := Ground.data }, { on := 6, ground := Ground.chain }], guard := none }) (v := ?v1008) rfl (by kernel_rfl) (by kernel_rfl) (by kernel_rfl) (fun _ _ _ h => h) (.inl ⟨by first | rfl | simp [Region.wanted, yielded], ?hy1008⟩) (by assumption) ?rest1008
  case hy1008 => (intro W hW; obtain ⟨f1, f2, f3, f4⟩ := hW; go_simp; try with_reducible rfl)
  simp only [Act.put, List.setIfInBounds_toArray, List.set_cons_zero, List.set_cons_succ]
  refine' wpAnyH_take (i := 10) (oi := { dst := some 26, op := Op.move (Operand.tmp 0), type := 25, pos := "law.go:87", after := #[{ on := 9, ground := Ground.guard }], guard := some (9, false) }) (v := ?v1009) rfl (by kernel_rfl) (by kernel_rfl) (by kernel_rfl) (fun _ _ _ h => h) (.inl ⟨by first | rfl | simp [Region.wanted, yielded], ?hy1009⟩) (by assumption) ?rest1009
  case hy1009 => (intro W hW; obtain ⟨f1, f2, f3, f4⟩ := hW; go_simp; try with_reducible rfl)
  simp only [Act.put, List.setIfInBounds_toArray, List.set_cons_zero, List.set_cons_succ]
  refine' wpAnyH_take (i := 12) (oi := { dst := some 28, op := Op.load 50 (Operand.tmp 7), type := 50, pos := "law.go:87", after := #[{ on := 9, ground := Ground.guard }], guard := some (9, false) }) (v := ?v1010) rfl (by kernel_rfl) (by kernel_rfl) (by kernel_rfl) (fun _ _ _ h => h) (.inl ⟨by first | rfl | simp [Region.wanted, yielded], ?hy1010⟩) (by assumption) ?rest1010
  case hy1010 => (intro W hW; obtain ⟨f1, f2, f3, f4⟩ := hW; go_simp; try with_reducible rfl)
  simp only [Act.put, List.setIfInBounds_toArray, List.set_cons_zero, List.set_cons_succ]
  refine' wpAnyH_take (i := 13) (oi := { dst := some 29, op := Op.call { callee := Callee.builtin Builtin.len, args := #[Operand.tmp 28], argTypes := #[50] }, type := 3, pos := "law.go:87", after := #[{ on := 12, ground := Ground.data }, { on := 9, ground := Ground.guard }], guard := some (9, false) }) (v := ?v1011) rfl (by kernel_rfl) (by kernel_rfl) (by kernel_rfl) (fun _ _ _ h => h) (.inl ⟨by first | rfl | simp [Region.wanted, yielded], ?hy1011⟩) (by assumption) ?rest1011
  case hy1011 => (intro W hW; obtain ⟨f1, f2, f3, f4⟩ := hW; go_simp; try with_reducible rfl)
  simp only [Act.put, List.setIfInBounds_toArray, List.set_cons_zero, List.set_cons_succ]
  refine wpAnyH_ready (rs := [11]) (by kernel_rfl) (by simp) ?_
  refine AllReadyH.cons (o := { dst := some 27, op := Op.call { callee := Callee.value (Operand.func 17), args := #[Operand.tmp 26], argTypes := #[25] }, type := 3, pos := "law.go:87", after := #[{ on := 10, ground := Ground.data }, { on := 9, ground := Ground.chain }, { on := 9, ground := Ground.guard }], guard := some (9, false) }) rfl (fun KK hK => ?_) (AllReadyH.nil)
  try simp only [List.getElem_toArray, List.getElem_cons_succ, List.getElem_cons_zero]
  go_simp
  refine (H17.out v4 (C3.out.bel HBv4.out).below).mono ?_
  rintro e v5 ⟨rfl, hbn⟩
  have HBv5 := Lib.hid (HBv4.out.trans (hbn.mono HBv4.out.size))
  have civ5 := (C3.out.bel HBv5.out).cells
  have hSn : (fun W : World => W.cell? ⟨w.heap.size, 0, none⟩ = some (.slice a n c) ∧ W.cell? ⟨w.heap.size, 1, none⟩ = some (.int .i64 g) ∧ W.cell? ⟨w.heap.size, 2, none⟩ = some (.int .i64 m) ∧ W.cell? ⟨X7, 0, none⟩ = some (.slice la n lc)) v5 := ⟨civ5.1.1, civ5.1.2.1, civ5.1.2.2, cell_blk ((HBv5.out.block _ (blk_lt K3.out)).trans K3.out) 0 _ rfl⟩
  clear hbn civ5
  refine hK.out _ _ (by assumption) (fun hHeld => ?_)
  clear hK KK
  try simp only [Act.put, List.setIfInBounds_toArray, List.set_cons_zero, List.set_cons_succ]
  refine' wpAnyH_take (i := 14) (oi := { dst := some 30, op := Op.binOp BinOp.neq 3 (Operand.tmp 27) (Operand.tmp 29) 3, type := 4, pos := "law.go:87", after := #[{ on := 11, ground := Ground.data }, { on := 13, ground := Ground.data }, { on := 9, ground := Ground.guard }], guard := some (9, false) }) (v := ?v1012) rfl (by kernel_rfl) (by kernel_rfl) (by kernel_rfl) (fun _ _ _ h => h) (.inl ⟨by first | rfl | simp [Region.wanted, yielded], ?hy1012⟩) (by assumption) ?rest1012
  case hy1012 => (intro W hW; obtain ⟨f1, f2, f3, f4⟩ := hW; go_simp; try with_reducible rfl)
  simp only [Act.put, List.setIfInBounds_toArray, List.set_cons_zero, List.set_cons_succ]
  refine' wpAnyH_take (i := 15) (oi := { dst := some 31, op := Op.pick (Operand.tmp 25) (Operand.const (Value.bool true)) (Operand.tmp 30), type := 4, pos := "law.go:87", after := #[{ on := 9, ground := Ground.data }, { on := 14, ground := Ground.data }], guard := none }) (v := ?v1013) rfl (by kernel_rfl) (by kernel_rfl) (by kernel_rfl) (fun _ _ _ h => h) (.inl ⟨by first | rfl | simp [Region.wanted, yielded], ?hy1013⟩) (by assumption) ?rest1013
  case hy1013 => (intro W hW; obtain ⟨f1, f2, f3, f4⟩ := hW; go_simp; try with_reducible rfl)
  simp only [Act.put, List.setIfInBounds_toArray, List.set_cons_zero, List.set_cons_succ]
  refine' wpAnyH_take (i := 16) (oi := { dst := some 32, op := Op.move (Operand.tmp 31), type := 4, pos := "law.go:87", after := #[{ on := 15, ground := Ground.data }, { on := 11, ground := Ground.chain }], guard := none }) (v := ?v1014) rfl (by kernel_rfl) (by kernel_rfl) (by kernel_rfl) (fun _ _ _ h => h) (.inl ⟨by first | rfl | simp [Region.wanted, yielded], ?hy1014⟩) (by assumption) ?rest1014
  case hy1014 => (intro W hW; obtain ⟨f1, f2, f3, f4⟩ := hW; go_simp; try with_reducible rfl)
  simp only [Act.put, List.setIfInBounds_toArray, List.set_cons_zero, List.set_cons_succ]
  refine' wpAnyH_take (i := 17) (oi := { dst := some 33, op := Op.move (Operand.tmp 0), type := 25, pos := "law.go:87", after := #[{ on := 16, ground := Ground.guard }], guard := some (16, false) }) (v := ?v1015) rfl (by kernel_rfl) (by kernel_rfl) (by kernel_rfl) (fun _ _ _ h => h) (.inl ⟨by first | rfl | simp [Region.wanted, yielded], ?hy1015⟩) (by assumption) ?rest1015
  case hy1015 => (intro W hW; obtain ⟨f1, f2, f3, f4⟩ := hW; go_simp; try with_reducible rfl)
  simp only [Act.put, List.setIfInBounds_toArray, List.set_cons_zero, List.set_cons_succ]
  refine' wpAnyH_take (i := 19) (oi := { dst := some 35, op := Op.fieldAddr 43 (Operand.tmp 4) 1, type := 0, pos := "law.go:87", after := #[{ on := 16, ground := Ground.guard }], guard := some (16, false) }) (v := ?v1016) rfl (by kernel_rfl) (by kernel_rfl) (by kernel_rfl) (fun _ _ _ h => h) (.inl ⟨by first | rfl | simp [Region.wanted, yielded], ?hy1016⟩) (by assumption) ?rest1016
  case hy1016 => (intro W hW; obtain ⟨f1, f2, f3, f4⟩ := hW; go_simp; try with_reducible rfl)
  simp only [Act.put, List.setIfInBounds_toArray, List.set_cons_zero, List.set_cons_succ]
  refine' wpAnyH_take (i := 20) (oi := { dst := some 36, op := Op.load 3 (Operand.tmp 35), type := 3, pos := "law.go:87", after := #[{ on := 19, ground := Ground.data }, { on := 16, ground := Ground.guard }], guard := some (16, false) }) (v := ?v1017) rfl (by kernel_rfl) (by kernel_rfl) (by kernel_rfl) (fun _ _ _ h => h) (.inl ⟨by first | rfl | simp [Region.wanted, yielded], ?hy1017⟩) (by assumption) ?rest1017
  case hy1017 => (intro W hW; obtain ⟨f1, f2, f3, f4⟩ := hW; go_simp; try with_reducible rfl)
  simp only [Act.put, List.setIfInBounds_toArray, List.set_cons_zero, List.set_cons_succ]
  refine wpAnyH_ready (rs := [18]) (by kernel_rfl) (by simp) ?_
  refine AllReadyH.cons (o := { dst := some 34, op := Op.call { callee := Callee.value (Operand.func 12), args := #[Operand.tmp 33], argTypes := #[25] }, type := 3, pos := "law.go:87", after := #[{ on := 17, ground := Ground.data }, { on := 16, ground := Ground.chain }, { on := 16, ground := Ground.guard }], guard := some (16, false) }) rfl (fun KK hK => ?_) (AllReadyH.nil)
  try simp only [List.getElem_toArray, List.getElem_cons_succ, List.getElem_cons_zero]
  go_simp
  refine (H12.out v5 (C3.out.bel HBv5.out).below).mono ?_
  rintro e v6 ⟨rfl, hbn⟩
  have HBv6 := Lib.hid (HBv5.out.trans (hbn.mono HBv5.out.size))
  have civ6 := (C3.out.bel HBv6.out).cells
  have hSn : (fun W : World => W.cell? ⟨w.heap.size, 0, none⟩ = some (.slice a n c) ∧ W.cell? ⟨w.heap.size, 1, none⟩ = some (.int .i64 g) ∧ W.cell? ⟨w.heap.size, 2, none⟩ = some (.int .i64 m) ∧ W.cell? ⟨X7, 0, none⟩ = some (.slice la n lc)) v6 := ⟨civ6.1.1, civ6.1.2.1, civ6.1.2.2, cell_blk ((HBv6.out.block _ (blk_lt K3.out)).trans K3.out) 0 _ rfl⟩
  clear hbn civ6
  refine hK.out _ _ (by assumption) (fun hHeld => ?_)
  clear hK KK
  try simp only [Act.put, List.setIfInBounds_toArray, List.set_cons_zero, List.set_cons_succ]
  refine' wpAnyH_take (i := 21) (oi := { dst := some 37, op := Op.binOp BinOp.neq 3 (Operand.tmp 34) (Operand.tmp 36) 3, type := 4, pos := "law.go:87", after := #[{ on := 18, ground := Ground.data }, { on := 20, ground := Ground.data }, { on := 16, ground := Ground.guard }], guard := some (16, false) }) (v := ?v1018) rfl (by kernel_rfl) (by kernel_rfl) (by kernel_rfl) (fun _ _ _ h => h) (.inl ⟨by first | rfl | simp [Region.wanted, yielded], ?hy1018⟩) (by assumption) ?rest1018
  case hy1018 => (intro W hW; obtain ⟨f1, f2, f3, f4⟩ := hW; go_simp; try with_reducible rfl)
  simp only [Act.put, List.setIfInBounds_toArray, List.set_cons_zero, List.set_cons_succ]
  refine' wpAnyH_take (i := 22) (oi := { dst := some 38, op := Op.pick (Operand.tmp 32) (Operand.const (Value.bool true)) (Operand.tmp 37), type := 4, pos := "law.go:87", after := #[{ on := 16, ground := Ground.data }, { on := 21, ground := Ground.data }], guard := none }) (v := ?v1019) rfl (by kernel_rfl) (by kernel_rfl) (by kernel_rfl) (fun _ _ _ h => h) (.inl ⟨by first | rfl | simp [Region.wanted, yielded], ?hy1019⟩) (by assumption) ?rest1019
  case hy1019 => (intro W hW; obtain ⟨f1, f2, f3, f4⟩ := hW; go_simp; try with_reducible rfl)
  simp only [Act.put, List.setIfInBounds_toArray, List.set_cons_zero, List.set_cons_succ]
  refine' wpAnyH_take (i := 23) (oi := { dst := some 39, op := Op.move (Operand.tmp 38), type := 4, pos := "law.go:87", after := #[{ on := 22, ground := Ground.data }, { on := 18, ground := Ground.chain }], guard := none }) (v := ?v1020) rfl (by kernel_rfl) (by kernel_rfl) (by kernel_rfl) (fun _ _ _ h => h) (.inl ⟨by first | rfl | simp [Region.wanted, yielded], ?hy1020⟩) (by assumption) ?rest1020
  case hy1020 => (intro W hW; obtain ⟨f1, f2, f3, f4⟩ := hW; go_simp; try with_reducible rfl)
  simp only [Act.put, List.setIfInBounds_toArray, List.set_cons_zero, List.set_cons_succ]
  refine' wpAnyH_take (i := 24) (oi := { dst := some 40, op := Op.move (Operand.tmp 0), type := 25, pos := "law.go:87", after := #[{ on := 23, ground := Ground.guard }], guard := some (23, false) }) (v := ?v1021) rfl (by kernel_rfl) (by kernel_rfl) (by kernel_rfl) (fun _ _ _ h => h) (.inl ⟨by first | rfl | simp [Region.wanted, yielded], ?hy1021⟩) (by assumption) ?rest1021
  case hy1021 => (intro W hW; obtain ⟨f1, f2, f3, f4⟩ := hW; go_simp; try with_reducible rfl)
  simp only [Act.put, List.setIfInBounds_toArray, List.set_cons_zero, List.set_cons_succ]
  refine' wpAnyH_take (i := 26) (oi := { dst := some 42, op := Op.fieldAddr 43 (Operand.tmp 4) 2, type := 0, pos := "law.go:87", after := #[{ on := 23, ground := Ground.guard }], guard := some (23, false) }) (v := ?v1022) rfl (by kernel_rfl) (by kernel_rfl) (by kernel_rfl) (fun _ _ _ h => h) (.inl ⟨by first | rfl | simp [Region.wanted, yielded], ?hy1022⟩) (by assumption) ?rest1022
  case hy1022 => (intro W hW; obtain ⟨f1, f2, f3, f4⟩ := hW; go_simp; try with_reducible rfl)
  simp only [Act.put, List.setIfInBounds_toArray, List.set_cons_zero, List.set_cons_succ]
  refine' wpAnyH_take (i := 27) (oi := { dst := some 43, op := Op.load 3 (Operand.tmp 42), type := 3, pos := "law.go:87", after := #[{ on := 26, ground := Ground.data }, { on := 23, ground := Ground.guard }], guard := some (23, false) }) (v := ?v1023) rfl (by kernel_rfl) (by kernel_rfl) (by kernel_rfl) (fun _ _ _ h => h) (.inl ⟨by first | rfl | simp [Region.wanted, yielded], ?hy1023⟩) (by assumption) ?rest1023
  case hy1023 => (intro W hW; obtain ⟨f1, f2, f3, f4⟩ := hW; go_simp; try with_reducible rfl)
  simp only [Act.put, List.setIfInBounds_toArray, List.set_cons_zero, List.set_cons_succ]
  refine' wpAnyH_take (i := 28) (oi := { dst := some 44, op := Op.load 43 (Operand.tmp 4), type := 43, pos := "law.go:87", after := #[{ on := 23, ground := Ground.guard }], guard := some (23, false) }) (v := ?v1024) rfl (by kernel_rfl) (by kernel_rfl) (by kernel_rfl) (fun _ _ _ h => h) (.inl ⟨by first | rfl | simp [Region.wanted, yielded], ?hy1024⟩) (by assumption) ?rest1024
  case hy1024 => (intro W hW; obtain ⟨f1, f2, f3, f4⟩ := hW; go_simp; try with_reducible rfl)
  simp only [Act.put, List.setIfInBounds_toArray, List.set_cons_zero, List.set_cons_succ]
  refine wpAnyH_ready (rs := [25]) (by kernel_rfl) (by simp) ?_
  refine AllReadyH.cons (o := { dst := some 41, op := Op.call { callee := Callee.value (Operand.func 16), args := #[Operand.tmp 40], argTypes := #[25] }, type := 3, pos := "law.go:87", after := #[{ on := 24, ground := Ground.data }, { on := 23, ground := Ground.chain }, { on := 23, ground := Ground.guard }], guard := some (23, false) }) rfl (fun KK hK => ?_) (AllReadyH.nil)
  try simp only [List.getElem_toArray, List.getElem_cons_succ, List.getElem_cons_zero]
  go_simp
  refine (H16.out v6 (C3.out.bel HBv6.out).below).mono ?_
  rintro e v7 ⟨rfl, hbn⟩
  have HBv7 := Lib.hid (HBv6.out.trans (hbn.mono HBv6.out.size))
  have civ7 := (C3.out.bel HBv7.out).cells
  have hSn : (fun W : World => W.cell? ⟨w.heap.size, 0, none⟩ = some (.slice a n c) ∧ W.cell? ⟨w.heap.size, 1, none⟩ = some (.int .i64 g) ∧ W.cell? ⟨w.heap.size, 2, none⟩ = some (.int .i64 m) ∧ W.cell? ⟨X7, 0, none⟩ = some (.slice la n lc)) v7 := ⟨civ7.1.1, civ7.1.2.1, civ7.1.2.2, cell_blk ((HBv7.out.block _ (blk_lt K3.out)).trans K3.out) 0 _ rfl⟩
  clear hbn civ7
  refine hK.out _ _ (by assumption) (fun hHeld => ?_)
  clear hK KK
  try simp only [Act.put, List.setIfInBounds_toArray, List.set_cons_zero, List.set_cons_succ]
  refine wpAnyH_ready (rs := [29]) (by kernel_rfl) (by simp) ?_
  refine AllReadyH.cons (o := { dst := some 45, op := Op.call { callee := Callee.value (Operand.func 44), args := #[Operand.tmp 44], argTypes := #[43] }, type := 3, pos := "law.go:87", after := #[{ on := 28, ground := Ground.data }, { on := 25, ground := Ground.chain }, { on := 23, ground := Ground.guard }], guard := some (23, false) }) rfl (fun KK hK => ?_) (AllReadyH.nil)
  try simp only [List.getElem_toArray, List.getElem_cons_succ, List.getElem_cons_zero]
  go_simp
  refine (H44.out v7 (C3.out.bel HBv7.out).below).mono ?_
  rintro e v8 ⟨rfl, hbn⟩
  have HBv8 := Lib.hid (HBv7.out.trans (hbn.mono HBv7.out.size))
  have civ8 := (C3.out.bel HBv8.out).cells
  have hSn : (fun W : World => W.cell? ⟨w.heap.size, 0, none⟩ = some (.slice a n c) ∧ W.cell? ⟨w.heap.size, 1, none⟩ = some (.int .i64 g) ∧ W.cell? ⟨w.heap.size, 2, none⟩ = some (.int .i64 m) ∧ W.cell? ⟨X7, 0, none⟩ = some (.slice la n lc)) v8 := ⟨civ8.1.1, civ8.1.2.1, civ8.1.2.2, cell_blk ((HBv8.out.block _ (blk_lt K3.out)).trans K3.out) 0 _ rfl⟩
  clear hbn civ8
  refine hK.out _ _ (by assumption) (fun hHeld => ?_)
  clear hK KK
  try simp only [Act.put, List.setIfInBounds_toArray, List.set_cons_zero, List.set_cons_succ]
  refine' wpAnyH_take (i := 30) (oi := { dst := some 46, op := Op.binOp BinOp.sub 3 (Operand.tmp 43) (Operand.tmp 45) 3, type := 3, pos := "law.go:87", after := #[{ on := 27, ground := Ground.data }, { on := 29, ground := Ground.data }, { on := 23, ground := Ground.guard }], guard := some (23, false) }) (v := ?v1025) rfl (by kernel_rfl) (by kernel_rfl) (by kernel_rfl) (fun _ _ _ h => h) (.inl ⟨by first | rfl | simp [Region.wanted, yielded], ?hy1025⟩) (by assumption) ?rest1025
  case hy1025 => (intro W hW; obtain ⟨f1, f2, f3, f4⟩ := hW; go_simp; try with_reducible rfl)
  simp only [Act.put, List.setIfInBounds_toArray, List.set_cons_zero, List.set_cons_succ]
  refine' wpAnyH_take (i := 31) (oi := { dst := some 47, op := Op.binOp BinOp.neq 3 (Operand.tmp 41) (Operand.tmp 46) 3, type := 4, pos := "law.go:87", after := #[{ on := 25, ground := Ground.data }, { on := 30, ground := Ground.data }, { on := 23, ground := Ground.guard }], guard := some (23, false) }) (v := ?v1026) rfl (by kernel_rfl) (by kernel_rfl) (by kernel_rfl) (fun _ _ _ h => h) (.inl ⟨by first | rfl | simp [Region.wanted, yielded], ?hy1026⟩) (by assumption) ?rest1026
  case hy1026 => (intro W hW; obtain ⟨f1, f2, f3, f4⟩ := hW; go_simp; try with_reducible rfl)
  simp only [Act.put, List.setIfInBounds_toArray, List.set_cons_zero, List.set_cons_succ]
  refine' wpAnyH_take (i := 32) (oi := { dst := some 48, op := Op.pick (Operand.tmp 39) (Operand.const (Value.bool true)) (Operand.tmp 47), type := 4, pos := "law.go:87", after := #[{ on := 23, ground := Ground.data }, { on := 31, ground := Ground.data }], guard := none }) (v := ?v1027) rfl (by kernel_rfl) (by kernel_rfl) (by kernel_rfl) (fun _ _ _ h => h) (.inl ⟨by first | rfl | simp [Region.wanted, yielded], ?hy1027⟩) (by assumption) ?rest1027
  case hy1027 => (intro W hW; obtain ⟨f1, f2, f3, f4⟩ := hW; go_simp; try with_reducible rfl)
  simp only [Act.put, List.setIfInBounds_toArray, List.set_cons_zero, List.set_cons_succ]
  refine wpAnyH_done (by kernel_rfl) ?_ _
  refine NoPanic.normal ?_
  go_upto_block 0 with fail
  clear hnn hnn2 hbb2 hgg2 hmm hmw c0 c1 c2 c3 c4 f4 c7 HLeft HAll H15 H16 H12 H17 H44
  have C6 := Lib.hid (C3.out.bel HBv8.out)
  have K6 := Lib.hid ((HBv8.out.block _ (blk_lt K3.out)).trans K3.out)
  have B6 := Lib.hid ((HBv8.out.block _ (blk_lt HBX.out)).trans HBX.out)
  have A6 := Lib.hid (HA.out.below HBv8.out)
  have L6 := Lib.hid (HA3.out.below HBv8.out)
  clear C3 K3 HBX HA HA3
  have hb1 := (Below.refl _ v8).alloc (Nat.le_refl _) (.cells #[.int .i64 0] 3)
  have k16 := alloc_blk_new v8 (.cells #[.int .i64 0] 3)
  obtain ⟨nb, hnb⟩ : ∃ B, B = v8.heap.size := ⟨_, rfl⟩
  obtain ⟨wn, hwn⟩ : ∃ W, W = v8.alloc (.cells #[.int .i64 0] 3) := ⟨_, rfl⟩
  rw [← hwn] at hb1 k16 ⊢
  rw [← hnb] at k16 ⊢
  have hnlt := blk_lt k16
  have hl6 := C6.out.lt
  have hq6 := blk_lt B6.out
  have hx6 := blk_lt K6.out
  have Cn := Lib.hid (C6.out.bel hb1)
  have CB := Lib.hid (cell_blk ((hb1.block _ (by omega)).trans B6.out) 0 (.slice qa n qcap) rfl)
  have KN := Lib.hid ((hb1.block _ (by omega)).trans K6.out)
  have K16 := Lib.hid (cell_blk k16 0 (.int .i64 0) rfl)
  have F16 := Lib.hid (frozen_blk k16 0)
  have HQC : Hid (0 < n → ∃ b off, qa = some ⟨b, off, none⟩ ∧ b < nb ∧ ∀ j, j < n → wn.cell? ⟨b, off + j, none⟩ = some (.int .i64 (zs[j]?.getD 0))) := Lib.hid (fun hp => by
    obtain ⟨b, off, e, hl, _, hc⟩ := A6.out.2 hp
    exact ⟨b, off, e, by omega, fun j hj => by have := (hb1.cell (p := ⟨b, off + j, none⟩) hl).trans (hc j hj); rw [this]; simp [List.getD]⟩)
  have RL6 : Hid (0 < n → ∃ b off, la = some ⟨b, off, none⟩ ∧ b < nb ∧ ∀ j, j < n → wn.cell? ⟨b, off + j, none⟩ = some (.int .i64 (zs.getD j 0))) := Lib.hid (fun hp => by
    obtain ⟨b, off, e, hl, _, hc⟩ := L6.out.2 hp
    exact ⟨b, off, e, by omega, fun j hj => (hb1.cell (p := ⟨b, off + j, none⟩) hl).trans (hc j hj)⟩)
  have hl6n : w.heap.size + 2 < nb := by omega
  have hq6n : qb < nb := by omega
  have hx6n : X7 < nb := by omega
  clear hb1 k16 hwn C6 B6 A6 L6 K6 hnb hl6 hq6 hx6
  refine range_cut (fun D W => wn.heap.size ≤ D ∧ W.heap[D]? = some (.deferred (some [])) ∧ (∃ c : Nat, (c : Int) = min (n : Int) (max 1 many) ∧ W.cell? ⟨nb, 0, none⟩ = some (.int .i64 c)) ∧ Below nb wn W) ?first0 ?rest0
  case first0 =>
    go_wp2_with fail
    refine (wpIn_wide (n := 5)).1 ?_
    refine' wpIn_range_deep (F := Fence.wide) rfl (by omega) (gf := 46) (lb := #[.pointer (some ⟨qb, 0, none⟩)]) rfl trivial (enters_of Try.func46 (by kernel_rfl) rfl) (n₀ := nb) (by omega)
      (All46_deep 4 (by omega) qb nb qa n qcap zs (by omega) wn (by omega) (by omega) CB.out (fun hp => by obtain ⟨g, off, e, hl, hc⟩ := HQC.out hp; exact ⟨g, off, e, hl, hc⟩)) (fun _ => rfl)
      (Rnd (List.finRange n) many nb wn) (Rxt (List.finRange n) many nb wn 0) (Rnd.ahead (by omega)) (Rxt.ahead (by omega)) (Rnd.start K16.out F16.out) _ ?assign ?body ?done ?stop
    case assign =>
      intro l x W K hK
      gi_wp2
      exact hK
    case done =>
      rintro D ys W hD rfl hI hKd
      obtain ⟨⟨c, hc, hcc⟩, hB⟩ := hI.whole
      rw [List.length_finRange] at hc
      exact ⟨rfl, D, rfl, hD, hKd, ⟨c, hc, hcc⟩, hB⟩
    case stop =>
      rintro D c pre W hD hSp hIx hKd
      obtain ⟨rfl, ⟨c, hc, hcc⟩, hB⟩ := hIx.part hSp
      rw [List.length_finRange] at hc
      refine wpIn_exit ?_
      exact ⟨rfl, D, rfl, hD, hKd, ⟨c, hc, hcc⟩, hB⟩
    case body =>
      rintro l pre x W hW ⟨⟨hp, hC⟩, ⟨hc, hf⟩, hB⟩ hlt
      obtain ⟨b, off, rfl, hbl, hbc⟩ := RL6.out (by omega)
      obtain ⟨_, qm, qr, qf⟩ := Cn.out.cells
      have qs := cell_blk KN.out 0 (.slice (some ⟨b, off, none⟩) n lc) rfl
      have hcs := (hB.cell (p := ⟨X7, 0, none⟩) (by show X7 < nb; omega)).trans qs
      have hcm := (hB.cell (p := ⟨w.heap.size + 1, 0, none⟩) (by show w.heap.size + 1 < nb; omega)).trans qm
      have hcr := (hB.cell (p := ⟨w.heap.size + 1 + 1, 0, none⟩) (by show w.heap.size + 1 + 1 < nb; omega)).trans qr
      have hfr := (hB.frozen (p := ⟨w.heap.size + 1 + 1, 0, none⟩) (by show w.heap.size + 1 + 1 < nb; omega)).trans qf
      have hcb := (hB.cell (p := ⟨b, off + pre.length, none⟩) (by show b < nb; omega)).trans (hbc pre.length hlt)
      have hmore := fin_more n pre x hp
      obtain ⟨pl, hpl⟩ : ∃ pl, pl = pre.length := ⟨_, rfl⟩
      obtain ⟨z, hz⟩ : ∃ z, z = zs.getD pre.length 0 := ⟨_, rfl⟩
      rw [← hz] at hcb
      rw [← hpl] at hc hcb hmore hlt hC
      obtain ⟨xi, hxi⟩ : ∃ xi, xi = x.val := ⟨_, rfl⟩
      obtain ⟨xv, hxv⟩ : ∃ xv, xv = zs[x.val]?.getD 0 := ⟨_, rfl⟩
      rw [← hxi] at hmore
      have hxl : xi < n := by rw [hxi]; exact x.isLt
      have hzx : xi = pl → xv = z := fun e => by rw [hxv, hz, ← hpl, ← hxi, e]; simp [List.getD]
      have HMore := Lib.hid hmore
      have HP := Lib.hid hp
      have HBl := Lib.hid hB
      have HPL := Lib.hid hpl
      have HC := Lib.hid hC
      have HZX := Lib.hid hzx
      have hgt : decide ((n : Int) ≤ pl) = false := by simp; omega
      have hgt2 : decide (n ≤ pl) = false := by simp; omega
      have hlt2 : (pl : Int) < n := by omega
      simp only [← hxv]
      simp only [← hxi]
      clear hmore hp hB hbc hz hpl hC qm qr qf hxi hxv hzx qs
      by_cases e1 : xi = pl
      · subst e1
        obtain rfl := HZX.out rfl
        have hvv : (xv != xv) = false := by simp
        have d0 : ((xi : Int) != (xi : Int)) = false := by simp
        have d00 : (xi != xi) = false := by simp
        by_cases hmy : many ≤ (xi : Int) + 1
        · have dm : decide (many ≤ (xi : Int) + 1) = true := by simpa using hmy
          gi_wp2
          exact ⟨(Stays.refl _ _).setCell (p := ⟨nb, 0, none⟩) (by show nb < _; omega) _, Rxt.more (HMore.out.2 (by first | trivial | rfl)) (by rw [HPL.out]) hmy (by have := HC.out; have := HPL.out; omega) (by rw [hc]; rfl) hf HBl.out⟩
        · have dm : decide (many ≤ (xi : Int) + 1) = false := by simpa using hmy
          gi_wp2
          exact ⟨(Stays.refl _ _).setCell (p := ⟨nb, 0, none⟩) (by show nb < _; omega) _, (Below.refl nb W).setCell (p := ⟨nb, 0, none⟩) (Nat.le_refl _) _, Rnd.more (HMore.out.2 (by first | trivial | rfl)) (by rw [HPL.out]) (by omega) (by rw [hc]; rfl) hf HBl.out⟩
      · have d1 : ((xi : Int) != (pl : Int)) = true := by simp; omega
        have d2 : (xi != pl) = true := by simpa using e1
        gi_wp2
        exact ⟨(Stays.refl _ _).setCell (p := ⟨w.heap.size + 1 + 1, 0, none⟩) (by show w.heap.size + 1 + 1 < _; omega) _, .inl ⟨rfl, fun h => e1 (HMore.out.1 h)⟩⟩
  case rest0 =>
    rintro D0 W0 ⟨hD0, hKd0, ⟨c0, hgood, hcc⟩, hB0⟩
    dsimp only
    have C0 := Lib.hid (Cn.out.belN hB0 (by omega))
    have HKd := Lib.hid hKd0
    have hsz0 := hB0.size
    obtain ⟨_, c3, c4, f4⟩ := C0.out.cells
    have kx0 := (hB0.block X7 (by omega)).trans KN.out
    have c2 := cell_blk kx0 0 (.slice la n lc) rfl
    have hx0 := blk_lt kx0
    have hl0 := C0.out.lt
    have hl0a : w.heap.size + 1 + 1 < W0.heap.size := by omega
    have hl0b : w.heap.size < W0.heap.size := by omega
    have hl0c : nb < W0.heap.size := by omega
    obtain ⟨n', hn'⟩ : ∃ n', n' = n := ⟨_, rfl⟩
    rw [← hn'] at c2 hgood
    clear Cn K16 F16 RL6 CB HQC hB0 hKd0 kx0 KN
    have key : (many < 1 ∧ (n' < 1 ∧ c0 = 0 ∨ 1 < n' ∧ c0 = 1 ∨ n' = 1 ∧ c0 = 1)) ∨ (many = 1 ∧ (n' < 1 ∧ c0 = 0 ∨ 1 < n' ∧ c0 = 1 ∨ n' = 1 ∧ c0 = 1)) ∨ (1 < many ∧ ((n' : Int) < many ∧ c0 = n' ∨ many < (n' : Int) ∧ (c0 : Int) = many ∨ (n' : Int) = many ∧ c0 = n')) := by omega
    clear hgood
    have hn1 : n' ≤ 1048576 := by omega
    clear hn'
    rcases key with ⟨k1, ⟨k2, rfl⟩ | ⟨k2, rfl⟩ | ⟨rfl, rfl⟩⟩ | ⟨rfl, ⟨k2, rfl⟩ | ⟨k2, rfl⟩ | ⟨rfl, rfl⟩⟩ | ⟨k1, ⟨k2, rfl⟩ | ⟨k2, k3⟩ | ⟨k2, rfl⟩⟩
    · obtain rfl : n' = 0 := by omega
      go_wp2_with fail
      have hk1 := (KeepsOthers.setCell W0 ⟨w.heap.size + 1 + 1, 0, none⟩ (.bool true)).same D0 _ HKd.out rfl
      have hc6 := cell_kept (World.cell?_setCell_same' W0 ⟨w.heap.size + 1 + 1, 0, none⟩ (.bool true) (by rw [c4]; rfl)) (grownBy_putObj' _ D0 (.deferred none)) (fun r e => by cases e; exact ⟨_, hk1, rfl⟩)
      refine ⟨by simp, .inl ⟨_, _, rfl, run_takeDeferred hk1, ?_⟩⟩
      refine ⟨.bool true, ?_, rfl, (C0.out.below.setCell (p := ⟨w.heap.size + 1 + 1, 0, none⟩) (by simp; omega) _).trans (belowK_b (w := w) (Nat.le_refl _) _ D0 _ _ (by omega) hk1 rfl rfl)⟩
      simp [results, Try.f20, go_sem, hc6]
    · have k3 : (1 : Int) < n' := by omega
      go_wp2_with fail
      have hk1 := (KeepsOthers.setCell W0 ⟨w.heap.size + 1 + 1, 0, none⟩ (.bool true)).same D0 _ HKd.out rfl
      have hc6 := cell_kept (World.cell?_setCell_same' W0 ⟨w.heap.size + 1 + 1, 0, none⟩ (.bool true) (by rw [c4]; rfl)) (grownBy_putObj' _ D0 (.deferred none)) (fun r e => by cases e; exact ⟨_, hk1, rfl⟩)
      refine ⟨by simp, .inl ⟨_, _, rfl, run_takeDeferred hk1, ?_⟩⟩
      refine ⟨.bool true, ?_, rfl, (C0.out.below.setCell (p := ⟨w.heap.size + 1 + 1, 0, none⟩) (by simp; omega) _).trans (belowK_b (w := w) (Nat.le_refl _) _ D0 _ _ (by omega) hk1 rfl rfl)⟩
      simp [results, Try.f20, go_sem, hc6]
    · go_wp2_with fail
      have hk1 := (KeepsOthers.setCell W0 ⟨w.heap.size + 1 + 1, 0, none⟩ (.bool true)).same D0 _ HKd.out rfl
      have hc6 := cell_kept (World.cell?_setCell_same' W0 ⟨w.heap.size + 1 + 1, 0, none⟩ (.bool true) (by rw [c4]; rfl)) (grownBy_putObj' _ D0 (.deferred none)) (fun r e => by cases e; exact ⟨_, hk1, rfl⟩)
      refine ⟨by simp, .inl ⟨_, _, rfl, run_takeDeferred hk1, ?_⟩⟩
      refine ⟨.bool true, ?_, rfl, (C0.out.below.setCell (p := ⟨w.heap.size + 1 + 1, 0, none⟩) (by simp; omega) _).trans (belowK_b (w := w) (Nat.le_refl _) _ D0 _ _ (by omega) hk1 rfl rfl)⟩
      simp [results, Try.f20, go_sem, hc6]
    · obtain rfl : n' = 0 := by omega
      go_wp2_with fail
      have hk1 := (KeepsOthers.setCell W0 ⟨w.heap.size + 1 + 1, 0, none⟩ (.bool true)).same D0 _ HKd.out rfl
      have hc6 := cell_kept (World.cell?_setCell_same' W0 ⟨w.heap.size + 1 + 1, 0, none⟩ (.bool true) (by rw [c4]; rfl)) (grownBy_putObj' _ D0 (.deferred none)) (fun r e => by cases e; exact ⟨_, hk1, rfl⟩)
      refine ⟨by simp, .inl ⟨_, _, rfl, run_takeDeferred hk1, ?_⟩⟩
      refine ⟨.bool true, ?_, rfl, (C0.out.below.setCell (p := ⟨w.heap.size + 1 + 1, 0, none⟩) (by simp; omega) _).trans (belowK_b (w := w) (Nat.le_refl _) _ D0 _ _ (by omega) hk1 rfl rfl)⟩
      simp [results, Try.f20, go_sem, hc6]
    · have k3 : (1 : Int) < n' := by omega
      go_wp2_with fail
      have hk1 := (KeepsOthers.setCell W0 ⟨w.heap.size + 1 + 1, 0, none⟩ (.bool true)).same D0 _ HKd.out rfl
      have hc6 := cell_kept (World.cell?_setCell_same' W0 ⟨w.heap.size + 1 + 1, 0, none⟩ (.bool true) (by rw [c4]; rfl)) (grownBy_putObj' _ D0 (.deferred none)) (fun r e => by cases e; exact ⟨_, hk1, rfl⟩)
      refine ⟨by simp, .inl ⟨_, _, rfl, run_takeDeferred hk1, ?_⟩⟩
      refine ⟨.bool true, ?_, rfl, (C0.out.below.setCell (p := ⟨w.heap.size + 1 + 1, 0, none⟩) (by simp; omega) _).trans (belowK_b (w := w) (Nat.le_refl _) _ D0 _ _ (by omega) hk1 rfl rfl)⟩
      simp [results, Try.f20, go_sem, hc6]
    · go_wp2_with fail
      have hk1 := (KeepsOthers.setCell W0 ⟨w.heap.size + 1 + 1, 0, none⟩ (.bool true)).same D0 _ HKd.out rfl
      have hc6 := cell_kept (World.cell?_setCell_same' W0 ⟨w.heap.size + 1 + 1, 0, none⟩ (.bool true) (by rw [c4]; rfl)) (grownBy_putObj' _ D0 (.deferred none)) (fun r e => by cases e; exact ⟨_, hk1, rfl⟩)
      refine ⟨by simp, .inl ⟨_, _, rfl, run_takeDeferred hk1, ?_⟩⟩
      refine ⟨.bool true, ?_, rfl, (C0.out.below.setCell (p := ⟨w.heap.size + 1 + 1, 0, none⟩) (by simp; omega) _).trans (belowK_b (w := w) (Nat.le_refl _) _ D0 _ _ (by omega) hk1 rfl rfl)⟩
      simp [results, Try.f20, go_sem, hc6]
    · go_wp2_with fail
      have hk1 := (KeepsOthers.setCell W0 ⟨w.heap.size + 1 + 1, 0, none⟩ (.bool true)).same D0 _ HKd.out rfl
      have hc6 := cell_kept (World.cell?_setCell_same' W0 ⟨w.heap.size + 1 + 1, 0, none⟩ (.bool true) (by rw [c4]; rfl)) (grownBy_putObj' _ D0 (.deferred none)) (fun r e => by cases e; exact ⟨_, hk1, rfl⟩)
      refine ⟨by simp, .inl ⟨_, _, rfl, run_takeDeferred hk1, ?_⟩⟩
      refine ⟨.bool true, ?_, rfl, (C0.out.below.setCell (p := ⟨w.heap.size + 1 + 1, 0, none⟩) (by simp; omega) _).trans (belowK_b (w := w) (Nat.le_refl _) _ D0 _ _ (by omega) hk1 rfl rfl)⟩
      simp [results, Try.f20, go_sem, hc6]
    · obtain rfl : many = (c0 : Int) := k3.symm
      go_wp2_with fail
      have hk1 := (KeepsOthers.setCell W0 ⟨w.heap.size + 1 + 1, 0, none⟩ (.bool true)).same D0 _ HKd.out rfl
      have hc6 := cell_kept (World.cell?_setCell_same' W0 ⟨w.heap.size + 1 + 1, 0, none⟩ (.bool true) (by rw [c4]; rfl)) (grownBy_putObj' _ D0 (.deferred none)) (fun r e => by cases e; exact ⟨_, hk1, rfl⟩)
      refine ⟨by simp, .inl ⟨_, _, rfl, run_takeDeferred hk1, ?_⟩⟩
      refine ⟨.bool true, ?_, rfl, (C0.out.below.setCell (p := ⟨w.heap.size + 1 + 1, 0, none⟩) (by simp; omega) _).trans (belowK_b (w := w) (Nat.le_refl _) _ D0 _ _ (by omega) hk1 rfl rfl)⟩
      simp [results, Try.f20, go_sem, hc6]
    · obtain rfl : many = (c0 : Int) := k2.symm
      go_wp2_with fail
      have hk1 := (KeepsOthers.setCell W0 ⟨w.heap.size + 1 + 1, 0, none⟩ (.bool true)).same D0 _ HKd.out rfl
      have hc6 := cell_kept (World.cell?_setCell_same' W0 ⟨w.heap.size + 1 + 1, 0, none⟩ (.bool true) (by rw [c4]; rfl)) (grownBy_putObj' _ D0 (.deferred none)) (fun r e => by cases e; exact ⟨_, hk1, rfl⟩)
      refine ⟨by simp, .inl ⟨_, _, rfl, run_takeDeferred hk1, ?_⟩⟩
      refine ⟨.bool true, ?_, rfl, (C0.out.below.setCell (p := ⟨w.heap.size + 1 + 1, 0, none⟩) (by simp; omega) _).trans (belowK_b (w := w) (Nat.le_refl _) _ D0 _ _ (by omega) hk1 rfl rfl)⟩
      simp [results, Try.f20, go_sem, hc6]
end Go.Proofs.Ytneeagabmdpjgaa
