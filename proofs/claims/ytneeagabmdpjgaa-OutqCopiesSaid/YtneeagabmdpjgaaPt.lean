/-
  Both queues and two calls behind; what is gone over.
-/
import Derived.Test.YtneeagabmdpjgaaPq
import Derived.Test.YtneeagabmdpjgaaOk
import Derived.Deep.CutBlock
namespace Go.Proofs.Ytneeagabmdpjgaa
open Go.RowKit Go.Shelf
set_option linter.unusedVariables false
set_option linter.unusedSimpArgs false

/-- Where the two calls behind lie, and the result. -/
structure Bt (w : World) (x y : OV) (W : World) : Prop where
  b0 : W.heap[w.heap.size]? = some (.cells #[.int .i64 x.what, .int .i64 x.n, .slice x.a x.ls.length x.c, .int .i64 y.what, .int .i64 y.n, .slice y.a y.ls.length y.c] 49 (0, 0))
  b1 : W.heap[w.heap.size + 1]? = some (.cells #[.bool false] 4 (0, 0))
  below : Below w.heap.size w W
section
variable {w W W' : World} {x y : OV}
theorem Bt.lt (h : Bt w x y W) : w.heap.size + 1 < W.heap.size := blk_lt h.b1
theorem Bt.belN {nb : Nat} (h : Bt w x y W) (hb : Below nb W W') (hl : w.heap.size + 1 < nb) : Bt w x y W' := ⟨(hb.block _ (by omega)).trans h.b0, (hb.block _ (by omega)).trans h.b1, h.below.trans (hb.mono (by omega))⟩
theorem Bt.bel (h : Bt w x y W) (hb : Below W.heap.size W W') : Bt w x y W' := h.belN hb h.lt
theorem Bt.mod {S : Nat → Prop} (h : Bt w x y W) (hm : Mod S W W') (hs : ∀ k, S k → w.heap.size + 1 < k) : Bt w x y W' := by
  have hl := h.lt
  refine ⟨(hm.block _ (by omega) (fun e => by have := hs _ e; omega)).trans h.b0, (hm.block _ (by omega) (fun e => by have := hs _ e; omega)).trans h.b1, ?_⟩
  exact (Mod.trans (S := fun k => w.heap.size ≤ k) (Mod.of_below h.below _) hm (fun k _ e => by have := hs k e; omega)).below (fun k hk => by omega)
theorem Bt.cells (h : Bt w x y W) : (W.cell? ⟨w.heap.size, 0, none⟩ = some (.int .i64 x.what) ∧ W.cell? ⟨w.heap.size, 1, none⟩ = some (.int .i64 x.n) ∧ W.cell? ⟨w.heap.size, 2, none⟩ = some (.slice x.a x.ls.length x.c)) ∧
    (W.cell? ⟨w.heap.size, 3, none⟩ = some (.int .i64 y.what) ∧ W.cell? ⟨w.heap.size, 4, none⟩ = some (.int .i64 y.n) ∧ W.cell? ⟨w.heap.size, 5, none⟩ = some (.slice y.a y.ls.length y.c)) ∧ W.cell? ⟨w.heap.size + 1, 0, none⟩ = some (.bool false) ∧ W.frozen? ⟨w.heap.size + 1, 0, none⟩ = false :=
  ⟨⟨cell_blk h.b0 0 _ rfl, cell_blk h.b0 1 _ rfl, cell_blk h.b0 2 _ rfl⟩, ⟨cell_blk h.b0 3 _ rfl, cell_blk h.b0 4 _ rfl, cell_blk h.b0 5 _ rfl⟩, cell_blk h.b1 0 _ rfl, frozen_blk h.b1 0⟩
theorem Bt.acts (h : Bt w x y W) (hx : x.Ok (fun k => k < w.heap.size) w) (hy : y.Ok (fun k => k < w.heap.size) w) : OActs W (some ⟨w.heap.size, 0, none⟩) 2 [x, y] := by
  refine ⟨by unfold maxLen; omega, by simp, fun _ => ⟨w.heap.size, 0, rfl, by have := h.lt; omega, fun j hj => ?_⟩⟩
  obtain ⟨⟨c0, c1, c2⟩, ⟨d0, d1, d2⟩, _⟩ := h.cells
  have hs := h.below.size
  have ox := hx.below h.below
  have oy := hy.below h.below
  match j, hj with
  | 0, _ => exact ⟨x, rfl, c0, c1, c2, { ox with ps := ox.ps.mono fun k hk _ => hk }⟩
  | 1, _ => exact ⟨y, rfl, d0, d1, d2, { oy with ps := oy.ps.mono fun k hk _ => hk }⟩
theorem Bt.start (w : World) (x y : OV) : Bt w x y ((w.alloc (.cells #[.int .i64 x.what, .int .i64 x.n, .slice x.a x.ls.length x.c, .int .i64 y.what, .int .i64 y.n, .slice y.a y.ls.length y.c] 49)).alloc (.cells #[.bool false] 4)) := by
  have s1 : ∀ (W : World) (o : Obj), (W.alloc o).heap.size = W.heap.size + 1 := fun W o => by simp
  refine ⟨alloc_blk (alloc_blk_new _ _) _, ?_, ((Below.refl _ w).alloc (Nat.le_refl _) _).alloc (by simp) _⟩
  have := alloc_blk_new (w.alloc (.cells #[.int .i64 x.what, .int .i64 x.n, .slice x.a x.ls.length x.c, .int .i64 y.what, .int .i64 y.n, .slice y.a y.ls.length y.c] 49)) (.cells #[.bool false] 4)
  rw [s1] at this
  exact this
end
/-- Both queues, the document's in a box, and the two calls behind. -/
structure Cl (w : World) (x y : OV) (K : Nat → Prop) (m : Int) (p B : Nat) (ra : Option Addr) (nq rc g lim : Nat) (wr : World) : Prop where
  qd : Qd w K m p ra nq rc g lim wr
  box : Box B ra nq rc g m wr
  kb : K B
  bt : Bt w x y wr
  kt : K w.heap.size
  kr : K (w.heap.size + 1)
  lt : w.heap.size + 1 < B
section
variable {w wr W' w2 : World} {x y : OV} {K K2 : Nat → Prop} {m : Int} {p p' B nq rc g lim lim' n' rc' g' : Nat} {ra ra' : Option Addr}
theorem Cl.bel (h : Cl w x y K m p B ra nq rc g lim wr) (hb : Below wr.heap.size wr W') : Cl w x y (More K wr W') m p B ra nq rc g lim W' :=
  ⟨h.qd.bel hb, h.box.bel hb, .inl h.kb, h.bt.bel hb, .inl h.kt, .inl h.kr, h.lt⟩
theorem Cl.drewN (h : Cl w x y K m p B ra nq rc g lim wr) (k : Nat) : Cl w x y K m p B ra nq rc g lim (wr.drewN k) :=
  ⟨h.qd.drewN k, h.box, h.kb, h.bt.bel (Below.drewN' wr k), h.kt, h.kr, h.lt⟩
theorem Bt.keep (h : Bt w x y wr) (kt : K w.heap.size) (kr : K (w.heap.size + 1)) (hm : Mod (fun q => ¬ K q ∧ w.heap.size ≤ q) wr w2) : Bt w x y w2 := h.mod hm (fun k e => by
  rcases Nat.lt_or_ge (w.heap.size + 1) k with hk | hk
  · exact hk
  · rcases Nat.lt_or_ge w.heap.size k with hk2 | hk2
    · obtain rfl : k = w.heap.size + 1 := by omega
      exact absurd kr e.1
    · obtain rfl : k = w.heap.size := by have := e.2; omega
      exact absurd kt e.1)
/-- Behind a call by both: what is kept, ahead of the store into the box. -/
theorem Cl.step (h : Cl w x y K m p B ra nq rc g lim wr) (k12 : ∀ q, K q → K2 q) (hq : Qd w K2 m p' ra' n' rc' g' lim' w2) (hm : Mod (fun q => ¬ K q ∧ w.heap.size ≤ q) wr w2) :
    Box B ra nq rc g m w2 ∧ Bt w x y w2 ∧ ∃ K3, Cl w x y K3 m p' B ra' n' rc' g' lim' (((w2.setCell ⟨B, 0, none⟩ (.slice ra' n' rc')).setCell ⟨B, 1, none⟩ (.int .i64 g')).setCell ⟨B, 2, none⟩ (.int .i64 m)) := by
  have hb := h.box.mod hm (fun e => e.1 h.kb)
  have ht := h.bt.keep h.kt h.kr hm
  obtain ⟨hbs, hms⟩ := hb.set (a' := ra') (n' := n') (c' := rc') (g' := g') (m' := m)
  have hl := h.lt
  exact ⟨hb, ht, _, hq.box hb (k12 _ h.kb) hms, hbs, .inl (k12 _ h.kb), ht.mod hms (fun k e => by omega), .inl (k12 _ h.kt), .inl (k12 _ h.kr), h.lt⟩
/-- What waits of each frame, as both tell it. -/
theorem Qd.views (h : Qd w K m p ra nq rc g lim wr) (hl : lim ≤ 80000) : ∃ zs : List Int, zs.length = nq ∧
    (∀ W, Below wr.heap.size wr W → Calls Try.prog 21 #[.agg #[.slice ra nq rc, .int .i64 g, .int .i64 m]] W fun e w' => ∃ a' c', e = .returned (.slice a' nq c') ∧ Nar (fun k => W.heap.size ≤ k) w' a' nq zs ∧ Below W.heap.size W w') ∧
    (∀ W, Below wr.heap.size wr W → Calls Try.prog 22 #[.pointer (some ⟨p, 0, none⟩)] W fun e w' => ∃ B a c, e = .returned (.func (.func 46) #[] #[.pointer (some ⟨B, 0, none⟩)]) ∧ w'.heap[B]? = some (.cells #[.slice a nq c] 50 (0, 0)) ∧ W.heap.size ≤ B ∧ Nar (fun k => W.heap.size ≤ k) w' a nq zs ∧ Below W.heap.size W w') := by
  obtain ⟨hk, hle, fs, part, bs, ls, h1, h2, h3, h4, h5⟩ := h
  have hgb := h4.g_big h1.inv
  have hbig := h4.big h1.inv
  have hfn : fs.length = nq := by rw [h4.fs, lens_len, h3]
  refine ⟨wl fs part, by rw [wl_len, hfn], fun W hW => ?_, fun W hW => ?_⟩
  · have hd := h2.at_
    rw [h3] at hd
    refine (refLeft_any ra nq rc g m (ls.map strOfNums) W (hd.below hW) (by omega) (fun s hs => ?_) (by omega)).mono ?_
    · obtain ⟨l, hl, rfl⟩ := List.mem_map.1 hs
      have := hbig l hl
      rw [strOfNums_size]; omega
    · rintro e w' ⟨a', c', rfl, hrow, hb⟩
      rw [lefts_wl, ← h4.fs, ← h4.part] at hrow
      exact ⟨a', c', rfl, (row_nar hrow).1, hb⟩
  · have := (h1.grow hW).all
    rw [hfn] at this
    exact this
end
/-- What is gone over, and the list that it is held against: all of it lies below lim. -/
structure Fn (w : World) (X12 Bq : Nat) (la qa : Option Addr) (lc qc n : Nat) (zs : List Int) (lim : Nat) (W : World) : Prop where
  r : W.heap[w.heap.size + 1]? = some (.cells #[.bool false] 4 (0, 0))
  x : W.heap[X12]? = some (.cells #[.slice la n lc] 50 (0, 0))
  q : W.heap[Bq]? = some (.cells #[.slice qa n qc] 50 (0, 0))
  ll : 0 < n → ∃ b off, la = some ⟨b, off, none⟩ ∧ b < lim ∧ ∀ j, j < n → W.cell? ⟨b, off + j, none⟩ = some (.int .i64 (zs.getD j 0))
  lq : 0 < n → ∃ b off, qa = some ⟨b, off, none⟩ ∧ b < lim ∧ ∀ j, j < n → W.cell? ⟨b, off + j, none⟩ = some (.int .i64 (zs[j]?.getD 0))
  l1 : w.heap.size + 1 < lim
  l2 : X12 < lim
  l3 : Bq < lim
  l4 : lim ≤ W.heap.size
  below : Below w.heap.size w W
theorem Fn.bel {w W W' : World} {X12 Bq nb : Nat} {la qa : Option Addr} {lc qc n lim : Nat} {zs : List Int} (h : Fn w X12 Bq la qa lc qc n zs lim W) (hb : Below nb W W') (hl : lim ≤ nb) : Fn w X12 Bq la qa lc qc n zs lim W' := by
  have l1 := h.l1
  have l2 := h.l2
  have l3 := h.l3
  exact ⟨(hb.block _ (by omega)).trans h.r, (hb.block _ (by omega)).trans h.x, (hb.block _ (by omega)).trans h.q, fun hp => by
    obtain ⟨b, off, e, hbl, hc⟩ := h.ll hp
    exact ⟨b, off, e, hbl, fun j hj => (hb.cell (p := ⟨b, off + j, none⟩) (by show b < nb; omega)).trans (hc j hj)⟩, fun hp => by
    obtain ⟨b, off, e, hbl, hc⟩ := h.lq hp
    exact ⟨b, off, e, hbl, fun j hj => (hb.cell (p := ⟨b, off + j, none⟩) (by show b < nb; omega)).trans (hc j hj)⟩, l1, l2, l3, Nat.le_trans h.l4 hb.size, h.below.trans (hb.mono (by omega))⟩
/-- Two boxes of slices and their rows, none the queue's own. -/
structure Vw (K : Nat → Prop) (X12 Bq : Nat) (la qa : Option Addr) (lc qc n : Nat) (zs : List Int) (W : World) : Prop where
  x : W.heap[X12]? = some (.cells #[.slice la n lc] 50 (0, 0))
  q : W.heap[Bq]? = some (.cells #[.slice qa n qc] 50 (0, 0))
  kx : K X12
  kq : K Bq
  ll : Nar K W la n zs
  lq : Nar K W qa n zs
theorem Vw.mod {K S : Nat → Prop} {W W' : World} {X12 Bq : Nat} {la qa : Option Addr} {lc qc n : Nat} {zs : List Int} (h : Vw K X12 Bq la qa lc qc n zs W) (hm : Mod S W W') (hs : ∀ k, K k → ¬ S k) : Vw K X12 Bq la qa lc qc n zs W' :=
  ⟨(hm.block _ (blk_lt h.x) (hs _ h.kx)).trans h.x, (hm.block _ (blk_lt h.q) (hs _ h.kq)).trans h.q, h.kx, h.kq, h.ll.mod hm hs, h.lq.mod hm hs⟩
theorem Vw.mono {K L : Nat → Prop} {W : World} {X12 Bq : Nat} {la qa : Option Addr} {lc qc n : Nat} {zs : List Int} (h : Vw K X12 Bq la qa lc qc n zs W) (hk : ∀ k, K k → L k) : Vw L X12 Bq la qa lc qc n zs W :=
  ⟨h.x, h.q, hk _ h.kx, hk _ h.kq, h.ll.mono (fun k _ e => hk k e), h.lq.mono (fun k _ e => hk k e)⟩
theorem Vw.fn {K : Nat → Prop} {w W : World} {x y : OV} {X12 Bq : Nat} {la qa : Option Addr} {lc qc n : Nat} {zs : List Int} (h : Vw K X12 Bq la qa lc qc n zs W) (hb : Bt w x y W) : Fn w X12 Bq la qa lc qc n zs W.heap.size W :=
  ⟨hb.b1, h.x, h.q, fun hp => by
    obtain ⟨b, off, e, hbl, _, hc⟩ := h.ll.2 hp
    exact ⟨b, off, e, hbl, hc⟩, fun hp => by
    obtain ⟨b, off, e, hbl, _, hc⟩ := h.lq.2 hp
    exact ⟨b, off, e, hbl, fun j hj => by rw [hc j hj]; simp [List.getD]⟩, hb.lt, blk_lt h.x, blk_lt h.q, Nat.le_refl _, hb.below⟩
end Go.Proofs.Ytneeagabmdpjgaa
