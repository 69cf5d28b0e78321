/-
  The ring stands as the document's: is.
-/
import Derived.Test.YthiajgkifoimcaaTf
import Derived.Test.YthiajgkifoimcaaSb
import Derived.Deep.CutBlock
namespace Go.Proofs.Ythiajgkifoimcaa
open Go.RowKit Go.Shelf
set_option linter.unusedVariables false
set_option linter.unusedSimpArgs false
attribute [local go_sem] Oper.semAt_some

/-- The law says yes, and keeps to new memory. -/
def Yes (w : World) (e : Ending) (w' : World) : Prop := e = .returned (.bool true) ∧ Below w.heap.size w w'

theorem run_eql_func61 (f : Fn) (x y : Array Value) (w : World) : (binOp .eql 61 (.func f x y) .nilFunc).run Try.prog w = .ok (.bool false) w := by
  have h : ∀ d : Nat, (Op.equalIn (d + 1) 61 (.func f x y) .nilFunc).run Try.prog w = .ok false w := fun d => by
    simp [Op.equalIn, run_underlying Try.underlying61]
  simp only [binOp]
  simp [Op.equal, Op.maxDepth, h 9999]
attribute [local go_sem] run_eql_func61

/-- Both tell the same of an index. -/
theorem get_both (F m : Int) (L : List Int) (n : Nat) (hL : L.length = n) (hn : n ≤ 4096) (h0 : 0 ≤ F) (h1 : F + n ≤ 18446744073709551615) (at' : Int) (ha0 : 0 ≤ at') (ha1 : at' ≤ 18446744073709551615) :
    ∃ (y : Int) (b : Bool), (∀ (base p : Nat) (sv : Value) (w : World), Ring w base p F m sv L → Calls Try.prog 15 #[.pointer (some ⟨p, 0, none⟩), .int .u64 at'] w fun e w' => e = .returned (.tuple #[.int .i64 y, .bool b]) ∧ Below w.heap.size w w') ∧
      (∀ (lo : Nat) (ao : Option Addr) (cap : Nat) (w : World), RL w lo ao n cap L → Calls Try.prog 33 #[ragg ao n cap F m, .int .u64 at'] w fun e w' => e = .returned (.tuple #[.int .i64 y, .bool b]) ∧ Below w.heap.size w w') := by
  by_cases hin : F ≤ at' ∧ at' < F + n
  · obtain ⟨j, hj⟩ : ∃ j : Nat, at' = F + j := ⟨(at' - F).toNat, by omega⟩
    exact ⟨L.getD j 0, true, fun base p sv w h => Get_ring base p F m sv L w h at' j (by omega) hj, fun lo ao cap w h => refGet_in lo ao n cap j F m at' L w h hn h0 h1 (by omega) hj⟩
  · exact ⟨0, false, fun base p sv w h => Get_ring_out base p F m sv L w h at' (by rw [hL]; omega), fun lo ao cap w h => refGet_out ao n cap F m at' w hn h0 h1 ha0 ha1 (by omega)⟩

/-- Where is's boxes lie. -/
structure Ci (w : World) (v : Value) (F m many : Int) (W : World) : Prop where
  b0 : W.heap[w.heap.size]? = some (.cells #[v, .int .u64 F, .int .i64 m] 40 (0, 0))
  b1 : W.heap[w.heap.size + 1]? = some (.cells #[.int .i64 many] 3 (0, 0))
  b2 : W.heap[w.heap.size + 2]? = some (.cells #[.bool false] 4 (0, 0))
  below : Below w.heap.size w W
theorem Ci.lt {w W : World} {v : Value} {F m many : Int} (h : Ci w v F m many W) : w.heap.size + 2 < W.heap.size := blk_lt h.b2
theorem Ci.bel {w W W' : World} {v : Value} {F m many : Int} (h : Ci w v F m many W) (hb : Below W.heap.size W W') : Ci w v F m many W' := by
  have hl := h.lt
  exact ⟨(hb.block _ (by omega)).trans h.b0, (hb.block _ (by omega)).trans h.b1, (hb.block _ (by omega)).trans h.b2, h.below.trans (hb.mono (by omega))⟩
theorem Ci.start (w : World) (v : Value) (F m many : Int) : Ci w v F m many (((w.alloc (.cells #[v, .int .u64 F, .int .i64 m] 40)).alloc (.cells #[.int .i64 many] 3)).alloc (.cells #[.bool false] 4)) := by
  have s1 : ∀ (W : World) (o : Obj), (W.alloc o).heap.size = W.heap.size + 1 := fun W o => by simp
  obtain ⟨W1, h1⟩ : ∃ W, W = w.alloc (.cells #[v, .int .u64 F, .int .i64 m] 40) := ⟨_, rfl⟩
  obtain ⟨W2, h2⟩ : ∃ W, W = W1.alloc (.cells #[.int .i64 many] 3) := ⟨_, rfl⟩
  have z1 : W1.heap.size = w.heap.size + 1 := by rw [h1]; exact s1 _ _
  have z2 : W2.heap.size = w.heap.size + 2 := by rw [h2, s1, z1]
  have b1 : W1.heap[w.heap.size]? = some (.cells #[v, .int .u64 F, .int .i64 m] 40 (0, 0)) := by rw [h1]; exact alloc_blk_new _ _
  have b2 : W2.heap[w.heap.size + 1]? = some (.cells #[.int .i64 many] 3 (0, 0)) := by rw [h2, ← z1]; exact alloc_blk_new _ _
  rw [← h1, ← h2]
  refine ⟨?_, alloc_blk b2 _, ?_, ?_⟩
  · have := alloc_blk b1 (.cells #[.int .i64 many] 3)
    rw [← h2] at this
    exact alloc_blk this _
  · rw [← z2]; exact alloc_blk_new _ _
  · have c1 : Below w.heap.size w W1 := by rw [h1]; exact (Below.refl _ w).alloc (Nat.le_refl _) _
    have c2 : Below w.heap.size w W2 := by rw [h2]; exact c1.alloc (by omega) _
    exact c2.alloc (by omega) _
theorem Ci.cells {w W : World} {v : Value} {F m many : Int} (h : Ci w v F m many W) :
    (W.cell? ⟨w.heap.size, 0, none⟩ = some v ∧ W.cell? ⟨w.heap.size, 1, none⟩ = some (.int .u64 F) ∧ W.cell? ⟨w.heap.size, 2, none⟩ = some (.int .i64 m)) ∧ W.cell? ⟨w.heap.size + 1, 0, none⟩ = some (.int .i64 many) ∧
    W.cell? ⟨w.heap.size + 1 + 1, 0, none⟩ = some (.bool false) ∧ W.frozen? ⟨w.heap.size + 1 + 1, 0, none⟩ = false :=
  ⟨⟨cell_blk h.b0 0 _ rfl, cell_blk h.b0 1 _ rfl, cell_blk h.b0 2 _ rfl⟩, cell_blk h.b1 0 _ rfl, cell_blk h.b2 0 _ rfl, frozen_blk h.b2 0⟩
theorem Ci.belN {w W W' : World} {v : Value} {F m many : Int} (h : Ci w v F m many W) {nb : Nat} (hb : Below nb W W') (hl : w.heap.size + 2 < nb) : Ci w v F m many W' :=
  ⟨(hb.block _ (by omega)).trans h.b0, (hb.block _ (by omega)).trans h.b1, (hb.block _ (by omega)).trans h.b2, h.below.trans (hb.mono (by omega))⟩
theorem Ci.drewN {w W : World} {v : Value} {F m many : Int} (h : Ci w v F m many W) (k : Nat) : Ci w v F m many (W.drewN k) := ⟨h.b0, h.b1, h.b2, ⟨h.below.os, h.below.tape, h.below.output, h.below.size, h.below.block⟩⟩
theorem range_cut {P : Program} {c : Code} {K : Act → World → Prop} {Q' : Exit → Act → World → Prop} {a : Act} {w : World} (R : Nat → World → Prop)
    (first : c.wp P (fun e a' W => e = .normal ∧ ∃ D, a' = { a with defers := { target := .collected D, args := #[] } :: a.defers } ∧ R D W) a w)
    (rest : ∀ D W, R D W → K { a with defers := { target := .collected D, args := #[] } :: a.defers } W) : c.wp P (Exit.then K Q') a w :=
  wp_mono first (fun e a' W h => by obtain ⟨rfl, D, rfl, hr⟩ := h; exact rest D W hr)
theorem prefix_more {α : Type} (T l : List α) (x : α) (h : l <+: T) : (l ++ [x] <+: T) ↔ T[l.length]? = some x := by
  obtain ⟨r, rfl⟩ := h
  rw [List.prefix_append_right_inj]
  cases r with
  | nil => simp
  | cons y ys => simp [List.cons_prefix_cons, eq_comm]
/-- Between two rounds: what came is a beginning of the whole; so many are counted. -/
def Rnd {α : Type} (T : List α) (many : Int) (nb : Nat) (wn : World) (pre : List α) (W : World) : Prop :=
  (pre <+: T ∧ (pre.length = 0 ∨ (pre.length : Int) < many)) ∧ (W.cell? ⟨nb, 0, none⟩ = some (.int .i64 pre.length) ∧ W.frozen? ⟨nb, 0, none⟩ = false) ∧ Below nb wn W
/-- Behind a jump: what came was no beginning of the whole, or enough came. -/
def Rxt {α : Type} (T : List α) (many : Int) (nb : Nat) (wn : World) (x : Nat) (c : Code) (pre : List α) (W : World) : Prop :=
  (c = .ret ∧ ¬ pre <+: T) ∨ (c = .exit x ∧ (pre <+: T ∧ many ≤ (pre.length : Int) ∧ (pre.length = 1 ∨ (pre.length : Int) - 1 < many) ∧ 1 ≤ pre.length) ∧ (W.cell? ⟨nb, 0, none⟩ = some (.int .i64 pre.length) ∧ W.frozen? ⟨nb, 0, none⟩ = false) ∧ Below nb wn W)
section
variable {α : Type} {T : List α} {many : Int} {nb x B : Nat} {wn : World}
theorem Rnd.ahead (h : nb < B) : Ahead B (Rnd T many nb wn) := fun s U V hs hb =>
  ⟨hs.1, ⟨(hb.cell (p := ⟨nb, 0, none⟩) h).trans hs.2.1.1, (hb.frozen (p := ⟨nb, 0, none⟩) h).trans hs.2.1.2⟩, hs.2.2.trans (hb.mono (by omega))⟩
theorem Rxt.ahead (h : nb < B) (c : Code) : Ahead B (Rxt T many nb wn x c) := fun s U V hs hb => by
  rcases hs with g | g
  · exact .inl g
  · exact .inr ⟨g.1, g.2.1, ⟨(hb.cell (p := ⟨nb, 0, none⟩) h).trans g.2.2.1.1, (hb.frozen (p := ⟨nb, 0, none⟩) h).trans g.2.2.1.2⟩, g.2.2.2.trans (hb.mono (by omega))⟩
theorem Rnd.start (hc : wn.cell? ⟨nb, 0, none⟩ = some (.int .i64 0)) (hf : wn.frozen? ⟨nb, 0, none⟩ = false) : Rnd T many nb wn [] wn :=
  ⟨⟨List.nil_prefix, .inl rfl⟩, ⟨hc, hf⟩, Below.refl _ _⟩
theorem Rnd.more {pre : List α} {y : α} {W : World} (hp : pre ++ [y] <+: T) {k : Int} (hk : k = (pre.length : Int) + 1) (hm : k < many) (hc : (W.cell? ⟨nb, 0, none⟩).isSome = true) (hf : W.frozen? ⟨nb, 0, none⟩ = false) (hB : Below nb wn W) :
    Rnd T many nb wn (pre ++ [y]) (W.setCell ⟨nb, 0, none⟩ (.int .i64 k)) := by
  subst hk
  refine ⟨⟨hp, .inr (by simpa using hm)⟩, ⟨?_, by rw [World.frozen?_setCell]; exact hf⟩, hB.setCell (p := ⟨nb, 0, none⟩) (Nat.le_refl _) _⟩
  rw [World.cell?_setCell_same' _ _ _ hc, List.length_append]
  rfl
theorem Rxt.more {pre : List α} {y : α} {W : World} (hp : pre ++ [y] <+: T) {k : Int} (hk : k = (pre.length : Int) + 1) (hm : many ≤ k) (h0 : pre.length = 0 ∨ (pre.length : Int) < many) (hc : (W.cell? ⟨nb, 0, none⟩).isSome = true) (hf : W.frozen? ⟨nb, 0, none⟩ = false) (hB : Below nb wn W) :
    Rxt T many nb wn x (.exit x) (pre ++ [y]) (W.setCell ⟨nb, 0, none⟩ (.int .i64 k)) := by
  subst hk
  refine .inr ⟨rfl, ⟨hp, by simpa using hm, ?_, by simp⟩, ⟨?_, by rw [World.frozen?_setCell]; exact hf⟩, hB.setCell (p := ⟨nb, 0, none⟩) (Nat.le_refl _) _⟩
  · rw [List.length_append, List.length_singleton]; omega
  · rw [World.cell?_setCell_same' _ _ _ hc, List.length_append]
    rfl
/-- How many came, when all came. -/
theorem Rnd.whole {W : World} (h : Rnd T many nb wn T W) : (∃ c : Nat, (c : Int) = min (T.length : Int) (max 1 many) ∧ W.cell? ⟨nb, 0, none⟩ = some (.int .i64 c)) ∧ Below nb wn W :=
  ⟨⟨T.length, by have := h.1.2; omega, h.2.1.1⟩, h.2.2⟩
theorem Rxt.part {pre : List α} {W : World} {c : Code} (h : Rxt T many nb wn x c pre W) (hp : pre <+: T) : c = .exit x ∧ (∃ c : Nat, (c : Int) = min (T.length : Int) (max 1 many) ∧ W.cell? ⟨nb, 0, none⟩ = some (.int .i64 c)) ∧ Below nb wn W := by
  rcases h with g | g
  · exact absurd hp g.2
  · have hl := hp.length_le
    have g2 := g.2.1
    exact ⟨g.1, ⟨pre.length, by omega, g.2.2.1.1⟩, g.2.2.2⟩
end
theorem fin_more (n : Nat) (l : List (Fin n)) (x : Fin n) (h : l <+: List.finRange n) : (l ++ [x] <+: List.finRange n) ↔ x.val = l.length := by
  rw [prefix_more _ _ _ h]
  have hx := x.isLt
  constructor
  · intro e
    have h1 := List.getElem?_eq_some_iff.1 e
    obtain ⟨h2, h3⟩ := h1
    rw [← h3]
    simp
  · intro e
    rw [← e]
    simp [hx]
theorem Ring.drewN {w : World} {base p : Nat} {F m : Int} {sv : Value} {L : List Int} (h : Ring w base p F m sv L) (k : Nat) : Ring (w.drewN k) base p F m sv L := by
  obtain ⟨vs, h1, h2⟩ := h
  exact ⟨vs, h1.drewN k, h2⟩
theorem Bx.bel {w0 W W' : World} {b n : Nat} {cv v x : Value} {l : List Value} (h : Bx w0 b W cv v n l x) (hb : Below W.heap.size W W') : Bx w0 b W' cv v n l x := by
  have hl := h.lt
  exact ⟨(hb.block _ (by omega)).trans h.box, (hb.block _ (by omega)).trans h.box2, Mod.row (Mod.of_below hb (fun _ => False)) h.row (fun _ _ h => h), h.below.trans (hb.mono (by omega))⟩

set_option maxHeartbeats 6400000 in
set_option maxRecDepth 100000 in
theorem is_ring (base p lo : Nat) (F m at' many : Int) (sv : Value) (L : List Int) (ao : Option Addr) (n cap : Nat) (w : World) (h : Ring w base p F m sv L) (hr : RL w lo ao n cap L) (ha0 : 0 ≤ at') (ha1 : at' ≤ 18446744073709551615) :
    Calls Try.prog 18 #[.pointer (some ⟨p, 0, none⟩), ragg ao n cap F m, .int .u64 at', .int .i64 many] w (Yes w) := by
  have hbd := h.b
  have hlen := hr.len
  have hn : n ≤ 4096 := by omega
  have hFn : F + n ≤ 18446744073709551615 := by omega
  obtain ⟨y, bb, hG, hG2⟩ := get_both F m L n hlen hn hbd.1 hFn at' ha0 ha1
  have HG := Lib.hid (fun W hW => hG base p sv W hW)
  have HG2 := Lib.hid (fun W hW => hG2 lo ao cap W hW)
  have HF := Lib.hid (fun (W : World) (hW : Ring W base p F m sv L) => First_ring base p F m sv L W hW)
  have HX : Hid (∀ (W : World), Ring W base p F m sv L → Calls Try.prog 11 #[.pointer (some ⟨p, 0, none⟩)] W fun e w' => e = .returned (.int .u64 (F + n)) ∧ W = w') := Lib.hid (fun W hW => by rw [← hlen]; exact Next_ring base p F m sv L W hW)
  have HL : Hid (∀ (W : World), Ring W base p F m sv L → Calls Try.prog 13 #[.pointer (some ⟨p, 0, none⟩)] W fun e w' => e = .returned (.int .i64 n) ∧ W = w') := Lib.hid (fun W hW => by rw [← hlen]; exact Len_ring base p F m sv L W hW)
  have HN := Lib.hid (fun W => refNext ao n cap F m W hn hbd.1 hFn)
  have HC := Lib.hid (Ci.start w (.slice ao n cap) F m many)
  have HR := Lib.hid h
  have HRL := Lib.hid hr
  have hF0 := hbd.1
  obtain ⟨N, hN⟩ : ∃ N, N = F + (n : Int) := ⟨_, rfl⟩
  rw [← hN] at HX HN
  have HNd := Lib.hid hN
  have HBd := Lib.hid hbd
  have HLen := Lib.hid hlen
  unfold ragg at HG2 HN ⊢
  clear h hr hG hG2 hbd hN hlen hFn
  refine (callsIn_wide (n := 5)).1 ?_
  refine callsIn_of_wp_marks Try.func18 rfl trivial ?_ rfl
  simp only [Try.ntmps18, List.size_toArray, List.length_cons, List.length_nil, Nat.reduceAdd, Nat.reduceSub, Array.replicate_succ, Array.replicate_zero, List.push_toArray, List.append_toArray, List.nil_append, List.cons_append]
  refine wpIn_wide.2 ?_
  go_wp2_with (go_at_call 15; fail)
  refine (HG.out _ (HR.out.below HC.out.below)).mono ?_
  rintro e w1 ⟨rfl, hb⟩
  have C1 := Lib.hid (HC.out.bel hb)
  clear hb HC HG
  obtain ⟨⟨c0, c1, c2⟩, c3, c4, f4⟩ := C1.out.cells
  have hl1 := C1.out.lt
  have hl1a : w.heap.size < w1.heap.size := by omega
  go_wp2_with (go_at_call 33; fail)
  refine (HG2.out w1 (HRL.out.below C1.out.below)).mono ?_
  rintro e w2 ⟨rfl, hb⟩
  have C2 := Lib.hid (C1.out.bel hb)
  clear hb C1 HG2 c0 c1 c2 c3 c4 f4 hl1 hl1a
  have HFr := Lib.hid (From_ring base p F m at' sv L w2 (HR.out.below C2.out.below) ha0 ha1)
  go_wp2_with (go_at_call 23; fail)
  refine HFr.out.mono ?_
  rintro e w3 ⟨v, rfl, hB⟩
  have C3 := Lib.hid (C2.out.bel hB.below)
  obtain ⟨ls, hls⟩ : ∃ ls, ls = L.drop (at' - F).toNat := ⟨_, rfl⟩
  rw [← hls] at hB
  obtain ⟨bg, hbg⟩ : ∃ bg, bg = max at' F := ⟨_, rfl⟩
  rw [← hbg] at hB
  have HB3 := Lib.hid hB
  have HLs := Lib.hid hls
  have HBg := Lib.hid hbg
  obtain ⟨qb, hqb⟩ : ∃ q, q = w2.heap.size := ⟨_, rfl⟩
  have hqb3 : w.heap.size + 2 < qb := by have := C2.out.lt; omega
  rw [← hqb] at HB3 ⊢
  have HQ := Lib.hid hqb
  clear hB C2 HFr hls hbg hqb
  have hyy : (y != y) = false := by simp
  have hbb : (bb != bb) = false := by simp
  have hFF : (F != F) = false := by simp
  have hNN : (N != N) = false := by simp
  have hnn : (n != n) = false := by simp
  have hnn2 : ((n : Int) != n) = false := by simp
  obtain ⟨⟨c0, c1, c2⟩, c3, c4, f4⟩ := C3.out.cells
  have hl3 := C3.out.lt
  have hl3a : w.heap.size < w3.heap.size := by omega
  go_wp2_with fail
  have hC0 : Ci w (.slice ao n cap) F m many w3.drew := C3.out.drewN 1
  have hB0 : Bx w2 qb w3.drew v v ls.length (ls.map (.int .i64)) (.int .u64 bg) := HB3.out.drew
  clear C3 HB3
  go_region_held3 (fun W => W.cell? ⟨w.heap.size, 0, none⟩ = some (.slice ao n cap) ∧ W.cell? ⟨w.heap.size, 1, none⟩ = some (.int .u64 F) ∧ W.cell? ⟨w.heap.size, 2, none⟩ = some (.int .i64 m)) (first | assumption | exact ⟨by assumption, by assumption, by assumption⟩)
    (first
      | (go_at_call 14; refine (HF.out _ (HR.out.below (show Ci w (.slice ao n cap) F m many _ from by assumption).below)).mono ?_; rintro e w5 ⟨rfl, rfl⟩)
      | (go_at_call 11; refine (HX.out _ (HR.out.below (show Ci w (.slice ao n cap) F m many _ from by assumption).below)).mono ?_; rintro e w5 ⟨rfl, rfl⟩)
      | (go_at_call 13; refine (HL.out _ (HR.out.below (show Ci w (.slice ao n cap) F m many _ from by assumption).below)).mono ?_; rintro e w5 ⟨rfl, rfl⟩)
      | (go_at_call 34; refine (HN.out _).mono ?_; rintro e w5 ⟨rfl, hb5⟩; have hC5 := (show Ci w (.slice ao n cap) F m many _ from by assumption).bel hb5; have hB5 := (show Bx w2 qb _ v v ls.length (ls.map (.int .i64)) (.int .u64 bg) from by assumption).bel hb5; obtain ⟨⟨c0, c1, c2⟩, c3, c4, f4⟩ := hC5.cells; have hS5 := And.intro c0 (And.intro c1 c2)))
  all_goals
    have C5 := Lib.hid hC5
    have B5 := Lib.hid hB5
    clear hC0 hB0 hC5 hB5 hS5
    obtain ⟨⟨c0, c1, c2⟩, c3, c4, f4⟩ := C5.out.cells
    have HFr := Lib.hid (refFrom lo ao n cap F m at' L w5 (HRL.out.below C5.out.below) hn hF0 (by have := HBd.out; have := HLen.out; omega) ha0 ha1)
    rw [← HBg.out, ← HLs.out] at HFr
    unfold ragg at HFr
    have hl5 := C5.out.lt
    have hl5a : w.heap.size < w5.heap.size := by omega
    go_wp2_with (go_at_call 35; fail)
    refine HFr.out.mono ?_
    rintro e w6 ⟨ao', n', cap', rfl, hr6, hb6⟩
    have C6 := Lib.hid (C5.out.bel hb6)
    have B6 := Lib.hid (B5.out.bel hb6)
    have R6 := Lib.hid hr6
    clear hr6 hb6 C5 B5 HFr c0 c1 c2 c3 c4 f4 hl5 hl5a hyy hbb hFF hNN hnn hnn2
    obtain ⟨nb, hnb⟩ : ∃ B, B = w6.heap.size + 2 := ⟨_, rfl⟩
    have HW6 := Lib.hid hnb
    go_upto_block 0 with fail
    have hs1 : (w6.alloc (.cells #[.int .u64 bg] 22)).heap.size = w6.heap.size + 1 := by simp
    have hs2 : ((w6.alloc (.cells #[.int .u64 bg] 22)).alloc (.cells #[.slice ao' n' cap'] 23)).heap.size = w6.heap.size + 2 := by simp
    have hb1 := (((Below.refl _ w6).alloc (Nat.le_refl _) (.cells #[.int .u64 bg] 22)).alloc (by simp) (.cells #[.slice ao' n' cap'] 23)).alloc (by simp; omega) (.cells #[.int .i64 0] 3)
    have k14 := alloc_blk (alloc_blk (alloc_blk_new w6 (.cells #[.int .u64 bg] 22)) (.cells #[.slice ao' n' cap'] 23)) (.cells #[.int .i64 0] 3)
    have k15 := alloc_blk (alloc_blk_new (w6.alloc (.cells #[.int .u64 bg] 22)) (.cells #[.slice ao' n' cap'] 23)) (.cells #[.int .i64 0] 3)
    have k16 := alloc_blk_new ((w6.alloc (.cells #[.int .u64 bg] 22)).alloc (.cells #[.slice ao' n' cap'] 23)) (.cells #[.int .i64 0] 3)
    rw [hs1] at k15
    rw [hs2, ← hnb] at k16
    obtain ⟨wn, hwn⟩ : ∃ W, W = ((w6.alloc (.cells #[.int .u64 bg] 22)).alloc (.cells #[.slice ao' n' cap'] 23)).alloc (.cells #[.int .i64 0] 3) := ⟨_, rfl⟩
    rw [← hwn] at hb1 k14 k15 k16
    rw [show w6.heap.size + 1 + 1 = nb from hnb.symm, ← hwn]
    have hnlt := blk_lt k16
    have hnbl : w6.heap.size + 1 < nb := by omega
    have hl6 := C6.out.lt
    have hq6 := B6.out.lt
    have Cn := Lib.hid (C6.out.bel hb1)
    have Bn := Lib.hid (B6.out.bel hb1)
    have Rn := Lib.hid (R6.out.below hb1)
    have K14 := Lib.hid (cell_blk k14 0 _ rfl)
    have K15 := Lib.hid (cell_blk k15 0 _ rfl)
    have K16 := Lib.hid (cell_blk k16 0 _ rfl)
    have F16 := Lib.hid (frozen_blk k16 0)
    have RL6 : Hid (0 < n' → ∃ b off, ao' = some ⟨b, off, none⟩ ∧ b < w6.heap.size ∧ ∀ j, j < n' → wn.cell? ⟨b, off + j, none⟩ = some (.int .i64 (ls.getD j 0))) := Lib.hid (fun hp => by
      obtain ⟨b, off, e, _, hl, hc⟩ := R6.out.at_ hp
      exact ⟨b, off, e, hl, fun j hj => (hb1.cell (p := ⟨b, off + j, none⟩) hl).trans (hc j hj)⟩)
    have hn' : ls.length = n' := R6.out.len
    have hlim : bg + (n' : Int) ≤ 18446744073709551615 ∧ n' ≤ 4096 ∧ 0 ≤ bg := by
      have h1 := HLs.out
      have h2 := HBg.out
      have h3 := HBd.out
      have h4 := HLen.out
      have h5 : ls.length = L.length - (at' - F).toNat := by rw [h1, List.length_drop]
      omega
    obtain ⟨hlim1, hlim2, hbg0⟩ := hlim
    have HBX : Hid (∃ qa qcap, v = .slice qa n' qcap ∧ (0 < n' → ∃ g, qa = some ⟨g, 0, none⟩ ∧ g < nb ∧ ∀ j, j < n' → wn.cell? ⟨g, 0 + j, none⟩ = some (.int .i64 (ls[j]?.getD 0)))) := Lib.hid (by
      have hrow := Bn.out.row
      rw [hn'] at hrow
      obtain ⟨qa, qcap, rfl⟩ := row_slice hrow
      refine ⟨qa, qcap, rfl, fun hp => ?_⟩
      have h6 := B6.out.row
      rw [hn'] at h6
      obtain ⟨g, cap', cur, e, hb, hg, _⟩ := row_some h6 hp
      cases e
      refine ⟨g, rfl, by have := blk_lt hg; omega, fun j hj => ?_⟩
      rw [Nat.zero_add, hrow.cellAt j (by omega), List.getElem?_map]
      simp [show j < ls.length by omega])
    have CB := Lib.hid (cell_blk Bn.out.box 0 _ rfl)
    have CC := Lib.hid (cell_blk Bn.out.box2 0 _ rfl)
    clear hb1 k14 k15 k16 hs1 hs2 hwn C6 B6 R6 Rn hnb Bn
    obtain ⟨qa, qcap, hv, hqc⟩ := HBX.out
    subst hv
    have HQC := Lib.hid hqc
    have HN' := Lib.hid hn'
    clear hqc HBX hn'
    refine range_cut (fun D W => wn.heap.size ≤ D ∧ W.heap[D]? = some (.deferred (some [])) ∧ (∃ c : Nat, (c : Int) = min (n' : Int) (max 1 many) ∧ W.cell? ⟨nb, 0, none⟩ = some (.int .i64 c)) ∧ Below nb wn W) ?first0 ?rest0
    case first0 =>
      go_wp2_with fail
      refine (wpIn_wide (n := 5)).1 ?_
      refine' wpIn_range_deep (F := Fence.wide) rfl (by omega) (gf := 37) (lb := #[.pointer (some ⟨qb, 0, none⟩), .pointer (some ⟨qb + 1, 0, none⟩)]) rfl trivial (enters_of Try.func37 (by kernel_rfl) rfl) (n₀ := nb) (by omega)
        (From1_deep 4 (by omega) qb (qb + 1) nb bg qa n' qcap ls (by omega) wn (by omega) (by omega) (by omega) hbg0 hlim1 CB.out CC.out (fun hp => by obtain ⟨g, e, hl, hc⟩ := HQC.out hp; exact ⟨g, 0, e, hl, hc⟩)) (fun _ => rfl)
        (Rnd (List.finRange n') many nb wn) (Rxt (List.finRange n') many nb wn 0) (Rnd.ahead (by omega)) (Rxt.ahead (by omega)) (Rnd.start K16.out F16.out) _ ?assign ?body ?done ?stop
      case assign =>
        intro l x W K hK
        gi_wp2
        exact hK
      case done =>
        rintro D ys W hD rfl hI hKd
        obtain ⟨⟨c, hc, hcc⟩, hB⟩ := hI.whole
        rw [List.length_finRange] at hc
        exact ⟨rfl, D, rfl, hD, hKd, ⟨c, hc, hcc⟩, hB⟩
      case stop =>
        rintro D c pre W hD hSp hIx hKd
        obtain ⟨rfl, ⟨c, hc, hcc⟩, hB⟩ := hIx.part hSp
        rw [List.length_finRange] at hc
        refine wpIn_exit ?_
        exact ⟨rfl, D, rfl, hD, hKd, ⟨c, hc, hcc⟩, hB⟩
      case body =>
        rintro l pre x W hW ⟨⟨hp, hC⟩, ⟨hc, hf⟩, hB⟩ hlt
        obtain ⟨b, off, rfl, hbl, hbc⟩ := RL6.out (by omega)
        obtain ⟨_, qm, qr, qf⟩ := Cn.out.cells
        have hcm := (hB.cell (p := ⟨w.heap.size + 1, 0, none⟩) (by show w.heap.size + 1 < nb; omega)).trans qm
        have hcr := (hB.cell (p := ⟨w.heap.size + 1 + 1, 0, none⟩) (by show w.heap.size + 1 + 1 < nb; omega)).trans qr
        have hfr := (hB.frozen (p := ⟨w.heap.size + 1 + 1, 0, none⟩) (by show w.heap.size + 1 + 1 < nb; omega)).trans qf
        have h14 := (hB.cell (p := ⟨w6.heap.size, 0, none⟩) (by show w6.heap.size < nb; omega)).trans K14.out
        have h15 := (hB.cell (p := ⟨w6.heap.size + 1, 0, none⟩) (by show w6.heap.size + 1 < nb; omega)).trans K15.out
        have hcb := (hB.cell (p := ⟨b, off + pre.length, none⟩) (by show b < nb; omega)).trans (hbc pre.length hlt)
        have hmore := fin_more n' pre x hp
        obtain ⟨pl, hpl⟩ : ∃ pl, pl = pre.length := ⟨_, rfl⟩
        obtain ⟨z, hz⟩ : ∃ z, z = ls.getD pre.length 0 := ⟨_, rfl⟩
        rw [← hz] at hcb
        rw [← hpl] at hc hcb hmore hlt hC
        obtain ⟨xi, hxi⟩ : ∃ xi, xi = x.val := ⟨_, rfl⟩
        obtain ⟨xv, hxv⟩ : ∃ xv, xv = ls[x.val]?.getD 0 := ⟨_, rfl⟩
        rw [← hxi] at hmore
        have hxl : xi < n' := by rw [hxi]; exact x.isLt
        have hzx : xi = pl → xv = z := fun e => by rw [hxv, hz, ← hpl, ← hxi, e]; simp [List.getD]
        have HMore := Lib.hid hmore
        have HP := Lib.hid hp
        have HBl := Lib.hid hB
        have HPL := Lib.hid hpl
        have HC := Lib.hid hC
        have HZX := Lib.hid hzx
        have hgt : decide ((n' : Int) ≤ pl) = false := by simp; omega
        have hgt2 : decide (n' ≤ pl) = false := by simp; omega
        have hlt2 : (pl : Int) < n' := by omega
        have hp1 : bg + (pl : Int) ≤ 18446744073709551615 := by omega
        have hp2 : bg + (xi : Int) ≤ 18446744073709551615 := by omega
        simp only [← hxv]
        simp only [← hxi]
        clear hmore hp hB hbc hz hpl hC qm qr qf hxi hxv hzx
        by_cases e1 : xi = pl
        · subst e1
          obtain rfl := HZX.out rfl
          have hvv : (xv != xv) = false := by simp
          have d0 : ((bg + (xi : Int)) != (bg + (xi : Int))) = false := by simp
          by_cases hmy : many ≤ (xi : Int) + 1
          · have dm : decide (many ≤ (xi : Int) + 1) = true := by simpa using hmy
            gi_wp2
            exact ⟨(Stays.refl _ _).setCell (p := ⟨nb, 0, none⟩) (by show nb < _; omega) _, Rxt.more (HMore.out.2 (by first | trivial | rfl)) (by rw [HPL.out]) hmy (by have := HC.out; have := HPL.out; omega) (by rw [hc]; rfl) hf HBl.out⟩
          · have dm : decide (many ≤ (xi : Int) + 1) = false := by simpa using hmy
            gi_wp2
            exact ⟨(Stays.refl _ _).setCell (p := ⟨nb, 0, none⟩) (by show nb < _; omega) _, (Below.refl nb W).setCell (p := ⟨nb, 0, none⟩) (Nat.le_refl _) _, Rnd.more (HMore.out.2 (by first | trivial | rfl)) (by rw [HPL.out]) (by omega) (by rw [hc]; rfl) hf HBl.out⟩
        · have d1 : ((bg + (xi : Int)) != (bg + (pl : Int))) = true := by simp; omega
          gi_wp2
          exact ⟨(Stays.refl _ _).setCell (p := ⟨w.heap.size + 1 + 1, 0, none⟩) (by show w.heap.size + 1 + 1 < _; omega) _, .inl ⟨rfl, fun h => e1 (HMore.out.1 h)⟩⟩
    case rest0 =>
      rintro D0 W0 ⟨hD0, hKd0, ⟨c0, hgood, hcc⟩, hB0⟩
      dsimp only
      have C0 := Lib.hid (Cn.out.belN hB0 (by omega))
      have h15 := (hB0.cell (p := ⟨w6.heap.size + 1, 0, none⟩) (by show w6.heap.size + 1 < nb; omega)).trans K15.out
      have HKd := Lib.hid hKd0
      have hsz0 := hB0.size
      obtain ⟨_, c3, c4, f4⟩ := C0.out.cells
      have hl0 := C0.out.lt
      have hl0a : w.heap.size + 1 + 1 < W0.heap.size := by omega
      clear Cn K14 K15 K16 F16 RL6 CB CC HQC hB0 hKd0
      have key : (many < 1 ∧ (n' < 1 ∧ c0 = 0 ∨ 1 < n' ∧ c0 = 1 ∨ n' = 1 ∧ c0 = 1)) ∨ (many = 1 ∧ (n' < 1 ∧ c0 = 0 ∨ 1 < n' ∧ c0 = 1 ∨ n' = 1 ∧ c0 = 1)) ∨ (1 < many ∧ ((n' : Int) < many ∧ c0 = n' ∨ many < (n' : Int) ∧ (c0 : Int) = many ∨ (n' : Int) = many ∧ c0 = n')) := by omega
      clear hgood
      rcases key with ⟨k1, ⟨k2, rfl⟩ | ⟨k2, rfl⟩ | ⟨rfl, rfl⟩⟩ | ⟨rfl, ⟨k2, rfl⟩ | ⟨k2, rfl⟩ | ⟨rfl, rfl⟩⟩ | ⟨k1, ⟨k2, rfl⟩ | ⟨k2, k3⟩ | ⟨k2, rfl⟩⟩
      · obtain rfl : n' = 0 := by omega
        go_wp2_with fail
        have hk1 := (KeepsOthers.setCell W0 ⟨w.heap.size + 1 + 1, 0, none⟩ (.bool true)).same D0 _ HKd.out rfl
        have hc6 := cell_kept (World.cell?_setCell_same' W0 ⟨w.heap.size + 1 + 1, 0, none⟩ (.bool true) (by rw [c4]; rfl)) (grownBy_putObj' _ D0 (.deferred none)) (fun r e => by cases e; exact ⟨_, hk1, rfl⟩)
        refine ⟨by simp, .inl ⟨_, _, rfl, run_takeDeferred hk1, ?_⟩⟩
        refine ⟨.bool true, ?_, rfl, (C0.out.below.setCell (p := ⟨w.heap.size + 1 + 1, 0, none⟩) (by simp; omega) _).trans (belowK_b (w := w) (Nat.le_refl _) _ D0 _ _ (by omega) hk1 rfl rfl)⟩
        simp [results, Try.f18, go_sem, hc6]
      · have k3 : (1 : Int) < n' := by omega
        go_wp2_with fail
        have hk1 := (KeepsOthers.setCell W0 ⟨w.heap.size + 1 + 1, 0, none⟩ (.bool true)).same D0 _ HKd.out rfl
        have hc6 := cell_kept (World.cell?_setCell_same' W0 ⟨w.heap.size + 1 + 1, 0, none⟩ (.bool true) (by rw [c4]; rfl)) (grownBy_putObj' _ D0 (.deferred none)) (fun r e => by cases e; exact ⟨_, hk1, rfl⟩)
        refine ⟨by simp, .inl ⟨_, _, rfl, run_takeDeferred hk1, ?_⟩⟩
        refine ⟨.bool true, ?_, rfl, (C0.out.below.setCell (p := ⟨w.heap.size + 1 + 1, 0, none⟩) (by simp; omega) _).trans (belowK_b (w := w) (Nat.le_refl _) _ D0 _ _ (by omega) hk1 rfl rfl)⟩
        simp [results, Try.f18, go_sem, hc6]
      · skip
        go_wp2_with fail
        have hk1 := (KeepsOthers.setCell W0 ⟨w.heap.size + 1 + 1, 0, none⟩ (.bool true)).same D0 _ HKd.out rfl
        have hc6 := cell_kept (World.cell?_setCell_same' W0 ⟨w.heap.size + 1 + 1, 0, none⟩ (.bool true) (by rw [c4]; rfl)) (grownBy_putObj' _ D0 (.deferred none)) (fun r e => by cases e; exact ⟨_, hk1, rfl⟩)
        refine ⟨by simp, .inl ⟨_, _, rfl, run_takeDeferred hk1, ?_⟩⟩
        refine ⟨.bool true, ?_, rfl, (C0.out.below.setCell (p := ⟨w.heap.size + 1 + 1, 0, none⟩) (by simp; omega) _).trans (belowK_b (w := w) (Nat.le_refl _) _ D0 _ _ (by omega) hk1 rfl rfl)⟩
        simp [results, Try.f18, go_sem, hc6]
      · obtain rfl : n' = 0 := by omega
        go_wp2_with fail
        have hk1 := (KeepsOthers.setCell W0 ⟨w.heap.size + 1 + 1, 0, none⟩ (.bool true)).same D0 _ HKd.out rfl
        have hc6 := cell_kept (World.cell?_setCell_same' W0 ⟨w.heap.size + 1 + 1, 0, none⟩ (.bool true) (by rw [c4]; rfl)) (grownBy_putObj' _ D0 (.deferred none)) (fun r e => by cases e; exact ⟨_, hk1, rfl⟩)
        refine ⟨by simp, .inl ⟨_, _, rfl, run_takeDeferred hk1, ?_⟩⟩
        refine ⟨.bool true, ?_, rfl, (C0.out.below.setCell (p := ⟨w.heap.size + 1 + 1, 0, none⟩) (by simp; omega) _).trans (belowK_b (w := w) (Nat.le_refl _) _ D0 _ _ (by omega) hk1 rfl rfl)⟩
        simp [results, Try.f18, go_sem, hc6]
      · have k3 : (1 : Int) < n' := by omega
        go_wp2_with fail
        have hk1 := (KeepsOthers.setCell W0 ⟨w.heap.size + 1 + 1, 0, none⟩ (.bool true)).same D0 _ HKd.out rfl
        have hc6 := cell_kept (World.cell?_setCell_same' W0 ⟨w.heap.size + 1 + 1, 0, none⟩ (.bool true) (by rw [c4]; rfl)) (grownBy_putObj' _ D0 (.deferred none)) (fun r e => by cases e; exact ⟨_, hk1, rfl⟩)
        refine ⟨by simp, .inl ⟨_, _, rfl, run_takeDeferred hk1, ?_⟩⟩
        refine ⟨.bool true, ?_, rfl, (C0.out.below.setCell (p := ⟨w.heap.size + 1 + 1, 0, none⟩) (by simp; omega) _).trans (belowK_b (w := w) (Nat.le_refl _) _ D0 _ _ (by omega) hk1 rfl rfl)⟩
        simp [results, Try.f18, go_sem, hc6]
      · skip
        go_wp2_with fail
        have hk1 := (KeepsOthers.setCell W0 ⟨w.heap.size + 1 + 1, 0, none⟩ (.bool true)).same D0 _ HKd.out rfl
        have hc6 := cell_kept (World.cell?_setCell_same' W0 ⟨w.heap.size + 1 + 1, 0, none⟩ (.bool true) (by rw [c4]; rfl)) (grownBy_putObj' _ D0 (.deferred none)) (fun r e => by cases e; exact ⟨_, hk1, rfl⟩)
        refine ⟨by simp, .inl ⟨_, _, rfl, run_takeDeferred hk1, ?_⟩⟩
        refine ⟨.bool true, ?_, rfl, (C0.out.below.setCell (p := ⟨w.heap.size + 1 + 1, 0, none⟩) (by simp; omega) _).trans (belowK_b (w := w) (Nat.le_refl _) _ D0 _ _ (by omega) hk1 rfl rfl)⟩
        simp [results, Try.f18, go_sem, hc6]
      · skip
        go_wp2_with fail
        have hk1 := (KeepsOthers.setCell W0 ⟨w.heap.size + 1 + 1, 0, none⟩ (.bool true)).same D0 _ HKd.out rfl
        have hc6 := cell_kept (World.cell?_setCell_same' W0 ⟨w.heap.size + 1 + 1, 0, none⟩ (.bool true) (by rw [c4]; rfl)) (grownBy_putObj' _ D0 (.deferred none)) (fun r e => by cases e; exact ⟨_, hk1, rfl⟩)
        refine ⟨by simp, .inl ⟨_, _, rfl, run_takeDeferred hk1, ?_⟩⟩
        refine ⟨.bool true, ?_, rfl, (C0.out.below.setCell (p := ⟨w.heap.size + 1 + 1, 0, none⟩) (by simp; omega) _).trans (belowK_b (w := w) (Nat.le_refl _) _ D0 _ _ (by omega) hk1 rfl rfl)⟩
        simp [results, Try.f18, go_sem, hc6]
      · obtain rfl : many = (c0 : Int) := k3.symm
        go_wp2_with fail
        have hk1 := (KeepsOthers.setCell W0 ⟨w.heap.size + 1 + 1, 0, none⟩ (.bool true)).same D0 _ HKd.out rfl
        have hc6 := cell_kept (World.cell?_setCell_same' W0 ⟨w.heap.size + 1 + 1, 0, none⟩ (.bool true) (by rw [c4]; rfl)) (grownBy_putObj' _ D0 (.deferred none)) (fun r e => by cases e; exact ⟨_, hk1, rfl⟩)
        refine ⟨by simp, .inl ⟨_, _, rfl, run_takeDeferred hk1, ?_⟩⟩
        refine ⟨.bool true, ?_, rfl, (C0.out.below.setCell (p := ⟨w.heap.size + 1 + 1, 0, none⟩) (by simp; omega) _).trans (belowK_b (w := w) (Nat.le_refl _) _ D0 _ _ (by omega) hk1 rfl rfl)⟩
        simp [results, Try.f18, go_sem, hc6]
      · obtain rfl : many = (c0 : Int) := k2.symm
        go_wp2_with fail
        have hk1 := (KeepsOthers.setCell W0 ⟨w.heap.size + 1 + 1, 0, none⟩ (.bool true)).same D0 _ HKd.out rfl
        have hc6 := cell_kept (World.cell?_setCell_same' W0 ⟨w.heap.size + 1 + 1, 0, none⟩ (.bool true) (by rw [c4]; rfl)) (grownBy_putObj' _ D0 (.deferred none)) (fun r e => by cases e; exact ⟨_, hk1, rfl⟩)
        refine ⟨by simp, .inl ⟨_, _, rfl, run_takeDeferred hk1, ?_⟩⟩
        refine ⟨.bool true, ?_, rfl, (C0.out.below.setCell (p := ⟨w.heap.size + 1 + 1, 0, none⟩) (by simp; omega) _).trans (belowK_b (w := w) (Nat.le_refl _) _ D0 _ _ (by omega) hk1 rfl rfl)⟩
        simp [results, Try.f18, go_sem, hc6]
end Go.Proofs.Ythiajgkifoimcaa
