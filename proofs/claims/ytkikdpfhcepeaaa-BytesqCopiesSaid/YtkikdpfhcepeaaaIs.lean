/-
  A queue stands as the document's: is.
-/
import Derived.Test.YtkikdpfhcepeaaaSb
import Derived.Test.YtkikdpfhcepeaaaRf
import Derived.Deep.CutBlock
import Derived.Deep.RegionHeld3
namespace Go.Proofs.Ytkikdpfhcepeaaa
open Go.RowKit Go.Shelf
set_option linter.unusedVariables false
set_option linter.unusedSimpArgs false
attribute [local go_sem] Oper.semAt_some

/-- The law says yes, and keeps to new memory. -/
def Yes (w : World) (e : Ending) (w' : World) : Prop := e = .returned (.bool true) ∧ Below w.heap.size w w'

theorem run_eql_func55 (f : Fn) (x y : Array Value) (w : World) : (binOp .eql 55 (.func f x y) .nilFunc).run Try.prog w = .ok (.bool false) w := by
  have h : ∀ d : Nat, (Op.equalIn (d + 1) 55 (.func f x y) .nilFunc).run Try.prog w = .ok false w := fun d => by
    simp [Op.equalIn, run_underlying Try.underlying55]
  simp only [binOp]
  simp [Op.equal, Op.maxDepth, h 9999]
attribute [local go_sem] run_eql_func55

/-- Where is's boxes lie. -/
structure Ci (w : World) (v : Value) (m many : Int) (W : World) : Prop where
  b0 : W.heap[w.heap.size]? = some (.cells #[v, .int .i64 m] 39 (0, 0))
  b1 : W.heap[w.heap.size + 1]? = some (.cells #[.int .i64 many] 3 (0, 0))
  b2 : W.heap[w.heap.size + 2]? = some (.cells #[.bool false] 4 (0, 0))
  below : Below w.heap.size w W
theorem Ci.lt {w W : World} {v : Value} {m many : Int} (h : Ci w v m many W) : w.heap.size + 2 < W.heap.size := blk_lt h.b2
theorem Ci.bel {w W W' : World} {v : Value} {m many : Int} (h : Ci w v m many W) (hb : Below W.heap.size W W') : Ci w v m many W' := by
  have hl := h.lt
  exact ⟨(hb.block _ (by omega)).trans h.b0, (hb.block _ (by omega)).trans h.b1, (hb.block _ (by omega)).trans h.b2, h.below.trans (hb.mono (by omega))⟩
theorem Ci.start (w : World) (v : Value) (m many : Int) : Ci w v m many (((w.alloc (.cells #[v, .int .i64 m] 39)).alloc (.cells #[.int .i64 many] 3)).alloc (.cells #[.bool false] 4)) := by
  have s1 : ∀ (W : World) (o : Obj), (W.alloc o).heap.size = W.heap.size + 1 := fun W o => by simp
  obtain ⟨W1, h1⟩ : ∃ W, W = w.alloc (.cells #[v, .int .i64 m] 39) := ⟨_, rfl⟩
  obtain ⟨W2, h2⟩ : ∃ W, W = W1.alloc (.cells #[.int .i64 many] 3) := ⟨_, rfl⟩
  have z1 : W1.heap.size = w.heap.size + 1 := by rw [h1]; exact s1 _ _
  have z2 : W2.heap.size = w.heap.size + 2 := by rw [h2, s1, z1]
  have b1 : W1.heap[w.heap.size]? = some (.cells #[v, .int .i64 m] 39 (0, 0)) := by rw [h1]; exact alloc_blk_new _ _
  have b2 : W2.heap[w.heap.size + 1]? = some (.cells #[.int .i64 many] 3 (0, 0)) := by rw [h2, ← z1]; exact alloc_blk_new _ _
  rw [← h1, ← h2]
  refine ⟨?_, alloc_blk b2 _, ?_, ?_⟩
  · have := alloc_blk b1 (.cells #[.int .i64 many] 3)
    rw [← h2] at this
    exact alloc_blk this _
  · rw [← z2]; exact alloc_blk_new _ _
  · have c1 : Below w.heap.size w W1 := by rw [h1]; exact (Below.refl _ w).alloc (Nat.le_refl _) _
    have c2 : Below w.heap.size w W2 := by rw [h2]; exact c1.alloc (by omega) _
    exact c2.alloc (by omega) _
theorem Ci.cells {w W : World} {v : Value} {m many : Int} (h : Ci w v m many W) :
    (W.cell? ⟨w.heap.size, 0, none⟩ = some v ∧ W.cell? ⟨w.heap.size, 1, none⟩ = some (.int .i64 m)) ∧ W.cell? ⟨w.heap.size + 1, 0, none⟩ = some (.int .i64 many) ∧
    W.cell? ⟨w.heap.size + 1 + 1, 0, none⟩ = some (.bool false) ∧ W.frozen? ⟨w.heap.size + 1 + 1, 0, none⟩ = false :=
  ⟨⟨cell_blk h.b0 0 _ rfl, cell_blk h.b0 1 _ rfl⟩, cell_blk h.b1 0 _ rfl, cell_blk h.b2 0 _ rfl, frozen_blk h.b2 0⟩
theorem Ci.belN {w W W' : World} {v : Value} {m many : Int} (h : Ci w v m many W) {nb : Nat} (hb : Below nb W W') (hl : w.heap.size + 2 < nb) : Ci w v m many W' :=
  ⟨(hb.block _ (by omega)).trans h.b0, (hb.block _ (by omega)).trans h.b1, (hb.block _ (by omega)).trans h.b2, h.below.trans (hb.mono (by omega))⟩
theorem Ci.drewN {w W : World} {v : Value} {m many : Int} (h : Ci w v m many W) (k : Nat) : Ci w v m many (W.drewN k) := ⟨h.b0, h.b1, h.b2, ⟨h.below.os, h.below.tape, h.below.output, h.below.size, h.below.block⟩⟩
theorem range_cut {P : Program} {c : Code} {K : Act → World → Prop} {Q' : Exit → Act → World → Prop} {a : Act} {w : World} (R : Nat → World → Prop)
    (first : c.wp P (fun e a' W => e = .normal ∧ ∃ D, a' = { a with defers := { target := .collected D, args := #[] } :: a.defers } ∧ R D W) a w)
    (rest : ∀ D W, R D W → K { a with defers := { target := .collected D, args := #[] } :: a.defers } W) : c.wp P (Exit.then K Q') a w :=
  wp_mono first (fun e a' W h => by obtain ⟨rfl, D, rfl, hr⟩ := h; exact rest D W hr)
theorem prefix_more {α : Type} (T l : List α) (x : α) (h : l <+: T) : (l ++ [x] <+: T) ↔ T[l.length]? = some x := by
  obtain ⟨r, rfl⟩ := h
  rw [List.prefix_append_right_inj]
  cases r with
  | nil => simp
  | cons y ys => simp [List.cons_prefix_cons, eq_comm]
/-- Between two rounds: what came is a beginning of the whole; so many are counted. -/
def Rnd {α : Type} (T : List α) (many : Int) (nb : Nat) (wn : World) (pre : List α) (W : World) : Prop :=
  (pre <+: T ∧ (pre.length = 0 ∨ (pre.length : Int) < many)) ∧ (W.cell? ⟨nb, 0, none⟩ = some (.int .i64 pre.length) ∧ W.frozen? ⟨nb, 0, none⟩ = false) ∧ Below nb wn W
/-- Behind a jump: what came was no beginning of the whole, or enough came. -/
def Rxt {α : Type} (T : List α) (many : Int) (nb : Nat) (wn : World) (x : Nat) (c : Code) (pre : List α) (W : World) : Prop :=
  (c = .ret ∧ ¬ pre <+: T) ∨ (c = .exit x ∧ (pre <+: T ∧ many ≤ (pre.length : Int) ∧ (pre.length = 1 ∨ (pre.length : Int) - 1 < many) ∧ 1 ≤ pre.length) ∧ (W.cell? ⟨nb, 0, none⟩ = some (.int .i64 pre.length) ∧ W.frozen? ⟨nb, 0, none⟩ = false) ∧ Below nb wn W)
section
variable {α : Type} {T : List α} {many : Int} {nb x B : Nat} {wn : World}
theorem Rnd.ahead (h : nb < B) : Ahead B (Rnd T many nb wn) := fun s U V hs hb =>
  ⟨hs.1, ⟨(hb.cell (p := ⟨nb, 0, none⟩) h).trans hs.2.1.1, (hb.frozen (p := ⟨nb, 0, none⟩) h).trans hs.2.1.2⟩, hs.2.2.trans (hb.mono (by omega))⟩
theorem Rxt.ahead (h : nb < B) (c : Code) : Ahead B (Rxt T many nb wn x c) := fun s U V hs hb => by
  rcases hs with g | g
  · exact .inl g
  · exact .inr ⟨g.1, g.2.1, ⟨(hb.cell (p := ⟨nb, 0, none⟩) h).trans g.2.2.1.1, (hb.frozen (p := ⟨nb, 0, none⟩) h).trans g.2.2.1.2⟩, g.2.2.2.trans (hb.mono (by omega))⟩
theorem Rnd.start (hc : wn.cell? ⟨nb, 0, none⟩ = some (.int .i64 0)) (hf : wn.frozen? ⟨nb, 0, none⟩ = false) : Rnd T many nb wn [] wn :=
  ⟨⟨List.nil_prefix, .inl rfl⟩, ⟨hc, hf⟩, Below.refl _ _⟩
theorem Rnd.more {pre : List α} {y : α} {W : World} (hp : pre ++ [y] <+: T) {k : Int} (hk : k = (pre.length : Int) + 1) (hm : k < many) (hc : (W.cell? ⟨nb, 0, none⟩).isSome = true) (hf : W.frozen? ⟨nb, 0, none⟩ = false) (hB : Below nb wn W) :
    Rnd T many nb wn (pre ++ [y]) (W.setCell ⟨nb, 0, none⟩ (.int .i64 k)) := by
  subst hk
  refine ⟨⟨hp, .inr (by simpa using hm)⟩, ⟨?_, by rw [World.frozen?_setCell]; exact hf⟩, hB.setCell (p := ⟨nb, 0, none⟩) (Nat.le_refl _) _⟩
  rw [World.cell?_setCell_same' _ _ _ hc, List.length_append]
  rfl
theorem Rxt.more {pre : List α} {y : α} {W : World} (hp : pre ++ [y] <+: T) {k : Int} (hk : k = (pre.length : Int) + 1) (hm : many ≤ k) (h0 : pre.length = 0 ∨ (pre.length : Int) < many) (hc : (W.cell? ⟨nb, 0, none⟩).isSome = true) (hf : W.frozen? ⟨nb, 0, none⟩ = false) (hB : Below nb wn W) :
    Rxt T many nb wn x (.exit x) (pre ++ [y]) (W.setCell ⟨nb, 0, none⟩ (.int .i64 k)) := by
  subst hk
  refine .inr ⟨rfl, ⟨hp, by simpa using hm, ?_, by simp⟩, ⟨?_, by rw [World.frozen?_setCell]; exact hf⟩, hB.setCell (p := ⟨nb, 0, none⟩) (Nat.le_refl _) _⟩
  · rw [List.length_append, List.length_singleton]; omega
  · rw [World.cell?_setCell_same' _ _ _ hc, List.length_append]
    rfl
/-- How many came, when all came. -/
theorem Rnd.whole {W : World} (h : Rnd T many nb wn T W) : (∃ c : Nat, (c : Int) = min (T.length : Int) (max 1 many) ∧ W.cell? ⟨nb, 0, none⟩ = some (.int .i64 c)) ∧ Below nb wn W :=
  ⟨⟨T.length, by have := h.1.2; omega, h.2.1.1⟩, h.2.2⟩
theorem Rxt.part {pre : List α} {W : World} {c : Code} (h : Rxt T many nb wn x c pre W) (hp : pre <+: T) : c = .exit x ∧ (∃ c : Nat, (c : Int) = min (T.length : Int) (max 1 many) ∧ W.cell? ⟨nb, 0, none⟩ = some (.int .i64 c)) ∧ Below nb wn W := by
  rcases h with g | g
  · exact absurd hp g.2
  · have hl := hp.length_le
    have g2 := g.2.1
    exact ⟨g.1, ⟨pre.length, by omega, g.2.2.1.1⟩, g.2.2.2⟩
end
theorem fin_more (n : Nat) (l : List (Fin n)) (x : Fin n) (h : l <+: List.finRange n) : (l ++ [x] <+: List.finRange n) ↔ x.val = l.length := by
  rw [prefix_more _ _ _ h]
  have hx := x.isLt
  constructor
  · intro e
    have h1 := List.getElem?_eq_some_iff.1 e
    obtain ⟨h2, h3⟩ := h1
    rw [← h3]
    simp
  · intro e
    rw [← e]
    simp [hx]

set_option maxHeartbeats 6400000 in
set_option maxRecDepth 100000 in
theorem is_q {w00 w : World} {K T : Nat → Prop} {p : Nat} {m : Int} {bs : List Int} (ao : Option Addr) (n cap : Nat) (many : Int) (h : QS w00 K p m bs w) (hr : Arg T w ao n bs) :
    Calls Try.prog 16 #[.pointer (some ⟨p, 0, none⟩), qagg ao n cap m, .int .i64 many] w (Yes w) := by
  have hbd := h.bounds
  have hlen := hr.1
  have hn : n ≤ 1048576 := by omega
  have HC := Lib.hid (Ci.start w (.slice ao n cap) m many)
  obtain ⟨sv, g, vs, hq, _⟩ := h.qu
  have HQ := Lib.hid hq
  have HAll := Lib.hid (fun (W : World) (hb : Below w.heap.size w W) => All_any _ p g m sv vs bs W (hq.below hb))
  have HLen := Lib.hid (fun (W : World) (hb : Below w.heap.size w W) => Len_any _ p g m sv vs W (hq.below hb).at_ hq.hg (by have := hq.hl; omega))
  have HRoom := Lib.hid (fun (W : World) (hb : Below w.heap.size w W) => Room_any _ p g m sv vs W (hq.below hb).at_ hq.hg (by have := hq.hl; omega) hq.hm0 hq.hm1)
  rw [hq.len, hlen] at HLen HRoom
  rw [hlen] at HAll
  have HRL := Lib.hid hr
  have HLn := Lib.hid hlen
  unfold qagg
  obtain ⟨r, hrr⟩ : ∃ r : Int, r = m - (n : Int) := ⟨_, rfl⟩
  obtain ⟨hbm0, hbm1, hbm2⟩ := hbd
  clear h hr hq hbm2 hlen
  refine (callsIn_wide (n := 5)).1 ?_
  refine callsIn_of_wp_marks Try.func16 rfl trivial ?_ rfl
  simp only [Try.ntmps16, List.size_toArray, List.length_cons, List.length_nil, Nat.reduceAdd, Nat.reduceSub, Array.replicate_succ, Array.replicate_zero, List.push_toArray, List.append_toArray, List.nil_append, List.cons_append]
  refine wpIn_wide.2 ?_
  go_wp2_with (go_at_call 21; fail)
  refine (HAll.out _ HC.out.below).mono ?_
  obtain ⟨wc0, hwc0⟩ : ∃ W, W = (((w.alloc (.cells #[.slice ao n cap, .int .i64 m] 39)).alloc (.cells #[.int .i64 many] 3)).alloc (.cells #[.bool false] 4)) := ⟨_, rfl⟩
  rw [← hwc0] at HC ⊢
  rintro e w1 ⟨qa, qcap, rfl, hbx, hA, hb⟩
  have C1 := Lib.hid (HC.out.bel hb)
  obtain ⟨qb, hqb⟩ : ∃ q, q = wc0.heap.size := ⟨_, rfl⟩
  have hqb3 : w.heap.size + 2 < qb := by have := HC.out.lt; omega
  rw [← hqb] at hbx hA ⊢
  have HBX := Lib.hid hbx
  have HA := Lib.hid hA
  have hql := blk_lt hbx
  clear hbx hA hb HC hwc0 hqb
  have hnn : (n != n) = false := by simp
  have hnn2 : ((n : Int) != n) = false := by simp
  have hmm : ((m - (n : Int)) != (m - (n : Int))) = false := by simp
  obtain ⟨⟨c0, c1⟩, c3, c4, f4⟩ := C1.out.cells
  have hl1 := C1.out.lt
  have hl1a : w.heap.size < w1.heap.size := by omega
  go_wp2_with fail
  go_quiet (first | (go_at_call 13; exact Calls.quiet_of (HLen.out _ (C1.out.drewN _).below)) | (go_at_call 14; exact Calls.quiet_of (HRoom.out _ (C1.out.drewN _).below)))
  obtain ⟨w6, hw6⟩ : ∃ W, W = w1.drewN nq := ⟨_, rfl⟩
  rw [← hw6]
  have C6 : Hid (Ci w (.slice ao n cap) m many w6) := Lib.hid (by rw [hw6]; exact C1.out.drewN nq)
  have B6 : Hid (w6.heap[qb]? = some (.cells #[.slice qa n qcap] 29 (0, 0))) := Lib.hid (by rw [hw6]; exact HBX.out)
  have A6 : Hid (Arg (fun k => qb < k) w6 qa n bs) := Lib.hid (by rw [hw6]; exact HA.out.drewN nq)
  clear hw6 C1 HBX HA hmm c0 c1 c3 c4 f4 hl1 hl1a hql HLen HRoom HAll hrr
  go_upto_block 0 with fail
  clear hnn hnn2
  have hb1 := (Below.refl _ w6).alloc (Nat.le_refl _) (.cells #[.int .i64 0] 3)
  have k16 := alloc_blk_new w6 (.cells #[.int .i64 0] 3)
  obtain ⟨nb, hnb⟩ : ∃ B, B = w6.heap.size := ⟨_, rfl⟩
  obtain ⟨wn, hwn⟩ : ∃ W, W = w6.alloc (.cells #[.int .i64 0] 3) := ⟨_, rfl⟩
  rw [← hwn] at hb1 k16 ⊢
  rw [← hnb] at k16 ⊢
  have hnlt := blk_lt k16
  have hl6 := C6.out.lt
  have hq6 := blk_lt B6.out
  have Cn := Lib.hid (C6.out.bel hb1)
  have CB := Lib.hid (cell_blk ((hb1.block _ (by omega)).trans B6.out) 0 (.slice qa n qcap) rfl)
  have K16 := Lib.hid (cell_blk k16 0 (.int .i64 0) rfl)
  have F16 := Lib.hid (frozen_blk k16 0)
  have HQC : Hid (0 < n → ∃ b off, qa = some ⟨b, off, none⟩ ∧ b < nb ∧ ∀ j, j < n → wn.cell? ⟨b, off + j, none⟩ = some (.int .u8 (bs[j]?.getD 0))) := Lib.hid (fun hp => by
    obtain ⟨b, off, e, hl, _, hc⟩ := A6.out.2 hp
    exact ⟨b, off, e, by omega, fun j hj => by have := (hb1.cell (p := ⟨b, off + j, none⟩) hl).trans (hc j hj); rw [this]; simp [List.getD]⟩)
  have RL6 : Hid (0 < n → ∃ b off, ao = some ⟨b, off, none⟩ ∧ b < nb ∧ ∀ j, j < n → wn.cell? ⟨b, off + j, none⟩ = some (.int .u8 (bs.getD j 0))) := Lib.hid (fun hp => by
    obtain ⟨b, off, e, hl, _, hc⟩ := HRL.out.2 hp
    have hs := C6.out.below.size
    exact ⟨b, off, e, by omega, fun j hj => (hb1.cell (p := ⟨b, off + j, none⟩) (by show b < _; omega)).trans ((C6.out.below.cell (p := ⟨b, off + j, none⟩) hl).trans (hc j hj))⟩)
  have hl6n : w.heap.size + 2 < nb := by omega
  have hq6n : qb < nb := by omega
  clear hb1 k16 hwn C6 B6 A6 hnb hl6 hq6
  refine range_cut (fun D W => wn.heap.size ≤ D ∧ W.heap[D]? = some (.deferred (some [])) ∧ (∃ c : Nat, (c : Int) = min (n : Int) (max 1 many) ∧ W.cell? ⟨nb, 0, none⟩ = some (.int .i64 c)) ∧ Below nb wn W) ?first0 ?rest0
  case first0 =>
    go_wp2_with fail
    refine (wpIn_wide (n := 5)).1 ?_
    refine' wpIn_range_deep (F := Fence.wide) rfl (by omega) (gf := 31) (lb := #[.pointer (some ⟨qb, 0, none⟩)]) rfl trivial (enters_of Try.func31 (by kernel_rfl) rfl) (n₀ := nb) (by omega)
      (All31_deep 4 (by omega) qb nb qa n qcap bs (by omega) wn (by omega) (by omega) CB.out (fun hp => by obtain ⟨g, off, e, hl, hc⟩ := HQC.out hp; exact ⟨g, off, e, hl, hc⟩)) (fun _ => rfl)
      (Rnd (List.finRange n) many nb wn) (Rxt (List.finRange n) many nb wn 0) (Rnd.ahead (by omega)) (Rxt.ahead (by omega)) (Rnd.start K16.out F16.out) _ ?assign ?body ?done ?stop
    case assign =>
      intro l x W K hK
      gi_wp2
      exact hK
    case done =>
      rintro D ys W hD rfl hI hKd
      obtain ⟨⟨c, hc, hcc⟩, hB⟩ := hI.whole
      rw [List.length_finRange] at hc
      exact ⟨rfl, D, rfl, hD, hKd, ⟨c, hc, hcc⟩, hB⟩
    case stop =>
      rintro D c pre W hD hSp hIx hKd
      obtain ⟨rfl, ⟨c, hc, hcc⟩, hB⟩ := hIx.part hSp
      rw [List.length_finRange] at hc
      refine wpIn_exit ?_
      exact ⟨rfl, D, rfl, hD, hKd, ⟨c, hc, hcc⟩, hB⟩
    case body =>
      rintro l pre x W hW ⟨⟨hp, hC⟩, ⟨hc, hf⟩, hB⟩ hlt
      obtain ⟨b, off, rfl, hbl, hbc⟩ := RL6.out (by omega)
      obtain ⟨⟨qs, _⟩, qm, qr, qf⟩ := Cn.out.cells
      have hcs := (hB.cell (p := ⟨w.heap.size, 0, none⟩) (by show w.heap.size < nb; omega)).trans qs
      have hcm := (hB.cell (p := ⟨w.heap.size + 1, 0, none⟩) (by show w.heap.size + 1 < nb; omega)).trans qm
      have hcr := (hB.cell (p := ⟨w.heap.size + 1 + 1, 0, none⟩) (by show w.heap.size + 1 + 1 < nb; omega)).trans qr
      have hfr := (hB.frozen (p := ⟨w.heap.size + 1 + 1, 0, none⟩) (by show w.heap.size + 1 + 1 < nb; omega)).trans qf
      have hcb := (hB.cell (p := ⟨b, off + pre.length, none⟩) (by show b < nb; omega)).trans (hbc pre.length hlt)
      have hmore := fin_more n pre x hp
      obtain ⟨pl, hpl⟩ : ∃ pl, pl = pre.length := ⟨_, rfl⟩
      obtain ⟨z, hz⟩ : ∃ z, z = bs.getD pre.length 0 := ⟨_, rfl⟩
      rw [← hz] at hcb
      rw [← hpl] at hc hcb hmore hlt hC
      obtain ⟨xi, hxi⟩ : ∃ xi, xi = x.val := ⟨_, rfl⟩
      obtain ⟨xv, hxv⟩ : ∃ xv, xv = bs[x.val]?.getD 0 := ⟨_, rfl⟩
      rw [← hxi] at hmore
      have hxl : xi < n := by rw [hxi]; exact x.isLt
      have hzx : xi = pl → xv = z := fun e => by rw [hxv, hz, ← hpl, ← hxi, e]; simp [List.getD]
      have HMore := Lib.hid hmore
      have HP := Lib.hid hp
      have HBl := Lib.hid hB
      have HPL := Lib.hid hpl
      have HC := Lib.hid hC
      have HZX := Lib.hid hzx
      have hgt : decide ((n : Int) ≤ pl) = false := by simp; omega
      have hgt2 : decide (n ≤ pl) = false := by simp; omega
      have hlt2 : (pl : Int) < n := by omega
      simp only [← hxv]
      simp only [← hxi]
      clear hmore hp hB hbc hz hpl hC qm qr qf hxi hxv hzx qs
      by_cases e1 : xi = pl
      · subst e1
        obtain rfl := HZX.out rfl
        have hvv : (xv != xv) = false := by simp
        have d0 : ((xi : Int) != (xi : Int)) = false := by simp
        have d00 : (xi != xi) = false := by simp
        by_cases hmy : many ≤ (xi : Int) + 1
        · have dm : decide (many ≤ (xi : Int) + 1) = true := by simpa using hmy
          gi_wp2
          exact ⟨(Stays.refl _ _).setCell (p := ⟨nb, 0, none⟩) (by show nb < _; omega) _, Rxt.more (HMore.out.2 (by first | trivial | rfl)) (by rw [HPL.out]) hmy (by have := HC.out; have := HPL.out; omega) (by rw [hc]; rfl) hf HBl.out⟩
        · have dm : decide (many ≤ (xi : Int) + 1) = false := by simpa using hmy
          gi_wp2
          exact ⟨(Stays.refl _ _).setCell (p := ⟨nb, 0, none⟩) (by show nb < _; omega) _, (Below.refl nb W).setCell (p := ⟨nb, 0, none⟩) (Nat.le_refl _) _, Rnd.more (HMore.out.2 (by first | trivial | rfl)) (by rw [HPL.out]) (by omega) (by rw [hc]; rfl) hf HBl.out⟩
      · have d1 : ((xi : Int) != (pl : Int)) = true := by simp; omega
        have d2 : (xi != pl) = true := by simpa using e1
        gi_wp2
        exact ⟨(Stays.refl _ _).setCell (p := ⟨w.heap.size + 1 + 1, 0, none⟩) (by show w.heap.size + 1 + 1 < _; omega) _, .inl ⟨rfl, fun h => e1 (HMore.out.1 h)⟩⟩
  case rest0 =>
    rintro D0 W0 ⟨hD0, hKd0, ⟨c0, hgood, hcc⟩, hB0⟩
    dsimp only
    have C0 := Lib.hid (Cn.out.belN hB0 (by omega))
    have HKd := Lib.hid hKd0
    have hsz0 := hB0.size
    obtain ⟨⟨c2, _⟩, c3, c4, f4⟩ := C0.out.cells
    have hl0 := C0.out.lt
    have hl0a : w.heap.size + 1 + 1 < W0.heap.size := by omega
    have hl0b : w.heap.size < W0.heap.size := by omega
    have hl0c : nb < W0.heap.size := by omega
    obtain ⟨n', hn'⟩ : ∃ n', n' = n := ⟨_, rfl⟩
    rw [← hn'] at c2 hgood
    clear Cn K16 F16 RL6 CB HQC hB0 hKd0
    have key : (many < 1 ∧ (n' < 1 ∧ c0 = 0 ∨ 1 < n' ∧ c0 = 1 ∨ n' = 1 ∧ c0 = 1)) ∨ (many = 1 ∧ (n' < 1 ∧ c0 = 0 ∨ 1 < n' ∧ c0 = 1 ∨ n' = 1 ∧ c0 = 1)) ∨ (1 < many ∧ ((n' : Int) < many ∧ c0 = n' ∨ many < (n' : Int) ∧ (c0 : Int) = many ∨ (n' : Int) = many ∧ c0 = n')) := by omega
    clear hgood
    have hn1 : n' ≤ 1048576 := by omega
    clear hn'
    rcases key with ⟨k1, ⟨k2, rfl⟩ | ⟨k2, rfl⟩ | ⟨rfl, rfl⟩⟩ | ⟨rfl, ⟨k2, rfl⟩ | ⟨k2, rfl⟩ | ⟨rfl, rfl⟩⟩ | ⟨k1, ⟨k2, rfl⟩ | ⟨k2, k3⟩ | ⟨k2, rfl⟩⟩
    · obtain rfl : n' = 0 := by omega
      go_wp2_with fail
      have hk1 := (KeepsOthers.setCell W0 ⟨w.heap.size + 1 + 1, 0, none⟩ (.bool true)).same D0 _ HKd.out rfl
      have hc6 := cell_kept (World.cell?_setCell_same' W0 ⟨w.heap.size + 1 + 1, 0, none⟩ (.bool true) (by rw [c4]; rfl)) (grownBy_putObj' _ D0 (.deferred none)) (fun r e => by cases e; exact ⟨_, hk1, rfl⟩)
      refine ⟨by simp, .inl ⟨_, _, rfl, run_takeDeferred hk1, ?_⟩⟩
      refine ⟨.bool true, ?_, rfl, (C0.out.below.setCell (p := ⟨w.heap.size + 1 + 1, 0, none⟩) (by simp; omega) _).trans (belowK_b (w := w) (Nat.le_refl _) _ D0 _ _ (by omega) hk1 rfl rfl)⟩
      simp [results, Try.f16, go_sem, hc6]
    · have k3 : (1 : Int) < n' := by omega
      go_wp2_with fail
      have hk1 := (KeepsOthers.setCell W0 ⟨w.heap.size + 1 + 1, 0, none⟩ (.bool true)).same D0 _ HKd.out rfl
      have hc6 := cell_kept (World.cell?_setCell_same' W0 ⟨w.heap.size + 1 + 1, 0, none⟩ (.bool true) (by rw [c4]; rfl)) (grownBy_putObj' _ D0 (.deferred none)) (fun r e => by cases e; exact ⟨_, hk1, rfl⟩)
      refine ⟨by simp, .inl ⟨_, _, rfl, run_takeDeferred hk1, ?_⟩⟩
      refine ⟨.bool true, ?_, rfl, (C0.out.below.setCell (p := ⟨w.heap.size + 1 + 1, 0, none⟩) (by simp; omega) _).trans (belowK_b (w := w) (Nat.le_refl _) _ D0 _ _ (by omega) hk1 rfl rfl)⟩
      simp [results, Try.f16, go_sem, hc6]
    · go_wp2_with fail
      have hk1 := (KeepsOthers.setCell W0 ⟨w.heap.size + 1 + 1, 0, none⟩ (.bool true)).same D0 _ HKd.out rfl
      have hc6 := cell_kept (World.cell?_setCell_same' W0 ⟨w.heap.size + 1 + 1, 0, none⟩ (.bool true) (by rw [c4]; rfl)) (grownBy_putObj' _ D0 (.deferred none)) (fun r e => by cases e; exact ⟨_, hk1, rfl⟩)
      refine ⟨by simp, .inl ⟨_, _, rfl, run_takeDeferred hk1, ?_⟩⟩
      refine ⟨.bool true, ?_, rfl, (C0.out.below.setCell (p := ⟨w.heap.size + 1 + 1, 0, none⟩) (by simp; omega) _).trans (belowK_b (w := w) (Nat.le_refl _) _ D0 _ _ (by omega) hk1 rfl rfl)⟩
      simp [results, Try.f16, go_sem, hc6]
    · obtain rfl : n' = 0 := by omega
      go_wp2_with fail
      have hk1 := (KeepsOthers.setCell W0 ⟨w.heap.size + 1 + 1, 0, none⟩ (.bool true)).same D0 _ HKd.out rfl
      have hc6 := cell_kept (World.cell?_setCell_same' W0 ⟨w.heap.size + 1 + 1, 0, none⟩ (.bool true) (by rw [c4]; rfl)) (grownBy_putObj' _ D0 (.deferred none)) (fun r e => by cases e; exact ⟨_, hk1, rfl⟩)
      refine ⟨by simp, .inl ⟨_, _, rfl, run_takeDeferred hk1, ?_⟩⟩
      refine ⟨.bool true, ?_, rfl, (C0.out.below.setCell (p := ⟨w.heap.size + 1 + 1, 0, none⟩) (by simp; omega) _).trans (belowK_b (w := w) (Nat.le_refl _) _ D0 _ _ (by omega) hk1 rfl rfl)⟩
      simp [results, Try.f16, go_sem, hc6]
    · have k3 : (1 : Int) < n' := by omega
      go_wp2_with fail
      have hk1 := (KeepsOthers.setCell W0 ⟨w.heap.size + 1 + 1, 0, none⟩ (.bool true)).same D0 _ HKd.out rfl
      have hc6 := cell_kept (World.cell?_setCell_same' W0 ⟨w.heap.size + 1 + 1, 0, none⟩ (.bool true) (by rw [c4]; rfl)) (grownBy_putObj' _ D0 (.deferred none)) (fun r e => by cases e; exact ⟨_, hk1, rfl⟩)
      refine ⟨by simp, .inl ⟨_, _, rfl, run_takeDeferred hk1, ?_⟩⟩
      refine ⟨.bool true, ?_, rfl, (C0.out.below.setCell (p := ⟨w.heap.size + 1 + 1, 0, none⟩) (by simp; omega) _).trans (belowK_b (w := w) (Nat.le_refl _) _ D0 _ _ (by omega) hk1 rfl rfl)⟩
      simp [results, Try.f16, go_sem, hc6]
    · go_wp2_with fail
      have hk1 := (KeepsOthers.setCell W0 ⟨w.heap.size + 1 + 1, 0, none⟩ (.bool true)).same D0 _ HKd.out rfl
      have hc6 := cell_kept (World.cell?_setCell_same' W0 ⟨w.heap.size + 1 + 1, 0, none⟩ (.bool true) (by rw [c4]; rfl)) (grownBy_putObj' _ D0 (.deferred none)) (fun r e => by cases e; exact ⟨_, hk1, rfl⟩)
      refine ⟨by simp, .inl ⟨_, _, rfl, run_takeDeferred hk1, ?_⟩⟩
      refine ⟨.bool true, ?_, rfl, (C0.out.below.setCell (p := ⟨w.heap.size + 1 + 1, 0, none⟩) (by simp; omega) _).trans (belowK_b (w := w) (Nat.le_refl _) _ D0 _ _ (by omega) hk1 rfl rfl)⟩
      simp [results, Try.f16, go_sem, hc6]
    · go_wp2_with fail
      have hk1 := (KeepsOthers.setCell W0 ⟨w.heap.size + 1 + 1, 0, none⟩ (.bool true)).same D0 _ HKd.out rfl
      have hc6 := cell_kept (World.cell?_setCell_same' W0 ⟨w.heap.size + 1 + 1, 0, none⟩ (.bool true) (by rw [c4]; rfl)) (grownBy_putObj' _ D0 (.deferred none)) (fun r e => by cases e; exact ⟨_, hk1, rfl⟩)
      refine ⟨by simp, .inl ⟨_, _, rfl, run_takeDeferred hk1, ?_⟩⟩
      refine ⟨.bool true, ?_, rfl, (C0.out.below.setCell (p := ⟨w.heap.size + 1 + 1, 0, none⟩) (by simp; omega) _).trans (belowK_b (w := w) (Nat.le_refl _) _ D0 _ _ (by omega) hk1 rfl rfl)⟩
      simp [results, Try.f16, go_sem, hc6]
    · obtain rfl : many = (c0 : Int) := k3.symm
      go_wp2_with fail
      have hk1 := (KeepsOthers.setCell W0 ⟨w.heap.size + 1 + 1, 0, none⟩ (.bool true)).same D0 _ HKd.out rfl
      have hc6 := cell_kept (World.cell?_setCell_same' W0 ⟨w.heap.size + 1 + 1, 0, none⟩ (.bool true) (by rw [c4]; rfl)) (grownBy_putObj' _ D0 (.deferred none)) (fun r e => by cases e; exact ⟨_, hk1, rfl⟩)
      refine ⟨by simp, .inl ⟨_, _, rfl, run_takeDeferred hk1, ?_⟩⟩
      refine ⟨.bool true, ?_, rfl, (C0.out.below.setCell (p := ⟨w.heap.size + 1 + 1, 0, none⟩) (by simp; omega) _).trans (belowK_b (w := w) (Nat.le_refl _) _ D0 _ _ (by omega) hk1 rfl rfl)⟩
      simp [results, Try.f16, go_sem, hc6]
    · obtain rfl : many = (c0 : Int) := k2.symm
      go_wp2_with fail
      have hk1 := (KeepsOthers.setCell W0 ⟨w.heap.size + 1 + 1, 0, none⟩ (.bool true)).same D0 _ HKd.out rfl
      have hc6 := cell_kept (World.cell?_setCell_same' W0 ⟨w.heap.size + 1 + 1, 0, none⟩ (.bool true) (by rw [c4]; rfl)) (grownBy_putObj' _ D0 (.deferred none)) (fun r e => by cases e; exact ⟨_, hk1, rfl⟩)
      refine ⟨by simp, .inl ⟨_, _, rfl, run_takeDeferred hk1, ?_⟩⟩
      refine ⟨.bool true, ?_, rfl, (C0.out.below.setCell (p := ⟨w.heap.size + 1 + 1, 0, none⟩) (by simp; omega) _).trans (belowK_b (w := w) (Nat.le_refl _) _ D0 _ _ (by omega) hk1 rfl rfl)⟩
      simp [results, Try.f16, go_sem, hc6]
end Go.Proofs.Ytkikdpfhcepeaaa
