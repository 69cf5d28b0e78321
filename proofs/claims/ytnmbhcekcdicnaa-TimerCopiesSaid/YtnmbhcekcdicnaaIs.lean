/-
  Timers stand as the document's: is.
-/
import Derived.Test.YtnmbhcekcdicnaaSb
import Derived.Test.YtnmbhcekcdicnaaRr
import Derived.Test.YtnmbhcekcdicnaaYe
import Derived.Deep.RegionHeld3
namespace Go.Proofs.Ytnmbhcekcdicnaa
open Go.RowKit Go.Shelf
set_option linter.unusedVariables false
set_option linter.unusedSimpArgs false
attribute [local go_sem] Oper.semAt_some run_eql_func42
attribute [local go_sem high] eql26 neq26

/-- The law says yes, and keeps to new memory. -/
def Yes (w : World) (e : Ending) (w' : World) : Prop := e = .returned (.bool true) ∧ Below w.heap.size w w'
theorem belowK_b {w : World} {X : Nat} (hX : w.heap.size ≤ X) (W : World) (D : Nat) (o : Obj) (h : w.heap.size ≤ D) : Below w.heap.size W (W.putObj D o) := below_put h
/-- Where is's boxes lie. -/
structure Ci (w : World) (v : Value) (most k i many : Int) (W : World) : Prop where
  b0 : W.heap[w.heap.size]? = some (.cells #[v, .int .i64 most] 36 (0, 0))
  b1 : W.heap[w.heap.size + 1]? = some (.cells #[.int .i64 k, .int .u64 i] 26 (0, 0))
  b2 : W.heap[w.heap.size + 2]? = some (.cells #[.int .i64 many] 3 (0, 0))
  b3 : W.heap[w.heap.size + 3]? = some (.cells #[.bool false] 4 (0, 0))
  below : Below w.heap.size w W
theorem Ci.lt {w W : World} {v : Value} {most k i many : Int} (h : Ci w v most k i many W) : w.heap.size + 3 < W.heap.size := blk_lt h.b3
theorem Ci.start (w : World) (v : Value) (most k i many : Int) : Ci w v most k i many ((((w.alloc (.cells #[v, .int .i64 most] 36)).alloc (.cells #[.int .i64 k, .int .u64 i] 26)).alloc (.cells #[.int .i64 many] 3)).alloc (.cells #[.bool false] 4)) := by
  have s1 : ∀ (W : World) (o : Obj), (W.alloc o).heap.size = W.heap.size + 1 := fun W o => by simp
  obtain ⟨W1, h1⟩ : ∃ W, W = w.alloc (.cells #[v, .int .i64 most] 36) := ⟨_, rfl⟩
  obtain ⟨W2, h2⟩ : ∃ W, W = W1.alloc (.cells #[.int .i64 k, .int .u64 i] 26) := ⟨_, rfl⟩
  obtain ⟨W3, h3⟩ : ∃ W, W = W2.alloc (.cells #[.int .i64 many] 3) := ⟨_, rfl⟩
  obtain ⟨W4, h4⟩ : ∃ W, W = W3.alloc (.cells #[.bool false] 4) := ⟨_, rfl⟩
  have z1 : W1.heap.size = w.heap.size + 1 := by rw [h1]; exact s1 _ _
  have z2 : W2.heap.size = w.heap.size + 2 := by rw [h2, s1, z1]
  have z3 : W3.heap.size = w.heap.size + 3 := by rw [h3, s1, z2]
  rw [← h1, ← h2, ← h3, ← h4]
  have c1 : Below w.heap.size w W1 := by rw [h1]; exact (Below.refl _ w).alloc (Nat.le_refl _) _
  have c2 : Below w.heap.size w W2 := by rw [h2]; exact c1.alloc (by omega) _
  have c3 : Below w.heap.size w W3 := by rw [h3]; exact c2.alloc (by omega) _
  have c4 : Below w.heap.size w W4 := by rw [h4]; exact c3.alloc (by omega) _
  refine ⟨?_, ?_, ?_, ?_, c4⟩
  · rw [h4]; exact alloc_blk (by rw [h3]; exact alloc_blk (by rw [h2]; exact alloc_blk (by rw [h1]; exact alloc_blk_new _ _) _) _) _
  · rw [h4]; exact alloc_blk (by rw [h3]; exact alloc_blk (by rw [h2, ← z1]; exact alloc_blk_new _ _) _) _
  · rw [h4]; exact alloc_blk (by rw [h3, ← z2]; exact alloc_blk_new _ _) _
  · rw [h4, ← z3]; exact alloc_blk_new _ _
theorem Ci.cells {w W : World} {v : Value} {most k i many : Int} (h : Ci w v most k i many W) :
    (W.cell? ⟨w.heap.size, 0, none⟩ = some v ∧ W.cell? ⟨w.heap.size, 1, none⟩ = some (.int .i64 most)) ∧ (W.cell? ⟨w.heap.size + 1, 0, none⟩ = some (.int .i64 k) ∧ W.cell? ⟨w.heap.size + 1, 1, none⟩ = some (.int .u64 i)) ∧ W.cell? ⟨w.heap.size + 1 + 1, 0, none⟩ = some (.int .i64 many) ∧
    (W.cell? ⟨w.heap.size + 1 + 1 + 1, 0, none⟩ = some (.bool false) ∧ W.frozen? ⟨w.heap.size + 1 + 1 + 1, 0, none⟩ = false) ∧ w.heap.size < W.heap.size ∧ w.heap.size + 1 < W.heap.size ∧ w.heap.size + 1 + 1 < W.heap.size ∧ w.heap.size + 1 + 1 + 1 < W.heap.size :=
  ⟨⟨cell_blk h.b0 0 _ rfl, cell_blk h.b0 1 _ rfl⟩, ⟨cell_blk h.b1 0 _ rfl, cell_blk h.b1 1 _ rfl⟩, cell_blk h.b2 0 _ rfl, ⟨cell_blk h.b3 0 _ rfl, frozen_blk h.b3 0⟩, blk_lt h.b0, blk_lt h.b1, blk_lt h.b2, blk_lt h.b3⟩
theorem Ci.belN {w W W' : World} {v : Value} {most k i many : Int} (h : Ci w v most k i many W) {nb : Nat} (hb : Below nb W W') (hl : w.heap.size + 3 < nb) : Ci w v most k i many W' :=
  ⟨(hb.block _ (by omega)).trans h.b0, (hb.block _ (by omega)).trans h.b1, (hb.block _ (by omega)).trans h.b2, (hb.block _ (by omega)).trans h.b3, h.below.trans (hb.mono (by omega))⟩
theorem Ci.bel {w W W' : World} {v : Value} {most k i many : Int} (h : Ci w v most k i many W) (hb : Below W.heap.size W W') : Ci w v most k i many W' := h.belN hb h.lt
theorem rAt_ne {l : List Rw} (h : Srt l) {x y : Nat} (hx : x < l.length) (hy : y < l.length) (hn : x ≠ y) : rAt l x ≠ rAt l y := by
  have hp := h.o
  rw [List.pairwise_iff_getElem] at hp
  have e : ∀ z (hz : z < l.length), rAt l z = l[z] := fun z hz => by unfold rAt; rw [List.getD_eq_getElem?_getD, List.getElem?_eq_getElem hz]; rfl
  intro g
  rw [e x hx, e y hy] at g
  rcases Nat.lt_or_gt_of_ne hn with q | q
  · have := hp x y hx hy q
    rw [g, lt_irrefl] at this
    cases this
  · have := hp y x hy hx q
    rw [g, lt_irrefl] at this
    cases this
set_option maxHeartbeats 12800000 in
set_option maxRecDepth 100000 in
theorem is_any {K : Nat → Prop} {p : Nat} {most : Int} {l : List Rw} {bo : Option Addr} {m bc : Nat} {w : World} (h : AS K p most l bo m bc w) (k i many : Int) (k0 : -9223372036854775808 ≤ k) (k1 : k ≤ 9223372036854775807) (i0 : 0 ≤ i) (i1 : i ≤ 18446744073709551615) (hm0 : -9223372036854775808 ≤ many) (hm1 : many ≤ 9223372036854775807) :
    Calls Try.prog 16 #[.pointer (some ⟨p, 0, none⟩), .agg #[.slice bo m bc, .int .i64 most], .agg #[.int .i64 k, .int .u64 i], .int .i64 many] w (Yes w) := by
  have hm := h.m
  have hml := h.dr.len
  obtain ⟨F, hF⟩ : ∃ F, F = (rAt l 0).d := ⟨_, rfl⟩
  obtain ⟨D, hD⟩ : ∃ D, D = (dueOf l k i).getD 0 := ⟨_, rfl⟩
  obtain ⟨R, hR⟩ : ∃ R, R = (dueOf l k i).isSome := ⟨_, rfl⟩
  obtain ⟨b, hb⟩ : ∃ b, b = decide (0 < m) := ⟨_, rfl⟩
  have HC := Lib.hid (Ci.start w (.slice bo m bc) most k i many)
  have HDue : Hid (∀ W, Below w.heap.size w W → Calls Try.prog 27 #[.agg #[.slice bo m bc, .int .i64 most], .agg #[.int .i64 k, .int .u64 i]] W fun e w' => e = .returned (.tuple #[.int .u64 D, .bool R]) ∧ Below W.heap.size W w') := Lib.hid fun W hW => by
    rw [hD, hR]; exact refDue27 (h.below hW).dr (by omega) most k i
  have HDu : Hid (∀ W, Below w.heap.size w W → Calls Try.prog 20 #[.pointer (some ⟨p, 0, none⟩), .agg #[.int .i64 k, .int .u64 i]] W fun e w' => e = .returned (.tuple #[.int .u64 D, .bool R]) ∧ Below W.heap.size W w') := Lib.hid fun W hW => by
    rw [hD, hR]; exact (h.below hW).ts.due k0 k1 i0 i1
  have HNx : Hid (∀ W, Below w.heap.size w W → Calls Try.prog 22 #[.pointer (some ⟨p, 0, none⟩)] W fun e w' => e = .returned (.tuple #[.int .u64 F, .bool b]) ∧ Below W.heap.size W w') := Lib.hid fun W hW => by
    have := (h.below hW).ts.next
    rw [← hml, ← hb, ← hF] at this; exact this
  have HLn : Hid (∀ W, Below w.heap.size w W → Calls Try.prog 23 #[.pointer (some ⟨p, 0, none⟩)] W fun e w' => e = .returned (.int .i64 m) ∧ Below W.heap.size W w') := Lib.hid fun W hW => by
    have := (h.below hW).ts.length
    rw [← hml] at this
    exact this.mono fun e w' ⟨he, hw⟩ => ⟨he, by rw [← hw]; exact Below.refl _ _⟩
  have HAll : Hid (∀ W, Below w.heap.size w W → Calls Try.prog 12 #[.pointer (some ⟨p, 0, none⟩)] W fun e w' => ∃ B, e = .returned (.func (.func 32) #[] #[.pointer (some ⟨B, 0, none⟩)]) ∧ SeqAt (fun q => W.heap.size ≤ q) w' B l ∧ Below W.heap.size W w') := Lib.hid fun W hW => (h.below hW).ts.all
  have HML := Lib.hid hml
  have HDR := Lib.hid h.dr
  have HSrt := Lib.hid h.ts.srt
  have HFF := Lib.hid hF
  have HBB := Lib.hid hb
  clear h hml hF hD hR hb k0 k1 i0 i1
  refine (callsIn_wide (n := 5)).1 ?_
  refine callsIn_of_wp_marks Try.func16 rfl trivial ?_ rfl
  simp only [Try.ntmps16, List.size_toArray, List.length_cons, List.length_nil, Nat.reduceAdd, Nat.reduceSub, Array.replicate_succ, Array.replicate_zero, List.push_toArray, List.append_toArray, List.nil_append, List.cons_append]
  refine wpIn_wide.2 ?_
  go_upto_region 1 with fail
  obtain ⟨u, hu⟩ : ∃ W, W = (((w.alloc (.cells #[.slice bo m bc, .int .i64 most] 36)).alloc (.cells #[.int .i64 k, .int .u64 i] 26)).alloc (.cells #[.int .i64 many] 3)).alloc (.cells #[.bool false] 4) := ⟨_, rfl⟩
  rw [← hu] at HC ⊢
  clear hu
  obtain ⟨⟨c0, c1⟩, ⟨c2, c3⟩, c4, ⟨c5, f5⟩, l0, l1, l2, l3⟩ := HC.out.cells
  go_wp2_with (go_at_call 27; fail)
  refine (HDue.out _ HC.out.below).mono ?_
  rintro e v1 ⟨rfl, hb1⟩
  have C1 := Lib.hid (HC.out.bel hb1)
  clear hb1 HC c0 c1 c2 c3 c4 c5 f5 l0 l1 l2 l3
  obtain ⟨⟨c0, c1⟩, ⟨c2, c3⟩, c4, ⟨c5, f5⟩, l0, l1, l2, l3⟩ := C1.out.cells
  go_wp2_with (go_at_call 20; fail)
  refine (HDu.out _ C1.out.below).mono ?_
  rintro e v2 ⟨rfl, hb1⟩
  have C2 := Lib.hid (C1.out.bel hb1)
  clear hb1 C1 c0 c1 c2 c3 c4 c5 f5 l0 l1 l2 l3
  obtain ⟨⟨c0, c1⟩, ⟨c2, c3⟩, c4, ⟨c5, f5⟩, l0, l1, l2, l3⟩ := C2.out.cells
  go_wp2_with (go_at_call 22; fail)
  refine (HNx.out _ C2.out.below).mono ?_
  rintro e v3 ⟨rfl, hb1⟩
  have C3 := Lib.hid (C2.out.bel hb1)
  clear hb1 C2 c0 c1 c2 c3 c4 c5 f5 l0 l1 l2 l3
  obtain ⟨⟨c0, c1⟩, ⟨c2, c3⟩, c4, ⟨c5, f5⟩, l0, l1, l2, l3⟩ := C3.out.cells
  have e1 : decide ((0 : Int) < m) = b := by rw [HBB.out]; by_cases e : 0 < m <;> simp [e]
  have e2 : decide (0 < m) = b := HBB.out.symm
  go_upto_region 5 with fail
  go_cut [40] from 37 to 40 (fun s wx => s = .bool b ∧ wx = v3)
  case first =>
    go_wp2
    go_meet
    exact ⟨by first | rfl | simp [e1, e2], rfl⟩
  case rest =>
    obtain ⟨rfl, hwc⟩ := hcut
    obtain rfl : v3 = wc := hwc.symm
    go_upto_if 40 with fail
    go_cut [15] from 15 to 45 (fun s wx => s = .int .u64 F ∧ wx = v3)
    case first =>
      cases b with
      | false =>
        have HM0 : Hid (m = 0) := Lib.hid (by have := HBB.out; simp at this; omega)
        go_wp2
        go_meet
        exact ⟨by
          have hl : l = [] := List.eq_nil_of_length_eq_zero (by have := HML.out; have := HM0.out; omega)
          rw [HFF.out, hl]
          rfl, rfl⟩
      | true =>
        have hmp : 0 < m := by have := HBB.out; simp at this; omega
        obtain ⟨g, off, rfl, _, hgl, hc⟩ := HDR.out.at_ hmp
        have y2 := (C3.out.below.cell (p := ⟨g, off + 0 * 3 + 2, none⟩) hgl).trans (hc 0 hmp).2.2
        rw [← HFF.out] at y2
        simp only [Nat.zero_mul, Nat.add_zero] at y2
        have hgw := Nat.lt_of_lt_of_le hgl C3.out.below.size
        have hm1' : (0 : Int) < m := by omega
        clear hc
        go_wp2
        go_meet
        exact ⟨rfl, rfl⟩
    case rest =>
      obtain ⟨rfl, hwc⟩ := hcut
      obtain rfl : v3 = wc := hwc.symm
      clear e1 e2
      go_wp2_with (go_at_call 12; fail)
      refine (HAll.out _ C3.out.below).mono ?_
      rintro e v4 ⟨B, rfl, hsq, hb1⟩
      have C4 := Lib.hid (C3.out.bel hb1)
      have SQ4 : Hid (SeqAt (fun q => w.heap.size ≤ q) v4 B l) := Lib.hid (hsq.keep (fun q e _ => Nat.le_trans C3.out.below.size e) fun _ _ _ => rfl)
      have SQB : Hid (w.heap.size + 3 < B) := Lib.hid (by have := hsq.ok; have := C3.out.lt; omega)
      clear hb1 hsq C3 c0 c1 c2 c3 c4 c5 f5 l0 l1 l2 l3
      have hDD : (D != D) = false := by simp
      have hRR : (R != R) = false := by simp
      have hbb : (b != b) = false := by simp
      have hFF : (F != F) = false := by simp
      have hmm : ((m : Int) != (m : Int)) = false := by simp
      have e1 : decide ((0 : Int) < m) = b := by rw [HBB.out]; by_cases e : 0 < m <;> simp [e]
      have e2 : decide (0 < m) = b := HBB.out.symm
      go_upto_region 8 with fail
      refine wp_region_noPanic ?_
      obtain ⟨wd, hwd⟩ : ∃ W, W = (v4).drew := ⟨_, rfl⟩
      have HBd : Hid (Below (v4).heap.size (v4) wd) := Lib.hid (by rw [hwd]; exact Below.drewN' (v4) 1)
      have hS0 : (fun W : World => Below v4.heap.size v4 W) wd := by rw [hwd]; exact (Below.drewN' v4 1)
      refine wp_region_held_drew (S := fun W => Below v4.heap.size v4 W) (by kernel_rfl) (by rw [← hwd]; exact hS0) (fun hHeld => ?_)
      rw [← hwd] at hHeld ⊢
      clear hwd hS0
      refine' wpAnyH_take (i := 0) (oi := { dst := some 48, op := Op.move (Operand.tmp 16), type := 42, pos := "law.go:72", after := #[], guard := none }) (v := ?v301001) rfl (by kernel_rfl) (by kernel_rfl) (by kernel_rfl) (fun _ _ _ h => h) (.inl ⟨by first | rfl | simp [Region.wanted, yielded], ?hy301001⟩) (by assumption) ?rest301001
      case hy301001 => (intro W hW; obtain ⟨⟨f1, f2⟩, -, -, -, f3, -⟩ := (C4.out.bel hW).cells; go_simp; try with_reducible rfl)
      simp only [Act.put, List.setIfInBounds_toArray, List.set_cons_zero, List.set_cons_succ]
      refine' wpAnyH_take (i := 1) (oi := { dst := some 49, op := Op.binOp BinOp.eql 42 (Operand.tmp 48) (Operand.const Value.nilFunc) 42, type := 4, pos := "law.go:72", after := #[{ on := 0, ground := Ground.data }], guard := none }) (v := ?v301002) rfl (by kernel_rfl) (by kernel_rfl) (by kernel_rfl) (fun _ _ _ h => h) (.inl ⟨by first | rfl | simp [Region.wanted, yielded], ?hy301002⟩) (by assumption) ?rest301002
      case hy301002 => (intro W hW; obtain ⟨⟨f1, f2⟩, -, -, -, f3, -⟩ := (C4.out.bel hW).cells; go_simp; try with_reducible rfl)
      simp only [Act.put, List.setIfInBounds_toArray, List.set_cons_zero, List.set_cons_succ]
      refine' wpAnyH_take (i := 2) (oi := { dst := some 50, op := Op.move (Operand.tmp 49), type := 4, pos := "law.go:72", after := #[{ on := 1, ground := Ground.data }], guard := none }) (v := ?v301003) rfl (by kernel_rfl) (by kernel_rfl) (by kernel_rfl) (fun _ _ _ h => h) (.inl ⟨by first | rfl | simp [Region.wanted, yielded], ?hy301003⟩) (by assumption) ?rest301003
      case hy301003 => (intro W hW; obtain ⟨⟨f1, f2⟩, -, -, -, f3, -⟩ := (C4.out.bel hW).cells; go_simp; try with_reducible rfl)
      simp only [Act.put, List.setIfInBounds_toArray, List.set_cons_zero, List.set_cons_succ]
      refine' wpAnyH_take (i := 3) (oi := { dst := some 51, op := Op.move (Operand.tmp 11), type := 24, pos := "law.go:72", after := #[{ on := 2, ground := Ground.guard }], guard := some (2, false) }) (v := ?v301004) rfl (by kernel_rfl) (by kernel_rfl) (by kernel_rfl) (fun _ _ _ h => h) (.inl ⟨by first | rfl | simp [Region.wanted, yielded], ?hy301004⟩) (by assumption) ?rest301004
      case hy301004 => (intro W hW; obtain ⟨⟨f1, f2⟩, -, -, -, f3, -⟩ := (C4.out.bel hW).cells; go_simp; try with_reducible rfl)
      simp only [Act.put, List.setIfInBounds_toArray, List.set_cons_zero, List.set_cons_succ]
      refine' wpAnyH_take (i := 4) (oi := { dst := some 52, op := Op.move (Operand.tmp 9), type := 24, pos := "law.go:72", after := #[{ on := 2, ground := Ground.guard }], guard := some (2, false) }) (v := ?v301005) rfl (by kernel_rfl) (by kernel_rfl) (by kernel_rfl) (fun _ _ _ h => h) (.inl ⟨by first | rfl | simp [Region.wanted, yielded], ?hy301005⟩) (by assumption) ?rest301005
      case hy301005 => (intro W hW; obtain ⟨⟨f1, f2⟩, -, -, -, f3, -⟩ := (C4.out.bel hW).cells; go_simp; try with_reducible rfl)
      simp only [Act.put, List.setIfInBounds_toArray, List.set_cons_zero, List.set_cons_succ]
      refine' wpAnyH_take (i := 5) (oi := { dst := some 53, op := Op.binOp BinOp.neq 24 (Operand.tmp 51) (Operand.tmp 52) 24, type := 4, pos := "law.go:72", after := #[{ on := 3, ground := Ground.data }, { on := 4, ground := Ground.data }, { on := 2, ground := Ground.guard }], guard := some (2, false) }) (v := ?v301006) rfl (by kernel_rfl) (by kernel_rfl) (by kernel_rfl) (fun _ _ _ h => h) (.inl ⟨by first | rfl | simp [Region.wanted, yielded], ?hy301006⟩) (by assumption) ?rest301006
      case hy301006 => (intro W hW; obtain ⟨⟨f1, f2⟩, -, -, -, f3, -⟩ := (C4.out.bel hW).cells; go_simp; try with_reducible rfl)
      simp only [Act.put, List.setIfInBounds_toArray, List.set_cons_zero, List.set_cons_succ]
      refine' wpAnyH_take (i := 6) (oi := { dst := some 54, op := Op.pick (Operand.tmp 50) (Operand.const (Value.bool true)) (Operand.tmp 53), type := 4, pos := "law.go:72", after := #[{ on := 2, ground := Ground.data }, { on := 5, ground := Ground.data }], guard := none }) (v := ?v301007) rfl (by kernel_rfl) (by kernel_rfl) (by kernel_rfl) (fun _ _ _ h => h) (.inl ⟨by first | rfl | simp [Region.wanted, yielded], ?hy301007⟩) (by assumption) ?rest301007
      case hy301007 => (intro W hW; obtain ⟨⟨f1, f2⟩, -, -, -, f3, -⟩ := (C4.out.bel hW).cells; go_simp; try with_reducible rfl)
      simp only [Act.put, List.setIfInBounds_toArray, List.set_cons_zero, List.set_cons_succ]
      refine' wpAnyH_take (i := 7) (oi := { dst := some 55, op := Op.move (Operand.tmp 54), type := 4, pos := "law.go:72", after := #[{ on := 6, ground := Ground.data }, { on := 2, ground := Ground.chain }], guard := none }) (v := ?v301008) rfl (by kernel_rfl) (by kernel_rfl) (by kernel_rfl) (fun _ _ _ h => h) (.inl ⟨by first | rfl | simp [Region.wanted, yielded], ?hy301008⟩) (by assumption) ?rest301008
      case hy301008 => (intro W hW; obtain ⟨⟨f1, f2⟩, -, -, -, f3, -⟩ := (C4.out.bel hW).cells; go_simp; try with_reducible rfl)
      simp only [Act.put, List.setIfInBounds_toArray, List.set_cons_zero, List.set_cons_succ]
      refine' wpAnyH_take (i := 8) (oi := { dst := some 56, op := Op.move (Operand.tmp 12), type := 4, pos := "law.go:72", after := #[{ on := 7, ground := Ground.guard }], guard := some (7, false) }) (v := ?v301009) rfl (by kernel_rfl) (by kernel_rfl) (by kernel_rfl) (fun _ _ _ h => h) (.inl ⟨by first | rfl | simp [Region.wanted, yielded], ?hy301009⟩) (by assumption) ?rest301009
      case hy301009 => (intro W hW; obtain ⟨⟨f1, f2⟩, -, -, -, f3, -⟩ := (C4.out.bel hW).cells; go_simp; try with_reducible rfl)
      simp only [Act.put, List.setIfInBounds_toArray, List.set_cons_zero, List.set_cons_succ]
      refine' wpAnyH_take (i := 9) (oi := { dst := some 57, op := Op.move (Operand.tmp 10), type := 4, pos := "law.go:72", after := #[{ on := 7, ground := Ground.guard }], guard := some (7, false) }) (v := ?v301010) rfl (by kernel_rfl) (by kernel_rfl) (by kernel_rfl) (fun _ _ _ h => h) (.inl ⟨by first | rfl | simp [Region.wanted, yielded], ?hy301010⟩) (by assumption) ?rest301010
      case hy301010 => (intro W hW; obtain ⟨⟨f1, f2⟩, -, -, -, f3, -⟩ := (C4.out.bel hW).cells; go_simp; try with_reducible rfl)
      simp only [Act.put, List.setIfInBounds_toArray, List.set_cons_zero, List.set_cons_succ]
      refine' wpAnyH_take (i := 10) (oi := { dst := some 58, op := Op.binOp BinOp.neq 4 (Operand.tmp 56) (Operand.tmp 57) 4, type := 4, pos := "law.go:72", after := #[{ on := 8, ground := Ground.data }, { on := 9, ground := Ground.data }, { on := 7, ground := Ground.guard }], guard := some (7, false) }) (v := ?v301011) rfl (by kernel_rfl) (by kernel_rfl) (by kernel_rfl) (fun _ _ _ h => h) (.inl ⟨by first | rfl | simp [Region.wanted, yielded], ?hy301011⟩) (by assumption) ?rest301011
      case hy301011 => (intro W hW; obtain ⟨⟨f1, f2⟩, -, -, -, f3, -⟩ := (C4.out.bel hW).cells; go_simp; try with_reducible rfl)
      simp only [Act.put, List.setIfInBounds_toArray, List.set_cons_zero, List.set_cons_succ]
      refine' wpAnyH_take (i := 11) (oi := { dst := some 59, op := Op.pick (Operand.tmp 55) (Operand.const (Value.bool true)) (Operand.tmp 58), type := 4, pos := "law.go:72", after := #[{ on := 7, ground := Ground.data }, { on := 10, ground := Ground.data }], guard := none }) (v := ?v301012) rfl (by kernel_rfl) (by kernel_rfl) (by kernel_rfl) (fun _ _ _ h => h) (.inl ⟨by first | rfl | simp [Region.wanted, yielded], ?hy301012⟩) (by assumption) ?rest301012
      case hy301012 => (intro W hW; obtain ⟨⟨f1, f2⟩, -, -, -, f3, -⟩ := (C4.out.bel hW).cells; go_simp; try with_reducible rfl)
      simp only [Act.put, List.setIfInBounds_toArray, List.set_cons_zero, List.set_cons_succ]
      refine' wpAnyH_take (i := 12) (oi := { dst := some 60, op := Op.move (Operand.tmp 59), type := 4, pos := "law.go:72", after := #[{ on := 11, ground := Ground.data }, { on := 7, ground := Ground.chain }], guard := none }) (v := ?v301013) rfl (by kernel_rfl) (by kernel_rfl) (by kernel_rfl) (fun _ _ _ h => h) (.inl ⟨by first | rfl | simp [Region.wanted, yielded], ?hy301013⟩) (by assumption) ?rest301013
      case hy301013 => (intro W hW; obtain ⟨⟨f1, f2⟩, -, -, -, f3, -⟩ := (C4.out.bel hW).cells; go_simp; try with_reducible rfl)
      simp only [Act.put, List.setIfInBounds_toArray, List.set_cons_zero, List.set_cons_succ]
      refine' wpAnyH_take (i := 13) (oi := { dst := some 61, op := Op.move (Operand.tmp 14), type := 4, pos := "law.go:72", after := #[{ on := 12, ground := Ground.guard }], guard := some (12, false) }) (v := ?v301014) rfl (by kernel_rfl) (by kernel_rfl) (by kernel_rfl) (fun _ _ _ h => h) (.inl ⟨by first | rfl | simp [Region.wanted, yielded], ?hy301014⟩) (by assumption) ?rest301014
      case hy301014 => (intro W hW; obtain ⟨⟨f1, f2⟩, -, -, -, f3, -⟩ := (C4.out.bel hW).cells; go_simp; try with_reducible rfl)
      simp only [Act.put, List.setIfInBounds_toArray, List.set_cons_zero, List.set_cons_succ]
      refine' wpAnyH_take (i := 14) (oi := { dst := some 62, op := Op.fieldAddr 36 (Operand.tmp 5) 0, type := 0, pos := "law.go:72", after := #[{ on := 12, ground := Ground.guard }], guard := some (12, false) }) (v := ?v301015) rfl (by kernel_rfl) (by kernel_rfl) (by kernel_rfl) (fun _ _ _ h => h) (.inl ⟨by first | rfl | simp [Region.wanted, yielded], ?hy301015⟩) (by assumption) ?rest301015
      case hy301015 => (intro W hW; obtain ⟨⟨f1, f2⟩, -, -, -, f3, -⟩ := (C4.out.bel hW).cells; go_simp; try with_reducible rfl)
      simp only [Act.put, List.setIfInBounds_toArray, List.set_cons_zero, List.set_cons_succ]
      refine' wpAnyH_take (i := 15) (oi := { dst := some 63, op := Op.load 34 (Operand.tmp 62), type := 34, pos := "law.go:72", after := #[{ on := 14, ground := Ground.data }, { on := 12, ground := Ground.guard }], guard := some (12, false) }) (v := ?v301016) rfl (by kernel_rfl) (by kernel_rfl) (by kernel_rfl) (fun _ _ _ h => h) (.inl ⟨by first | rfl | simp [Region.wanted, yielded], ?hy301016⟩) (by assumption) ?rest301016
      case hy301016 => (intro W hW; obtain ⟨⟨f1, f2⟩, -, -, -, f3, -⟩ := (C4.out.bel hW).cells; go_simp; try with_reducible rfl)
      simp only [Act.put, List.setIfInBounds_toArray, List.set_cons_zero, List.set_cons_succ]
      refine' wpAnyH_take (i := 16) (oi := { dst := some 64, op := Op.call { callee := Callee.builtin Builtin.len, args := #[Operand.tmp 63], argTypes := #[34] }, type := 3, pos := "law.go:72", after := #[{ on := 15, ground := Ground.data }, { on := 12, ground := Ground.guard }], guard := some (12, false) }) (v := ?v301017) rfl (by kernel_rfl) (by kernel_rfl) (by kernel_rfl) (fun _ _ _ h => h) (.inl ⟨by first | rfl | simp [Region.wanted, yielded], ?hy301017⟩) (by assumption) ?rest301017
      case hy301017 => (intro W hW; obtain ⟨⟨f1, f2⟩, -, -, -, f3, -⟩ := (C4.out.bel hW).cells; go_simp; try with_reducible rfl)
      simp only [Act.put, List.setIfInBounds_toArray, List.set_cons_zero, List.set_cons_succ]
      refine' wpAnyH_take (i := 17) (oi := { dst := some 65, op := Op.binOp BinOp.gtr 3 (Operand.tmp 64) (Operand.const (Value.int IntKind.i64 0)) 3, type := 4, pos := "law.go:72", after := #[{ on := 16, ground := Ground.data }, { on := 12, ground := Ground.guard }], guard := some (12, false) }) (v := ?v301018) rfl (by kernel_rfl) (by kernel_rfl) (by kernel_rfl) (fun _ _ _ h => h) (.inl ⟨by first | rfl | simp [Region.wanted, yielded], ?hy301018⟩) (by assumption) ?rest301018
      case hy301018 => (intro W hW; obtain ⟨⟨f1, f2⟩, -, -, -, f3, -⟩ := (C4.out.bel hW).cells; go_simp; try with_reducible rfl)
      simp only [Act.put, List.setIfInBounds_toArray, List.set_cons_zero, List.set_cons_succ]
      refine' wpAnyH_take (i := 18) (oi := { dst := some 66, op := Op.binOp BinOp.neq 4 (Operand.tmp 61) (Operand.tmp 65) 4, type := 4, pos := "law.go:72", after := #[{ on := 13, ground := Ground.data }, { on := 17, ground := Ground.data }, { on := 12, ground := Ground.guard }], guard := some (12, false) }) (v := ?v301019) rfl (by kernel_rfl) (by kernel_rfl) (by kernel_rfl) (fun _ _ _ h => h) (.inl ⟨by first | rfl | simp [Region.wanted, yielded], ?hy301019⟩) (by assumption) ?rest301019
      case hy301019 => (intro W hW; obtain ⟨⟨f1, f2⟩, -, -, -, f3, -⟩ := (C4.out.bel hW).cells; go_simp; try with_reducible rfl)
      simp only [Act.put, List.setIfInBounds_toArray, List.set_cons_zero, List.set_cons_succ]
      refine' wpAnyH_take (i := 19) (oi := { dst := some 67, op := Op.pick (Operand.tmp 60) (Operand.const (Value.bool true)) (Operand.tmp 66), type := 4, pos := "law.go:72", after := #[{ on := 12, ground := Ground.data }, { on := 18, ground := Ground.data }], guard := none }) (v := ?v301020) rfl (by kernel_rfl) (by kernel_rfl) (by kernel_rfl) (fun _ _ _ h => h) (.inl ⟨by first | rfl | simp [Region.wanted, yielded], ?hy301020⟩) (by assumption) ?rest301020
      case hy301020 => (intro W hW; obtain ⟨⟨f1, f2⟩, -, -, -, f3, -⟩ := (C4.out.bel hW).cells; go_simp; try with_reducible rfl)
      simp only [Act.put, List.setIfInBounds_toArray, List.set_cons_zero, List.set_cons_succ]
      refine' wpAnyH_take (i := 20) (oi := { dst := some 68, op := Op.move (Operand.tmp 67), type := 4, pos := "law.go:72", after := #[{ on := 19, ground := Ground.data }, { on := 12, ground := Ground.chain }], guard := none }) (v := ?v301021) rfl (by kernel_rfl) (by kernel_rfl) (by kernel_rfl) (fun _ _ _ h => h) (.inl ⟨by first | rfl | simp [Region.wanted, yielded], ?hy301021⟩) (by assumption) ?rest301021
      case hy301021 => (intro W hW; obtain ⟨⟨f1, f2⟩, -, -, -, f3, -⟩ := (C4.out.bel hW).cells; go_simp; try with_reducible rfl)
      simp only [Act.put, List.setIfInBounds_toArray, List.set_cons_zero, List.set_cons_succ]
      refine' wpAnyH_take (i := 21) (oi := { dst := some 69, op := Op.move (Operand.tmp 13), type := 24, pos := "law.go:72", after := #[{ on := 20, ground := Ground.guard }], guard := some (20, false) }) (v := ?v301022) rfl (by kernel_rfl) (by kernel_rfl) (by kernel_rfl) (fun _ _ _ h => h) (.inl ⟨by first | rfl | simp [Region.wanted, yielded], ?hy301022⟩) (by assumption) ?rest301022
      case hy301022 => (intro W hW; obtain ⟨⟨f1, f2⟩, -, -, -, f3, -⟩ := (C4.out.bel hW).cells; go_simp; try with_reducible rfl)
      simp only [Act.put, List.setIfInBounds_toArray, List.set_cons_zero, List.set_cons_succ]
      refine' wpAnyH_take (i := 22) (oi := { dst := some 70, op := Op.move (Operand.tmp 15), type := 24, pos := "law.go:72", after := #[{ on := 20, ground := Ground.guard }], guard := some (20, false) }) (v := ?v301023) rfl (by kernel_rfl) (by kernel_rfl) (by kernel_rfl) (fun _ _ _ h => h) (.inl ⟨by first | rfl | simp [Region.wanted, yielded], ?hy301023⟩) (by assumption) ?rest301023
      case hy301023 => (intro W hW; obtain ⟨⟨f1, f2⟩, -, -, -, f3, -⟩ := (C4.out.bel hW).cells; go_simp; try with_reducible rfl)
      simp only [Act.put, List.setIfInBounds_toArray, List.set_cons_zero, List.set_cons_succ]
      refine' wpAnyH_take (i := 23) (oi := { dst := some 71, op := Op.binOp BinOp.neq 24 (Operand.tmp 69) (Operand.tmp 70) 24, type := 4, pos := "law.go:72", after := #[{ on := 21, ground := Ground.data }, { on := 22, ground := Ground.data }, { on := 20, ground := Ground.guard }], guard := some (20, false) }) (v := ?v301024) rfl (by kernel_rfl) (by kernel_rfl) (by kernel_rfl) (fun _ _ _ h => h) (.inl ⟨by first | rfl | simp [Region.wanted, yielded], ?hy301024⟩) (by assumption) ?rest301024
      case hy301024 => (intro W hW; obtain ⟨⟨f1, f2⟩, -, -, -, f3, -⟩ := (C4.out.bel hW).cells; go_simp; try with_reducible rfl)
      simp only [Act.put, List.setIfInBounds_toArray, List.set_cons_zero, List.set_cons_succ]
      refine' wpAnyH_take (i := 24) (oi := { dst := some 72, op := Op.pick (Operand.tmp 68) (Operand.const (Value.bool true)) (Operand.tmp 71), type := 4, pos := "law.go:72", after := #[{ on := 20, ground := Ground.data }, { on := 23, ground := Ground.data }], guard := none }) (v := ?v301025) rfl (by kernel_rfl) (by kernel_rfl) (by kernel_rfl) (fun _ _ _ h => h) (.inl ⟨by first | rfl | simp [Region.wanted, yielded], ?hy301025⟩) (by assumption) ?rest301025
      case hy301025 => (intro W hW; obtain ⟨⟨f1, f2⟩, -, -, -, f3, -⟩ := (C4.out.bel hW).cells; go_simp; try with_reducible rfl)
      simp only [Act.put, List.setIfInBounds_toArray, List.set_cons_zero, List.set_cons_succ]
      refine' wpAnyH_take (i := 25) (oi := { dst := some 73, op := Op.move (Operand.tmp 72), type := 4, pos := "law.go:72", after := #[{ on := 24, ground := Ground.data }, { on := 20, ground := Ground.chain }], guard := none }) (v := ?v301026) rfl (by kernel_rfl) (by kernel_rfl) (by kernel_rfl) (fun _ _ _ h => h) (.inl ⟨by first | rfl | simp [Region.wanted, yielded], ?hy301026⟩) (by assumption) ?rest301026
      case hy301026 => (intro W hW; obtain ⟨⟨f1, f2⟩, -, -, -, f3, -⟩ := (C4.out.bel hW).cells; go_simp; try with_reducible rfl)
      simp only [Act.put, List.setIfInBounds_toArray, List.set_cons_zero, List.set_cons_succ]
      refine' wpAnyH_take (i := 26) (oi := { dst := some 74, op := Op.move (Operand.tmp 0), type := 30, pos := "law.go:72", after := #[{ on := 25, ground := Ground.guard }], guard := some (25, false) }) (v := ?v301027) rfl (by kernel_rfl) (by kernel_rfl) (by kernel_rfl) (fun _ _ _ h => h) (.inl ⟨by first | rfl | simp [Region.wanted, yielded], ?hy301027⟩) (by assumption) ?rest301027
      case hy301027 => (intro W hW; obtain ⟨⟨f1, f2⟩, -, -, -, f3, -⟩ := (C4.out.bel hW).cells; go_simp; try with_reducible rfl)
      simp only [Act.put, List.setIfInBounds_toArray, List.set_cons_zero, List.set_cons_succ]
      refine' wpAnyH_take (i := 28) (oi := { dst := some 76, op := Op.fieldAddr 36 (Operand.tmp 5) 0, type := 0, pos := "law.go:72", after := #[{ on := 25, ground := Ground.guard }], guard := some (25, false) }) (v := ?v301028) rfl (by kernel_rfl) (by kernel_rfl) (by kernel_rfl) (fun _ _ _ h => h) (.inl ⟨by first | rfl | simp [Region.wanted, yielded], ?hy301028⟩) (by assumption) ?rest301028
      case hy301028 => (intro W hW; obtain ⟨⟨f1, f2⟩, -, -, -, f3, -⟩ := (C4.out.bel hW).cells; go_simp; try with_reducible rfl)
      simp only [Act.put, List.setIfInBounds_toArray, List.set_cons_zero, List.set_cons_succ]
      refine' wpAnyH_take (i := 29) (oi := { dst := some 77, op := Op.load 34 (Operand.tmp 76), type := 34, pos := "law.go:72", after := #[{ on := 28, ground := Ground.data }, { on := 25, ground := Ground.guard }], guard := some (25, false) }) (v := ?v301029) rfl (by kernel_rfl) (by kernel_rfl) (by kernel_rfl) (fun _ _ _ h => h) (.inl ⟨by first | rfl | simp [Region.wanted, yielded], ?hy301029⟩) (by assumption) ?rest301029
      case hy301029 => (intro W hW; obtain ⟨⟨f1, f2⟩, -, -, -, f3, -⟩ := (C4.out.bel hW).cells; go_simp; try with_reducible rfl)
      simp only [Act.put, List.setIfInBounds_toArray, List.set_cons_zero, List.set_cons_succ]
      refine' wpAnyH_take (i := 30) (oi := { dst := some 78, op := Op.call { callee := Callee.builtin Builtin.len, args := #[Operand.tmp 77], argTypes := #[34] }, type := 3, pos := "law.go:72", after := #[{ on := 29, ground := Ground.data }, { on := 25, ground := Ground.guard }], guard := some (25, false) }) (v := ?v301030) rfl (by kernel_rfl) (by kernel_rfl) (by kernel_rfl) (fun _ _ _ h => h) (.inl ⟨by first | rfl | simp [Region.wanted, yielded], ?hy301030⟩) (by assumption) ?rest301030
      case hy301030 => (intro W hW; obtain ⟨⟨f1, f2⟩, -, -, -, f3, -⟩ := (C4.out.bel hW).cells; go_simp; try with_reducible rfl)
      simp only [Act.put, List.setIfInBounds_toArray, List.set_cons_zero, List.set_cons_succ]
      refine wpAnyH_ready (rs := [27]) (by kernel_rfl) (by simp) ?_
      refine AllReadyH.cons (o := { dst := some 75, op := Op.call { callee := Callee.value (Operand.func 23), args := #[Operand.tmp 74], argTypes := #[30] }, type := 3, pos := "law.go:72", after := #[{ on := 26, ground := Ground.data }, { on := 25, ground := Ground.chain }, { on := 25, ground := Ground.guard }], guard := some (25, false) }) rfl (fun KK hK => ?_) (AllReadyH.nil)
      try simp only [List.getElem_toArray, List.getElem_cons_succ, List.getElem_cons_zero]
      go_simp
      refine (HLn.out _ (C4.out.bel hHeld).below).mono ?_
      rintro e z0 ⟨rfl, hz⟩
      have hHeld1 : (fun W : World => Below v4.heap.size v4 W) z0 := hHeld.trans (hz.mono hHeld.size)
      clear hz hHeld
      refine hK.out _ _ (by assumption) (fun hHeld => ?_)
      clear hK KK
      try simp only [Act.put, List.setIfInBounds_toArray, List.set_cons_zero, List.set_cons_succ]
      refine' wpAnyH_take (i := 31) (oi := { dst := some 79, op := Op.binOp BinOp.neq 3 (Operand.tmp 75) (Operand.tmp 78) 3, type := 4, pos := "law.go:72", after := #[{ on := 27, ground := Ground.data }, { on := 30, ground := Ground.data }, { on := 25, ground := Ground.guard }], guard := some (25, false) }) (v := ?v301031) rfl (by kernel_rfl) (by kernel_rfl) (by kernel_rfl) (fun _ _ _ h => h) (.inl ⟨by first | rfl | simp [Region.wanted, yielded], ?hy301031⟩) (by assumption) ?rest301031
      case hy301031 => (intro W hW; obtain ⟨⟨f1, f2⟩, -, -, -, f3, -⟩ := (C4.out.bel hW).cells; go_simp; try with_reducible rfl)
      simp only [Act.put, List.setIfInBounds_toArray, List.set_cons_zero, List.set_cons_succ]
      refine' wpAnyH_take (i := 32) (oi := { dst := some 80, op := Op.pick (Operand.tmp 73) (Operand.const (Value.bool true)) (Operand.tmp 79), type := 4, pos := "law.go:72", after := #[{ on := 25, ground := Ground.data }, { on := 31, ground := Ground.data }], guard := none }) (v := ?v301032) rfl (by kernel_rfl) (by kernel_rfl) (by kernel_rfl) (fun _ _ _ h => h) (.inl ⟨by first | rfl | simp [Region.wanted, yielded], ?hy301032⟩) (by assumption) ?rest301032
      case hy301032 => (intro W hW; obtain ⟨⟨f1, f2⟩, -, -, -, f3, -⟩ := (C4.out.bel hW).cells; go_simp; try with_reducible rfl)
      simp only [Act.put, List.setIfInBounds_toArray, List.set_cons_zero, List.set_cons_succ]
      refine wpAnyH_done (by kernel_rfl) ?_ _
      refine NoPanic.normal ?_
      go_upto_block 0 with fail
      clear hDD hRR hbb hFF hmm e1 e2
      have C5 := Lib.hid (C4.out.bel hHeld1)
      have SQ5 := Lib.hid (SQ4.out.below hHeld1)
      have DR5 := Lib.hid (HDR.out.below C5.out.below)
      have HV5 := Lib.hid hHeld1
      clear hHeld1
      obtain ⟨nb, hnb⟩ : ∃ B, B = z0.heap.size := ⟨_, rfl⟩
      obtain ⟨wn, hwn⟩ : ∃ W, W = z0.alloc (.cells #[.int .i64 0] 3) := ⟨_, rfl⟩
      have hb5 : Below z0.heap.size z0 wn := by rw [hwn]; exact (Below.refl _ z0).alloc (Nat.le_refl _) _
      have k17 : wn.heap[nb]? = some (.cells #[.int .i64 0] 3 (0, 0)) := by rw [hwn, hnb]; exact alloc_blk_new _ _
      rw [← hwn, ← hnb]
      have Cn := Lib.hid (C5.out.bel hb5)
      have SQn : Hid (SeqAt (fun q => w.heap.size ≤ q ∧ q < nb) wn B l) := Lib.hid (SQ5.out.keep (fun q e hq => ⟨e, by rw [hnb]; exact hq⟩) fun q _ hq => hb5.block q hq)
      have DRn : Hid (DR (fun q => q < w.heap.size) wn bo m bc l) := Lib.hid ((HDR.out.keep (Nat.le_refl _) (fun q _ hq => hq) fun _ _ _ => rfl : DR (fun q => q < w.heap.size) w bo m bc l).below Cn.out.below)
      have HCnb : Hid (w.heap.size + 3 < nb) := Lib.hid (by rw [hnb]; exact C5.out.lt)
      have hnlt := blk_lt k17
      have N0 := Lib.hid (cell_blk k17 0 (.int .i64 0) rfl)
      have NF := Lib.hid (frozen_blk k17 0)
      clear hnb hwn hb5 k17
      obtain ⟨ao, n, c, hkB, hrows⟩ := SQn.out.ex
      have hnm : n = m := by have := hrows.len; have := HML.out; omega
      subst hnm
      have HRW := Lib.hid hrows
      have HKB := Lib.hid hkB
      have HBn := Lib.hid SQn.out.ok
      clear hkB hrows
      refine range_cut (fun D W => wn.heap.size ≤ D ∧ W.heap[D]? = some (.deferred (some [])) ∧ (∃ c : Nat, (c : Int) = min (n : Int) (max 1 many) ∧ W.cell? ⟨nb, 0, none⟩ = some (.int .i64 c)) ∧ Below nb wn W) ?firstA ?restA
      case firstA =>
        go_wp2_with fail
        refine (wpIn_wide (n := 5)).1 ?_
        have hnb3 := HCnb.out
        refine' wpIn_range_deepA (F := Fence.wide) rfl (by omega) (gf := 32) (lb := #[.pointer (some ⟨B, 0, none⟩)]) rfl trivial (enters_of Try.func32 (by kernel_rfl) rfl) (n₀ := nb) (by omega)
          (All32_deep 4 (by omega) B nb ao n c l (by omega) wn (blk_lt HKB.out) (by omega) (cell_blk HKB.out 0 _ rfl) (fun hp => by
            cases ao with
            | none => have := HRW.out.none_ rfl; have := HRW.out.cap; omega
            | some a =>
              obtain ⟨g, cur, rfl, hg, hgg, _, hcc⟩ := HRW.out.some_ a rfl
              refine ⟨g, 0, rfl, hg.2, fun j hj => ?_⟩
              obtain ⟨y0, y1, y2⟩ := hcc j hj
              rw [Nat.zero_add]
              exact ⟨cell_blk hgg _ _ y0, cell_blk hgg _ _ y1, cell_blk hgg _ _ y2⟩)) (fun _ => rfl)
          (Rnd (List.finRange n) many nb wn) (Rxt (List.finRange n) many nb wn 0) (Rnd.ahead (by omega)) (Rxt.ahead (by omega)) (Rnd.start N0.out NF.out) (fun x => .cells #[.int .i64 (rAt l x.val).k, .int .u64 (rAt l x.val).i] 26) _ ?assign ?body ?done ?stop
        case assign =>
          intro l' x W X K hX hK
          unfold encT
          dsimp only
          gi_wp2
          rw [← hX]
          exact hK _ rfl
        case done =>
          rintro D ys W hD rfl hI hKd
          obtain ⟨hcc, hB⟩ := hI.whole
          rw [List.length_finRange] at hcc
          exact ⟨rfl, D, rfl, hD, hKd, hcc, hB⟩
        case stop =>
          rintro D c pre W hD hSp hIx hKd
          obtain ⟨rfl, hcc, hB⟩ := hIx.part hSp
          rw [List.length_finRange] at hcc
          refine wpIn_exit ?_
          exact ⟨rfl, D, rfl, hD, hKd, hcc, hB⟩
        case body =>
          rintro l' pre xx V X hX hXb ⟨⟨hp, hC⟩, ⟨hcn, hfn⟩, hB⟩ hlt
          have hnbV : nb < V.heap.size := by have := hB.size; omega
          have CV := Cn.out.belN hB HCnb.out
          obtain ⟨⟨c0, c1⟩, -, c4, ⟨c5, f5⟩, l0, -, l2, l3⟩ := CV.cells
          have hmore := fin_more n pre xx hp
          obtain ⟨pl, hpl⟩ : ∃ pl, pl = pre.length := ⟨_, rfl⟩
          rw [← hpl] at hcn hmore hlt hC
          obtain ⟨g, off, rfl, hgA, hgl, hcz⟩ := DRn.out.at_ (by omega)
          obtain ⟨y0, y1, y2⟩ := hcz pl hlt
          have hgn : g < nb := by have := HCnb.out; omega
          have y0 := (hB.cell (p := ⟨g, off + pl * 3, none⟩) hgn).trans y0
          have y1 := (hB.cell (p := ⟨g, off + pl * 3 + 1, none⟩) hgn).trans y1
          have y2 := (hB.cell (p := ⟨g, off + pl * 3 + 2, none⟩) hgn).trans y2
          have hgV : g < V.heap.size := Nat.lt_of_lt_of_le hgl hB.size
          obtain ⟨xi', hxi'⟩ : ∃ xi, xi = xx.val := ⟨_, rfl⟩
          rw [← hxi'] at hmore hXb
          have hxl : xi' < n := by rw [hxi']; exact xx.isLt
          have hne : xi' ≠ pl → rAt l xi' ≠ rAt l pl := rAt_ne HSrt.out (by have := HML.out; omega) (by have := HML.out; omega)
          obtain ⟨rx, hrx⟩ : ∃ r, r = rAt l xi' := ⟨_, rfl⟩
          obtain ⟨ry, hry⟩ : ∃ r, r = rAt l pl := ⟨_, rfl⟩
          have hsame : xi' = pl → rx = ry := fun e => by rw [hrx, hry, e]
          rw [← hrx, ← hry] at hne
          rw [← hrx] at hXb
          rw [← hry] at y0 y1 y2
          simp only [← hxi']
          simp only [← hrx]
          obtain ⟨xk, xi, xd⟩ := rx
          obtain ⟨yk, yi, yd⟩ := ry
          simp only at hXb y0 y1 y2
          have x0 := cell_blk hXb 0 _ rfl
          have x1 := cell_blk hXb 1 _ rfl
          have lX := blk_lt hXb
          have HMore := Lib.hid hmore
          have HBl := Lib.hid hB
          have HPL := Lib.hid hpl
          have HCC := Lib.hid hC
          have HNE := Lib.hid hne
          have HSM := Lib.hid hsame
          have HX3 := HCnb.out
          have hgt : decide ((n : Int) ≤ pl) = false := by simp; omega
          have hgt2 : decide (n ≤ pl) = false := by simp; omega
          have hlt2 : (pl : Int) < n := by omega
          have hn9 : n ≤ 8192 := hm
          have hw1 : IntKind.i64.wrap ((pl : Int) + 1) = (pl : Int) + 1 := by rw [IntKind.wrap_i64]; omega
          clear hmore hp hB hcz hpl hC hxi' hrx hry hne hsame CV hXb
          by_cases e1 : xi' = pl
          case neg =>
            have hdiff := HNE.out e1
            by_cases e2 : xd = yd
            · subst e2
              have d1 : (xd != xd) = false := by simp
              have d2 : tmEq xk xi yk yi = false := by
                unfold tmEq
                have : ¬ (xk = yk ∧ xi = yi) := fun h => hdiff (by rw [h.1, h.2])
                simpa using this
              clear hdiff
              gi_wp2
              refine wpIn_region_round (by kernel_rfl) (by kernel_rfl) (by kernel_rfl) ?_
              repeat (gi_big_quiet_step (fail))
              refine wpQuietIn_nil ?_
              rintro _ ⟨nq, rfl⟩
              gi_wp2
              exact ⟨(Stays.below (n₀ := 0) (Below.drewN' V nq)).setCell (p := ⟨w.heap.size + 1 + 1 + 1, 0, none⟩) (by show w.heap.size + 1 + 1 + 1 < _; omega) _, .inl ⟨rfl, fun h => e1 (HMore.out.1 h)⟩⟩
            · have d1 : (xd != yd) = true := by simpa using e2
              clear hdiff e2
              gi_wp2
              refine wpIn_region_round (by kernel_rfl) (by kernel_rfl) (by kernel_rfl) ?_
              repeat (gi_big_quiet_step (fail))
              refine wpQuietIn_nil ?_
              rintro _ ⟨nq, rfl⟩
              gi_wp2
              exact ⟨(Stays.below (n₀ := 0) (Below.drewN' V nq)).setCell (p := ⟨w.heap.size + 1 + 1 + 1, 0, none⟩) (by show w.heap.size + 1 + 1 + 1 < _; omega) _, .inl ⟨rfl, fun h => e1 (HMore.out.1 h)⟩⟩
          obtain ⟨rfl, rfl, rfl⟩ : xk = yk ∧ xi = yi ∧ xd = yd := by have := HSM.out e1; simp at this; exact this
          have d1 : (xd != xd) = false := by simp
          have d2 : tmEq xk xi xk xi = true := by unfold tmEq; simp
          by_cases hmy : many ≤ (pl : Int) + 1
          · have dm : decide (many ≤ (pl : Int) + 1) = true := by simpa using hmy
            have HM := Lib.hid hmy
            clear hmy
            gi_wp2
            refine wpIn_region_round (by kernel_rfl) (by kernel_rfl) (by kernel_rfl) ?_
            repeat (gi_big_quiet_step (fail))
            refine wpQuietIn_nil ?_
            rintro _ ⟨nq, rfl⟩
            gi_wp2
            exact ⟨(Stays.below (n₀ := 0) (Below.drewN' V nq)).setCell (p := ⟨nb, 0, none⟩) (by show nb < _; omega) _, Rxt.more (HMore.out.2 (by rw [e1, HPL.out])) (by rw [HPL.out]) HM.out (by have := HCC.out; have := HPL.out; omega) (by show (V.cell? _).isSome = true; rw [hcn]; rfl) hfn (HBl.out.trans ((Below.drewN' V nq).mono (by omega)))⟩
          · have dm : decide (many ≤ (pl : Int) + 1) = false := by simpa using hmy
            have HM := Lib.hid hmy
            clear hmy
            gi_wp2
            refine wpIn_region_round (by kernel_rfl) (by kernel_rfl) (by kernel_rfl) ?_
            repeat (gi_big_quiet_step (fail))
            refine wpQuietIn_nil ?_
            rintro _ ⟨nq, rfl⟩
            gi_wp2
            exact ⟨(Stays.below (n₀ := 0) (Below.drewN' V nq)).setCell (p := ⟨nb, 0, none⟩) (by show nb < _; omega) _, (show Below nb V (V.drewN nq) from (Below.drewN' V nq).mono (by omega)).setCell (p := ⟨nb, 0, none⟩) (Nat.le_refl _) _, Rnd.more (HMore.out.2 (by rw [e1, HPL.out])) (by rw [HPL.out]) (by have := HM.out; omega) (by show (V.cell? _).isSome = true; rw [hcn]; rfl) hfn (HBl.out.trans ((Below.drewN' V nq).mono (by omega)))⟩
      case restA =>
        rintro D0 W0 ⟨hD0, hKd0, ⟨q0, hgood, hcc⟩, hB0⟩
        dsimp only
        have CW := Lib.hid (Cn.out.belN hB0 HCnb.out)
        have HKd := Lib.hid hKd0
        obtain ⟨⟨c0, c1⟩, -, c4, ⟨c5, f5⟩, l0, -, l2, l3⟩ := CW.out.cells
        have hl0c : nb < W0.heap.size := by have := hB0.size; omega
        have hDw : w.heap.size ≤ D0 := by have := Cn.out.below.size; omega
        have hD0l := blk_lt hKd0
        obtain ⟨n', hn'⟩ : ∃ n', n' = n := ⟨_, rfl⟩
        rw [← hn'] at c0 hgood
        clear Cn N0 NF SQn DRn HRW HKB HBn hB0 hKd0
        have key : (many < 1 ∧ (n' < 1 ∧ q0 = 0 ∨ 1 < n' ∧ q0 = 1 ∨ n' = 1 ∧ q0 = 1)) ∨ (many = 1 ∧ (n' < 1 ∧ q0 = 0 ∨ 1 < n' ∧ q0 = 1 ∨ n' = 1 ∧ q0 = 1)) ∨ (1 < many ∧ ((n' : Int) < many ∧ q0 = n' ∨ many < (n' : Int) ∧ (q0 : Int) = many ∨ (n' : Int) = many ∧ q0 = n')) := by omega
        clear hgood
        have hn1 : n' ≤ 1048576 := by omega
        clear hn'
        rcases key with ⟨k1, ⟨k2, rfl⟩ | ⟨k2, rfl⟩ | ⟨rfl, rfl⟩⟩ | ⟨rfl, ⟨k2, rfl⟩ | ⟨k2, rfl⟩ | ⟨rfl, rfl⟩⟩ | ⟨k1, ⟨k2, rfl⟩ | ⟨k2, k3⟩ | ⟨k2, rfl⟩⟩
        · obtain rfl : n' = 0 := by omega
          go_wp2_with fail
          have hk1 := (KeepsOthers.setCell W0 ⟨w.heap.size + 1 + 1 + 1, 0, none⟩ (.bool true)).same D0 _ HKd.out rfl
          have hc6 := cell_kept (World.cell?_setCell_same' W0 ⟨w.heap.size + 1 + 1 + 1, 0, none⟩ (.bool true) (by rw [c5]; rfl)) (grownBy_putObj' _ D0 (.deferred none)) (fun r e => by cases e; exact ⟨_, hk1, rfl⟩)
          refine ⟨by simp, .inl ⟨_, _, rfl, run_takeDeferred hk1, ?_⟩⟩
          refine ⟨.bool true, ?_, rfl, (CW.out.below.setCell (p := ⟨w.heap.size + 1 + 1 + 1, 0, none⟩) (by show w.heap.size ≤ w.heap.size + 1 + 1 + 1; omega) _).trans (below_put (by omega))⟩
          simp [results, Try.f16, go_sem, hc6]
        · have k3 : (1 : Int) < n' := by omega
          go_wp2_with fail
          have hk1 := (KeepsOthers.setCell W0 ⟨w.heap.size + 1 + 1 + 1, 0, none⟩ (.bool true)).same D0 _ HKd.out rfl
          have hc6 := cell_kept (World.cell?_setCell_same' W0 ⟨w.heap.size + 1 + 1 + 1, 0, none⟩ (.bool true) (by rw [c5]; rfl)) (grownBy_putObj' _ D0 (.deferred none)) (fun r e => by cases e; exact ⟨_, hk1, rfl⟩)
          refine ⟨by simp, .inl ⟨_, _, rfl, run_takeDeferred hk1, ?_⟩⟩
          refine ⟨.bool true, ?_, rfl, (CW.out.below.setCell (p := ⟨w.heap.size + 1 + 1 + 1, 0, none⟩) (by show w.heap.size ≤ w.heap.size + 1 + 1 + 1; omega) _).trans (below_put (by omega))⟩
          simp [results, Try.f16, go_sem, hc6]
        · go_wp2_with fail
          have hk1 := (KeepsOthers.setCell W0 ⟨w.heap.size + 1 + 1 + 1, 0, none⟩ (.bool true)).same D0 _ HKd.out rfl
          have hc6 := cell_kept (World.cell?_setCell_same' W0 ⟨w.heap.size + 1 + 1 + 1, 0, none⟩ (.bool true) (by rw [c5]; rfl)) (grownBy_putObj' _ D0 (.deferred none)) (fun r e => by cases e; exact ⟨_, hk1, rfl⟩)
          refine ⟨by simp, .inl ⟨_, _, rfl, run_takeDeferred hk1, ?_⟩⟩
          refine ⟨.bool true, ?_, rfl, (CW.out.below.setCell (p := ⟨w.heap.size + 1 + 1 + 1, 0, none⟩) (by show w.heap.size ≤ w.heap.size + 1 + 1 + 1; omega) _).trans (below_put (by omega))⟩
          simp [results, Try.f16, go_sem, hc6]
        · obtain rfl : n' = 0 := by omega
          go_wp2_with fail
          have hk1 := (KeepsOthers.setCell W0 ⟨w.heap.size + 1 + 1 + 1, 0, none⟩ (.bool true)).same D0 _ HKd.out rfl
          have hc6 := cell_kept (World.cell?_setCell_same' W0 ⟨w.heap.size + 1 + 1 + 1, 0, none⟩ (.bool true) (by rw [c5]; rfl)) (grownBy_putObj' _ D0 (.deferred none)) (fun r e => by cases e; exact ⟨_, hk1, rfl⟩)
          refine ⟨by simp, .inl ⟨_, _, rfl, run_takeDeferred hk1, ?_⟩⟩
          refine ⟨.bool true, ?_, rfl, (CW.out.below.setCell (p := ⟨w.heap.size + 1 + 1 + 1, 0, none⟩) (by show w.heap.size ≤ w.heap.size + 1 + 1 + 1; omega) _).trans (below_put (by omega))⟩
          simp [results, Try.f16, go_sem, hc6]
        · have k3 : (1 : Int) < n' := by omega
          go_wp2_with fail
          have hk1 := (KeepsOthers.setCell W0 ⟨w.heap.size + 1 + 1 + 1, 0, none⟩ (.bool true)).same D0 _ HKd.out rfl
          have hc6 := cell_kept (World.cell?_setCell_same' W0 ⟨w.heap.size + 1 + 1 + 1, 0, none⟩ (.bool true) (by rw [c5]; rfl)) (grownBy_putObj' _ D0 (.deferred none)) (fun r e => by cases e; exact ⟨_, hk1, rfl⟩)
          refine ⟨by simp, .inl ⟨_, _, rfl, run_takeDeferred hk1, ?_⟩⟩
          refine ⟨.bool true, ?_, rfl, (CW.out.below.setCell (p := ⟨w.heap.size + 1 + 1 + 1, 0, none⟩) (by show w.heap.size ≤ w.heap.size + 1 + 1 + 1; omega) _).trans (below_put (by omega))⟩
          simp [results, Try.f16, go_sem, hc6]
        · go_wp2_with fail
          have hk1 := (KeepsOthers.setCell W0 ⟨w.heap.size + 1 + 1 + 1, 0, none⟩ (.bool true)).same D0 _ HKd.out rfl
          have hc6 := cell_kept (World.cell?_setCell_same' W0 ⟨w.heap.size + 1 + 1 + 1, 0, none⟩ (.bool true) (by rw [c5]; rfl)) (grownBy_putObj' _ D0 (.deferred none)) (fun r e => by cases e; exact ⟨_, hk1, rfl⟩)
          refine ⟨by simp, .inl ⟨_, _, rfl, run_takeDeferred hk1, ?_⟩⟩
          refine ⟨.bool true, ?_, rfl, (CW.out.below.setCell (p := ⟨w.heap.size + 1 + 1 + 1, 0, none⟩) (by show w.heap.size ≤ w.heap.size + 1 + 1 + 1; omega) _).trans (below_put (by omega))⟩
          simp [results, Try.f16, go_sem, hc6]
        · go_wp2_with fail
          have hk1 := (KeepsOthers.setCell W0 ⟨w.heap.size + 1 + 1 + 1, 0, none⟩ (.bool true)).same D0 _ HKd.out rfl
          have hc6 := cell_kept (World.cell?_setCell_same' W0 ⟨w.heap.size + 1 + 1 + 1, 0, none⟩ (.bool true) (by rw [c5]; rfl)) (grownBy_putObj' _ D0 (.deferred none)) (fun r e => by cases e; exact ⟨_, hk1, rfl⟩)
          refine ⟨by simp, .inl ⟨_, _, rfl, run_takeDeferred hk1, ?_⟩⟩
          refine ⟨.bool true, ?_, rfl, (CW.out.below.setCell (p := ⟨w.heap.size + 1 + 1 + 1, 0, none⟩) (by show w.heap.size ≤ w.heap.size + 1 + 1 + 1; omega) _).trans (below_put (by omega))⟩
          simp [results, Try.f16, go_sem, hc6]
        · obtain rfl : many = (q0 : Int) := k3.symm
          go_wp2_with fail
          have hk1 := (KeepsOthers.setCell W0 ⟨w.heap.size + 1 + 1 + 1, 0, none⟩ (.bool true)).same D0 _ HKd.out rfl
          have hc6 := cell_kept (World.cell?_setCell_same' W0 ⟨w.heap.size + 1 + 1 + 1, 0, none⟩ (.bool true) (by rw [c5]; rfl)) (grownBy_putObj' _ D0 (.deferred none)) (fun r e => by cases e; exact ⟨_, hk1, rfl⟩)
          refine ⟨by simp, .inl ⟨_, _, rfl, run_takeDeferred hk1, ?_⟩⟩
          refine ⟨.bool true, ?_, rfl, (CW.out.below.setCell (p := ⟨w.heap.size + 1 + 1 + 1, 0, none⟩) (by show w.heap.size ≤ w.heap.size + 1 + 1 + 1; omega) _).trans (below_put (by omega))⟩
          simp [results, Try.f16, go_sem, hc6]
        · obtain rfl : many = (q0 : Int) := k2.symm
          go_wp2_with fail
          have hk1 := (KeepsOthers.setCell W0 ⟨w.heap.size + 1 + 1 + 1, 0, none⟩ (.bool true)).same D0 _ HKd.out rfl
          have hc6 := cell_kept (World.cell?_setCell_same' W0 ⟨w.heap.size + 1 + 1 + 1, 0, none⟩ (.bool true) (by rw [c5]; rfl)) (grownBy_putObj' _ D0 (.deferred none)) (fun r e => by cases e; exact ⟨_, hk1, rfl⟩)
          refine ⟨by simp, .inl ⟨_, _, rfl, run_takeDeferred hk1, ?_⟩⟩
          refine ⟨.bool true, ?_, rfl, (CW.out.below.setCell (p := ⟨w.heap.size + 1 + 1 + 1, 0, none⟩) (by show w.heap.size ≤ w.heap.size + 1 + 1 + 1; omega) _).trans (below_put (by omega))⟩
          simp [results, Try.f16, go_sem, hc6]
end Go.Proofs.Ytnmbhcekcdicnaa
