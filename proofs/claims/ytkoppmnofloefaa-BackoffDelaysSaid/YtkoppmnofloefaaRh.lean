/-
  BackoffDelays, walked: a wait that may be.
-/
import Derived.Test.YtkoppmnofloefaaRg
namespace Go.Proofs.Ytkoppmnofloefaa
open Go.RowKit Go.Shelf
set_option linter.unusedVariables false
set_option linter.unusedSimpArgs false
attribute [local go_sem] Oper.semAt_some
attribute [local go_sem] run_eql_func52

theorem Drs.cells {w : World} {ao : Option Addr} {n : Nat} {zs : List Int} (h : Drs w ao n zs) : ∀ ad, ao = some ad → ∀ j u, ((zs.take n).map fun z => Value.int .u64 z)[j]? = some u → w.cell? (ad.add j) = some u := by
  rintro ad rfl j u hj
  by_cases hn : 0 < n
  · obtain ⟨b, off, e, hb, hc⟩ := h.2 hn
    cases e
    have hj1 := (List.getElem?_eq_some_iff.1 hj).1
    have hj' : j < n := by
      rw [List.length_map, List.length_take] at hj1
      omega
    have hz : zs[j]? = some (zs.getD j 0) := by
      have : j < zs.length := by have := h.1; omega
      simp [List.getD, this]
    rw [List.getElem?_map, List.getElem?_take, if_pos hj', hz] at hj
    cases hj
    rw [show (⟨b, off, none⟩ : Addr).add j = ⟨b, off + j, none⟩ from WideShapes.add_plain b off j]
    exact (hc j hj').1
  · have : n = 0 := by omega
    subst this
    simp at hj

/-- A cut around a range over a function: the mark is told. -/
theorem wp_range_cut {P : Program} {c : Code} {K : Act → World → Prop} {Q' : Exit → Act → World → Prop} {a : Act} {w : World} (R : Nat → World → Prop)
    (first : c.wp P (fun e a' W => e = .normal ∧ ∃ D, a' = { a with defers := { target := .collected D, args := #[] } :: a.defers } ∧ R D W) a w)
    (rest : ∀ D W, R D W → K { a with defers := { target := .collected D, args := #[] } :: a.defers } W) : c.wp P (Exit.then K Q') a w :=
  wp_mono first (fun e a' W h => by obtain ⟨rfl, D, rfl, hr⟩ := h; exact rest D W hr)
theorem upto_of_prefix {α : Type} (f : Nat → α) (n : Nat) (l : List α) (h : l <+: upto f n) : l = upto f l.length := by
  have hl : l.length ≤ n := by have := h.length_le; rwa [upto_length] at this
  have h1 := List.prefix_iff_eq_take.1 h
  have h2 := List.prefix_iff_eq_take.1 (upto_prefix f hl)
  rw [upto_length] at h2
  rw [h2]
  exact h1
theorem upto_more {α : Type} (f : Nat → α) (n : Nat) (l : List α) (x : α) (h : l <+: upto f n) (hl : l.length < n) : (l ++ [x] <+: upto f n) ↔ x = f l.length := by
  have e := upto_of_prefix f n l h
  constructor
  · intro h2
    have e2 := upto_of_prefix f n _ h2
    rw [List.length_append, List.length_singleton, upto_succ, ← e] at e2
    simpa using e2
  · rintro rfl
    have : l ++ [f l.length] = upto f (l.length + 1) := by rw [upto_succ, ← e]
    rw [this]
    exact upto_prefix f hl

theorem alloc_other {W : World} {D : Nat} {x : Obj} (h : W.heap[D]? = some x) (o : Obj) : (W.alloc o).heap[D]? = some x :=
  (Below.heap_alloc W o D (Array.getElem?_eq_some_iff.1 h).1).trans h

theorem row_drs {w : World} {b0 : Nat} {ga : Option Addr} {m gcap : Nat} {ds : List Int} (h : w.ownsRow b0 22 1 (.slice ga m gcap) m ((ds.take m).map fun z => Value.int .u64 z)) (hl : m ≤ ds.length) (h0 : ∀ j, j < m → 0 ≤ ds.getD j 0) : Drs w ga m ds := by
  refine ⟨hl, fun hp => ?_⟩
  obtain ⟨g, cap', cur, e, hb, hg, _⟩ := row_some h hp
  cases e
  refine ⟨g, 0, rfl, (Array.getElem?_eq_some_iff.1 hg).1, fun j hj => ⟨?_, h0 j hj⟩⟩
  rw [Nat.zero_add, h.cellAt j (by omega), List.getElem?_map, List.getElem?_take, if_pos hj]
  have : j < ds.length := by omega
  simp [List.getD, this]

set_option maxHeartbeats 6400000 in
set_option maxRecDepth 100000 in
theorem delays_in (L M J many what d : Int) (ao : Option Addr) (n cap : Nat) (zs : List (Int × Int)) (bo : Option Addr) (m bcap : Nat) (ds : List Int) (w : World) (hn : n ≤ 80) (hm : m ≤ 70) (ho : okW L M J = true) (hJ : 0 ≤ J) (hd : 0 ≤ d) (ha : Acts w ao n zs) (hds : Drs w bo m ds) (hbo : bo = none → m = 0 ∧ bcap = 0) :
    Calls Try.prog 6 (dargs L M J many what d ao n cap bo m bcap) w (Yes w) := by
  obtain ⟨i0, hi0, hz0, hz1, hz2⟩ := info_parts Try.info22
  unfold dargs
  have HNum := Lib.hid num_any
  have HW := Lib.hid works_true
  have HC0 := Lib.hid (Cm.start w L M J many what d)
  have HRt := Lib.hid (refRight L M J)
  have t1 : decide (80 < n) = false := by simp; omega
  have t2 : decide ((80 : Int) < n) = false := by simp; omega
  have t3 : decide (70 < m) = false := by simp; omega
  have t4 : decide ((70 : Int) < m) = false := by simp; omega
  have HA := Lib.hid ha
  have HDS := Lib.hid hds
  have HBO := Lib.hid hbo
  unfold cmStart at HC0
  clear ha hds hbo
  refine (callsIn_wide (n := 5)).1 ?_
  refine callsIn_of_wp_marks Try.func6 rfl trivial ?_ rfl
  simp only [Try.ntmps6, List.size_toArray, List.length_cons, List.length_nil, Nat.reduceAdd, Nat.reduceSub, Array.replicate_succ, Array.replicate_zero, List.push_toArray, List.append_toArray, List.nil_append, List.cons_append]
  refine wpIn_wide.2 ?_
  go_wp2_with fail
  refine (HRt.out _).mono ?_
  rintro e w2 ⟨rfl, hb⟩
  have A2 := Lib.hid (HC0.out.bel hb)
  clear hb HC0 HRt
  obtain ⟨⟨c0, c1, c2⟩, c3, ⟨c4, c5⟩, c6, f6⟩ := A2.out.cells
  have HN := Lib.hid (new_ok L M J w2 ho hJ)
  rw [ho]
  go_wp2_with fail
  refine HN.out.mono ?_
  rintro e w3 ⟨p, hp, rfl, hr, hb⟩
  have hpw : w.heap.size + 4 ≤ p := by have := A2.out.lt; omega
  have R3 := Lib.hid hr
  have A3 := Lib.hid (A2.out.bel hb)
  clear hr hb hp A2 HN c0 c1 c2 c3 c4 c5 c6 f6
  obtain ⟨⟨c0, c1, c2⟩, c3, ⟨c4, c5⟩, c6, f6⟩ := A3.out.cells
  have HR := Lib.hid (refNew L M J w3 ho)
  go_wp2_with fail
  refine HR.out.mono ?_
  rintro e w4 ⟨rfl, hb⟩
  have hbA := (Below.refl _ w4).alloc (Nat.le_refl _) (.cells #[.int .u64 L, .int .u64 M, .int .u64 J, .int .u64 L, .int .i64 0] 37)
  have A4 := Lib.hid ((A3.out.bel hb).bel hbA)
  have R4 := Lib.hid ((R3.out.below hb).below hbA)
  have K4 := Lib.hid (alloc_blk_new w4 (.cells #[.int .u64 L, .int .u64 M, .int .u64 J, .int .u64 L, .int .i64 0] 37))
  have hpb : p < w4.heap.size := Nat.lt_of_lt_of_le R3.out.lt hb.size
  obtain ⟨q, hq⟩ : ∃ q, q = w4.heap.size := ⟨_, rfl⟩
  have HQ := Lib.hid hq
  clear hb hbA HR A3 R3 c0 c1 c2 c3 c4 c5 c6 f6 hq
  go_wp2_with fail
  rw [← HQ.out] at K4 hpb ⊢
  go_loopg [11, 15] n (fun gk v11 v15 wr => ∃ i : Nat, ∃ pi : Nat, ∃ base : Int, ∃ k : Nat, v11 = .pointer (some ⟨pi, 0, none⟩) ∧ v15 = .int .i64 i ∧ i ≤ n ∧ gk = n - i ∧ w.heap.size + 4 ≤ pi ∧ pi ≠ q ∧ w.heap.size + 4 ≤ q ∧ Bo wr pi L M J base k ∧ Cm w L M J many what d wr ∧ wr.heap[q]? = some (.cells #[.int .u64 L, .int .u64 M, .int .u64 J, .int .u64 base, .int .i64 k] 37 (0, 0)))
  case atStart => exact ⟨0, p, L, 0, rfl, rfl, by omega, rfl, by omega, by omega, by omega, R4.out, A4.out, K4.out⟩
  case round =>
    obtain ⟨i, pi, base, k, rfl, rfl, hin, hgk, g1, g2, g3, hr, hA, hK⟩ := hrel
    have HG := Lib.hid hgk
    have R := Lib.hid hr
    have A := Lib.hid hA
    have K := Lib.hid hK
    clear hgk hr hA hK A4 R4 K4
    by_cases hlt : i < n
    · obtain ⟨b, off, rfl, hbw, hcz⟩ := HA.out.2 (by omega)
      obtain ⟨wh, hwh⟩ : ∃ x, x = (zs.getD i (0, 0)).1 := ⟨_, rfl⟩
      obtain ⟨dd, hdd⟩ : ∃ x, x = (zs.getD i (0, 0)).2 := ⟨_, rfl⟩
      obtain ⟨z1, z2, z3⟩ := hcz i hlt
      rw [← hwh] at z1
      rw [← hdd] at z2 z3
      have y1 := (A.out.below.cell (p := ⟨b, off + i * 2, none⟩) hbw).trans z1
      have y2 := (A.out.below.cell (p := ⟨b, off + i * 2 + 1, none⟩) hbw).trans z2
      obtain ⟨l0, l1, l2, l3, l4, f0, f1, f2, f3, f4⟩ := five K.out
      have hlq := blk_lt K.out
      have hsz := A.out.lt
      have hpi := R.out.lt
      have hbr : b < wr.heap.size := by omega
      have HAct := Lib.hid (act_any pi L M J base dd wh k wr.drew (R.out.drewN 1) z3)
      clear hcz z1 z2 z3 hwh hdd
      go_upto_region 8 with fail
      refine wp_region_noPanic ?_
      go_region_with (go_at_call 15; refine HAct.out.mono ?_; rintro e w5 ⟨b', k', p', rfl, hr5, hm5, hp5⟩; have tt := (hm5.block q hlq (by show ¬ q = pi; omega)).trans K.out; obtain ⟨m0, m1, m2, m3, m4, n0, n1, n2, n3, n4⟩ := five tt; have TT := Lib.hid tt; have R5 := Lib.hid hr5; have M5 := Lib.hid hm5; have P5 := Lib.hid hp5; clear hr5 hm5 hp5 tt)
      all_goals
        refine NoPanic.normal ?_
        go_wp2_with fail
        obtain ⟨s1, s2⟩ := set5 TT.out (.int .u64 L) (.int .u64 M) (.int .u64 J) (.int .u64 b') (.int .i64 k')
        have P6 : p' = pi ∨ wr.heap.size ≤ p' := P5.out
        have hA5 := A.out.mod (S := fun q => q = pi) (W' := w5) ⟨M5.out.os, M5.out.tape, M5.out.output, M5.out.size, fun k hk hn => M5.out.block k hk hn⟩ (fun k hk e => by omega)
        go_roundg (n - (i + 1))
        case measure => have := HG.out; omega
        case rel => exact ⟨i + 1, p', b', k', rfl, by go_num, by omega, rfl, by omega, by omega, g3, R5.out.mod s2 (by show ¬ p' = q; omega), hA5.mod s2 (fun k hk e => by omega), s1⟩
    · obtain rfl : i = n := by omega
      have hlw := R.out.lt
      have hlq := blk_lt K.out
      have hlA := A.out.lt
      have HNm := Lib.hid (And.intro R.out.l1 (And.intro R.out.bl (And.intro R.out.bm (And.intro R.out.m2 (And.intro R.out.j0 (And.intro R.out.j2 R.out.k2))))))
      have hbw : Below w.heap.size w wr := A.out.below
      have HDW := Lib.hid ((HDS.out.below hbw).below ((Below.refl _ wr).alloc (Nat.le_refl _) (.cells #[] 22)))
      have HRW : Hid ((wr.alloc (.cells #[] 22)).ownsRow wr.heap.size 22 1 (.slice (some ⟨wr.heap.size, 0, none⟩) 0 0) 0 []) := Lib.hid (World.ownsRow_lit wr #[] 0 (Nat.le_refl _) (by simp) rfl)
      have HBW := Lib.hid hbw
      have hls : wr.heap.size ≤ (wr.alloc (.cells #[] 22)).heap.size := by simp
      have HLS := Lib.hid hls
      clear hbw hls
      go_upto_region 9 with fail
      go_wp2_with (at_builtin; refine wpList_append_f _ rfl (.tmp 65) (.tmp 66) 25 rfl wr.heap.size 22 i0 (.int .u64 0) 1 8 Try.underlying25 hi0 hz0 hz1 hz2 rfl (by decide) _ _ _ rfl HRW.out bo m bcap ((ds.take m).map fun z => Value.int .u64 z) rfl ?c0 HBO.out HDW.out.cells ?c2 ?c3 ?c4 HLS.out ?_)
      case c0 => have := HDS.out.1; simp; omega
      case c2 => intro u hu; obtain ⟨z, _, rfl⟩ := List.mem_map.1 hu; rfl
      case c3 => unfold maxLen; omega
      case c4 => omega
      intro v' w5 hown hg hf _
      have hg2 : (wr.alloc (.cells #[] 22)).grownBy w5 (some wr.heap.size) := hg
      have hb5 : Below wr.heap.size wr w5 := ((Below.refl _ wr).alloc (Nat.le_refl _) (.cells #[] 22)).grown hg2 HLS.out (fun k e => by cases e; exact Nat.le_refl _)
      obtain ⟨ga, gcap, rfl⟩ := row_slice hown
      have hown2 : w5.ownsRow wr.heap.size 22 1 (.slice ga m gcap) m ((ds.take m).map fun z => Value.int .u64 z) := by simpa using hown
      have hdr := row_drs hown2 HDS.out.1 (fun j hj => by
        obtain ⟨b, off, _, _, hc⟩ := HDS.out.2 (by omega)
        exact (hc j hj).2)
      have R5 := Lib.hid (R.out.below hb5)
      have A5 := Lib.hid (A.out.bel hb5)
      have K5 := Lib.hid ((hb5.block q hlq).trans K.out)
      have G5 := Lib.hid hown2
      have HDel := Lib.hid (Delays_bo pi L M J base k ga m gcap ds w5 R5.out hdr hm)
      have hs5 : wr.heap.size ≤ w5.heap.size := hb5.size
      clear hown hg hf hg2 hb5 hown2 hdr R A K HDW HRW HBW HLS HG
      go_wp2_with (go_at_call 20; fail)
      refine HDel.out.mono ?_
      rintro e w6 ⟨sa, scap, rfl, hsc, hsd, hsl, hb6⟩
      obtain ⟨Bq, hBq⟩ : ∃ B, B = w5.heap.size := ⟨_, rfl⟩
      rw [← hBq] at hsc hsd hsl ⊢
      have R6 := Lib.hid (R5.out.below hb6)
      have A6 := Lib.hid (A5.out.bel hb6)
      have K6 := Lib.hid ((hb6.block q (blk_lt K5.out)).trans K5.out)
      have G6 := Lib.hid (Mod.row (Mod.of_below hb6 (fun _ => False)) G5.out (fun _ _ h => h))
      have hBq2 : wr.heap.size ≤ Bq := by omega
      have HGK : Hid (∀ x, (Value.slice ga m gcap).ownBlock = some x → wr.heap.size ≤ x ∧ x < Bq) := Lib.hid (fun x hx => ⟨(G5.out.lt x hx).1, by rw [hBq]; exact (G5.out.lt x hx).2⟩)
      have SC6 := Lib.hid hsc
      have SD6 := Lib.hid hsd
      have HIs := Lib.hid (is_bo pi L M J base k w6 R6.out)
      have hs6 := hb6.size
      have hlq6 := blk_lt K6.out
      obtain ⟨l0, l1, l2, l3, l4, f0, f1, f2, f3, f4⟩ := five K6.out
      clear hsc hsd hb6 HDel R5 A5 K5 G5 hBq
      go_wp2_with (first | (go_at_call 11; refine (HNum.out _ _).mono ?_; rintro e w' ⟨rfl, rfl⟩) | (go_at_call 16; fail))
      refine HIs.out.mono ?_
      rintro e w7 ⟨rfl, hb7⟩
      have R7 := Lib.hid (R6.out.below hb7)
      have A7 := Lib.hid (A6.out.bel hb7)
      have K7 := Lib.hid ((hb7.block q (blk_lt K6.out)).trans K6.out)
      have G7 := Lib.hid (Mod.row (Mod.of_below hb7 (fun _ => False)) G6.out (fun _ _ h => h))
      have SC7 := Lib.hid ((hb7.cell (p := ⟨Bq, 0, none⟩) hsl).trans SC6.out)
      have SD7 := Lib.hid (SD6.out.below hb7)
      have hs7 := hb7.size
      have hsl7 : Bq < w7.heap.size := by omega
      clear hb7 HIs R6 A6 K6 G6 SC6 SD6 l0 l1 l2 l3 l4 f0 f1 f2 f3 f4
      obtain ⟨l0, l1, l2, l3, l4, f0, f1, f2, f3, f4⟩ := five K7.out
      obtain ⟨⟨c0, c1, c2⟩, c3, ⟨c4, c5⟩, c6, f6⟩ := A7.out.cells
      have HAct := Lib.hid (act_any pi L M J base d what k w7 R7.out hd)
      go_wp2_with (go_at_call 15; fail)
      refine HAct.out.mono ?_
      rintro e w8 ⟨b', k', p', rfl, _, hm8, _⟩
      have hs8 := hm8.size
      have hlq7 := blk_lt K7.out
      have A8 := Lib.hid (A7.out.mod hm8 (fun k hk e => by omega))
      have K8 := Lib.hid ((hm8.block q hlq7 (by show ¬ q = pi; omega)).trans K7.out)
      have G8 := Lib.hid (Mod.row hm8 G7.out (fun k hk e => by have := (G7.out.lt k hk).1; omega))
      have SC8 := Lib.hid ((hm8.cell (p := ⟨Bq, 0, none⟩) hsl7 (by show ¬ Bq = pi; omega)).trans SC7.out)
      have SD8 : Hid (IsD w8 Bq sa m (dly M J base k ds)) := Lib.hid (fun hp => by
        obtain ⟨g, e, h1, hl, hc⟩ := SD7.out hp
        exact ⟨g, e, h1, by omega, fun j hj => (hm8.cell (p := ⟨g, 0 + j, none⟩) hl (by show ¬ g = pi; omega)).trans (hc j hj)⟩)
      clear hm8 HAct R7 A7 K7 G7 SC7 SD7 l0 l1 l2 l3 l4 f0 f1 f2 f3 f4 c0 c1 c2 c3 c4 c5 c6 f6
      go_wp2_with fail
      obtain ⟨N0, hN0⟩ : ∃ N, N = wr.heap.size := ⟨_, rfl⟩
      rw [← hN0] at G8 hBq2 hlA hlq hlw HGK
      have hN5 : N0 ≤ w5.heap.size := by omega
      clear hN0 hs5
      go_loopg [18] m (fun gk v18 wx => ∃ j : Nat, v18 = .int .i64 j ∧ j ≤ m ∧ gk = m - j ∧ (∃ ys : List Int, ys.length = m ∧ wx.ownsRow N0 22 1 (.slice ga m gcap) m (ys.map fun z => Value.int .u64 z)) ∧ Mod (fun x => (Value.slice ga m gcap).ownBlock = some x) w8 wx)
      case atStart => exact ⟨0, rfl, by omega, rfl, ⟨ds.take m, by have := HDS.out.1; simp; omega, G8.out⟩, Mod.refl _ _⟩
      case round =>
        obtain ⟨j, rfl, hjm, hgk2, ⟨ys, hyl, hrow⟩, hmod⟩ := hrel
        have HG2 := Lib.hid hgk2
        have HROW := Lib.hid hrow
        have HMOD := Lib.hid hmod
        clear hgk2 hrow hmod
        by_cases hjl : j < m
        · obtain ⟨g, cap', cur, e, hgb, hgg, _⟩ := row_some HROW.out (by omega)
          cases e
          obtain ⟨y, hy⟩ : ∃ y, ys[j]? = some y := ⟨ys[j], by simp [show j < ys.length by omega]⟩
          have hcj : wr.cell? ⟨g, j, none⟩ = some (.int .u64 y) := by rw [HROW.out.cellAt j (by omega), List.getElem?_map, hy]; rfl
          have hfj := HROW.out.frozenAt j
          have hjl2 : (j : Int) < m := by omega
          have HGB := Lib.hid hgb
          clear hgg hgb hy
          go_wp2_with fail
          obtain ⟨y', hy'⟩ : ∃ y', y' = IntKind.u64.wrap (y + 1) := ⟨_, rfl⟩
          rw [← hy']
          have hst := HROW.out.stored j (.int .u64 y')
          have hst1 : (wr.setCell ⟨g, j, none⟩ (.int .u64 y')).ownsRow N0 22 1 (.slice (some ⟨g, 0, none⟩) m gcap) m ((ys.set j y').map fun z => Value.int .u64 z) := by rw [List.map_set]; exact hst.1
          have hm2 := HMOD.out.setCell ⟨g, j, none⟩ (.inl rfl) (.int .u64 y')
          go_roundg (m - (j + 1))
          case measure => have := HG2.out; omega
          case rel => exact ⟨j + 1, by go_num, by omega, rfl, ⟨ys.set j y', by simpa using hyl, hst1⟩, hm2⟩
        · obtain rfl : m = j := by omega
          have hNg : ∀ x, (Value.slice ga m gcap).ownBlock = some x → N0 ≤ x ∧ x < Bq := HGK.out
          have A9 := Lib.hid (A8.out.mod HMOD.out (fun k hk e => by have := (hNg k e).1; omega))
          have hq8 := blk_lt K8.out
          have K9 := Lib.hid ((HMOD.out.block q hq8 (fun e => by have := (hNg q e).1; omega)).trans K8.out)
          have SC9 := Lib.hid ((HMOD.out.cell (p := ⟨Bq, 0, none⟩) (World.block_lt_of_cell? w8 _ SC8.out) (fun e => by have := (hNg Bq e).2; omega)).trans SC8.out)
          have SD9 : Hid (IsD wr Bq sa m (dly M J base k ds)) := Lib.hid (fun hp => by
            obtain ⟨g, e, h1, hl, hc⟩ := SD8.out hp
            exact ⟨g, e, h1, by have := HMOD.out.size; omega, fun j hj => (HMOD.out.cell (p := ⟨g, 0 + j, none⟩) hl (fun e => by have := (hNg g e).2; omega)).trans (hc j hj)⟩)
          have hlt9 := World.block_lt_of_cell? wr _ SC9.out
          obtain ⟨x1, x2, x3, x4, x5, x6, x7⟩ := HNm.out
          have HRD := Lib.hid (refDelays L M J base k bo m bcap ds wr (by omega) x3 x4 x5 x6 x7 (HDS.out.below A9.out.below) hm)
          obtain ⟨l0, l1, l2, l3, l4, f0, f1, f2, f3, f4⟩ := five K9.out
          clear A8 K8 SC8 SD8 G8 HROW HMOD HG2 HGK hNg hq8 x1 x2 x3 x4 x5 x6 x7 HNm
          go_wp2_with (go_at_call 21; fail)
          refine HRD.out.mono ?_
          rintro e w10 ⟨av, rfl, hown, hb10⟩
          obtain ⟨aa, acap, rfl, haD⟩ := row_isD hown
          have A10 := Lib.hid (A9.out.bel hb10)
          have SC10 := Lib.hid ((hb10.cell (p := ⟨Bq, 0, none⟩) hlt9).trans SC9.out)
          have SD10 := Lib.hid (SD9.out.below hb10)
          have AD10 : Hid (IsD w10 0 aa m (dly M J base k ds)) := Lib.hid (fun hp => by
            obtain ⟨g, e, h1, hl, hc⟩ := haD hp
            exact ⟨g, e, Nat.zero_le _, hl, hc⟩)
          have hlt10 : Bq < w10.heap.size := Nat.lt_of_lt_of_le hlt9 hb10.size
          clear hown hb10 haD A9 K9 SC9 SD9 HRD l0 l1 l2 l3 l4 f0 f1 f2 f3 f4 hlt9
          go_upto_region 19 with fail
          have hbA := (Below.refl _ w10).alloc (Nat.le_refl _) (.cells #[.slice aa m acap] 25)
          obtain ⟨ab, hab⟩ : ∃ B, B = w10.heap.size := ⟨_, rfl⟩
          obtain ⟨w11, hw11⟩ : ∃ W, W = w10.alloc (.cells #[.slice aa m acap] 25) := ⟨_, rfl⟩
          have hkA := alloc_blk_new w10 (.cells #[.slice aa m acap] 25)
          rw [← hab, ← hw11] at hkA
          rw [← hw11] at hbA
          rw [← hab, ← hw11]
          have A11 := Lib.hid (A10.out.bel hbA)
          have SC11 := Lib.hid ((hbA.cell (p := ⟨Bq, 0, none⟩) hlt10).trans SC10.out)
          have SD11 := Lib.hid (SD10.out.below hbA)
          have AD11 := Lib.hid (AD10.out.below hbA)
          have AB11 := Lib.hid (cell_blk hkA 0 (.slice aa m acap) rfl)
          have hablt := blk_lt hkA
          have hlt11 : Bq < ab := by omega
          have hab4 : w.heap.size + 3 < ab := by have := A10.out.lt; omega
          have AG11 : Hid (0 < m → ∃ g, aa = some ⟨g, 0, none⟩ ∧ g < ab ∧ ∀ j, j < m → w11.cell? ⟨g, 0 + j, none⟩ = some (.int .u64 (dly M J base k ds j))) := Lib.hid (fun hp => by
            obtain ⟨g, e, _, hl, hc⟩ := AD10.out hp
            exact ⟨g, e, by omega, fun j hj => (hbA.cell (p := ⟨g, 0 + j, none⟩) hl).trans (hc j hj)⟩)
          have SDL : Hid (0 < m → ∃ g, sa = some ⟨g, 0, none⟩ ∧ Bq ≤ g ∧ g < ab ∧ True) := Lib.hid (fun hp => by
            obtain ⟨g, e, h1, hl, _⟩ := SD10.out hp
            exact ⟨g, e, h1, by omega, trivial⟩)
          clear hkA hbA A10 SC10 SD10 AD10 AD11 hab hw11 hlt10
          obtain ⟨ls, hls⟩ : ∃ ls : List Int, ls = (List.range m).map fun j => dly M J base k ds j := ⟨_, rfl⟩
          have hlsj : ∀ j, j < m → ls[j]?.getD 0 = dly M J base k ds j := fun j hj => by rw [hls]; simp [hj]
          have HLS := Lib.hid hlsj
          clear hls hlsj
          go_upto_region 20 with fail
          have hbT := (Below.refl _ w11).alloc (Nat.le_refl _) (.cells #[.int .i64 0] 3)
          obtain ⟨tb0, htb⟩ : ∃ B, B = w11.heap.size := ⟨_, rfl⟩
          obtain ⟨wa0, hw12⟩ : ∃ W, W = w11.alloc (.cells #[.int .i64 0] 3) := ⟨_, rfl⟩
          have hkT := alloc_blk_new w11 (.cells #[.int .i64 0] 3)
          rw [← htb, ← hw12] at hkT
          rw [← hw12] at hbT
          rw [← htb, ← hw12]
          have A0 := Lib.hid (A11.out.bel hbT)
          have SC0 := Lib.hid ((hbT.cell (p := ⟨Bq, 0, none⟩) (by show Bq < _; omega)).trans SC11.out)
          have SD0 := Lib.hid (SD11.out.below hbT)
          have AB0 := Lib.hid ((hbT.cell (p := ⟨ab, 0, none⟩) (by show ab < _; omega)).trans AB11.out)
          have AG0 : Hid (0 < m → ∃ g, aa = some ⟨g, 0, none⟩ ∧ g < ab ∧ ∀ j, j < m → wa0.cell? ⟨g, 0 + j, none⟩ = some (.int .u64 (dly M J base k ds j))) := Lib.hid (fun hp => by
            obtain ⟨g, e, hl, hc⟩ := AG11.out hp
            exact ⟨g, e, hl, fun j hj => (hbT.cell (p := ⟨g, 0 + j, none⟩) (by show g < _; omega)).trans (hc j hj)⟩)
          have TK0 := Lib.hid hkT
          have SG0 : Hid (0 < m → ∃ g, sa = some ⟨g, 0, none⟩ ∧ g < ab) := Lib.hid (fun hp => by
            obtain ⟨g, e, _, hl, _⟩ := SDL.out hp
            exact ⟨g, e, hl⟩)
          have htlt0 : tb0 < wa0.heap.size := blk_lt hkT
          have hab0 : ab < tb0 := by omega
          clear hbT hkT htb hw12 A11 SC11 SD11 AB11 AG11 hablt SDL
          refine wp_loop_rounds 3 ?_
          rw [rounds_succ]
          have htc := cell_blk TK0.out 0 (.int .i64 0) rfl
          have htf := frozen_blk TK0.out 0
          go_upto_block 6 with fail
          clear htc htf
          have hbN := (Below.refl _ wa0).alloc (Nat.le_refl _) (.cells #[.int .i64 0] 3)
          obtain ⟨nb0, hnb⟩ : ∃ B, B = wa0.heap.size := ⟨_, rfl⟩
          obtain ⟨wn0, hwn⟩ : ∃ W, W = wa0.alloc (.cells #[.int .i64 0] 3) := ⟨_, rfl⟩
          have hkN := alloc_blk_new wa0 (.cells #[.int .i64 0] 3)
          rw [← hnb, ← hwn] at hkN
          rw [← hwn] at hbN
          rw [← hnb, ← hwn]
          have hnlt0 : nb0 < wn0.heap.size := blk_lt hkN
          have htn0 : tb0 < nb0 := by omega
          have HbN := Lib.hid hbN
          have NC0 := Lib.hid (cell_blk hkN 0 (.int .i64 0) rfl)
          have NF0 := Lib.hid (frozen_blk hkN 0)
          have An := Lib.hid (A0.out.bel hbN)
          have SCn := Lib.hid ((hbN.cell (p := ⟨Bq, 0, none⟩) (by show Bq < _; omega)).trans SC0.out)
          have SDn := Lib.hid (SD0.out.below hbN)
          have ABn := Lib.hid ((hbN.cell (p := ⟨ab, 0, none⟩) (by show ab < _; omega)).trans AB0.out)
          have AGn : Hid (0 < m → ∃ g, aa = some ⟨g, 0, none⟩ ∧ g < ab ∧ ∀ j, j < m → wn0.cell? ⟨g, 0 + j, none⟩ = some (.int .u64 (dly M J base k ds j))) := Lib.hid (fun hp => by
            obtain ⟨g, e, hl, hc⟩ := AG0.out hp
            exact ⟨g, e, hl, fun j hj => (hbN.cell (p := ⟨g, 0 + j, none⟩) (by show g < _; omega)).trans (hc j hj)⟩)
          have TKn := Lib.hid ((hbN.block tb0 htlt0).trans TK0.out)
          clear hbN hkN hnb hwn HbN A0 SC0 SD0 AB0 AG0 TK0
          refine wp_range_cut (fun D W => wn0.heap.size ≤ D ∧ W.heap[D]? = some (.deferred (some [])) ∧ (∃ c : Nat, (c : Int) = min (m : Int) (max 1 many) ∧ W.cell? ⟨nb0, 0, none⟩ = some (.int .i64 c)) ∧ Below nb0 wn0 W) ?first0 ?rest0
          case first0 =>
            go_wp2_with fail
            refine (wpIn_wide (n := 5)).1 ?_
            have hST := delays_stops Fence.wide 4 trivial rfl (by omega) Bq nb0 sa m scap ls (by omega) wn0 (by omega) (by omega) SCn.out (fun hp => by
              obtain ⟨g, e, _, hl, hc⟩ := SDn.out hp
              obtain ⟨g', e', hg'⟩ := SG0.out hp
              have hgg : g = g' := by rw [e] at e'; cases e'; rfl
              exact ⟨g, 0, e, by omega, fun j hj => by rw [HLS.out j hj]; exact hc j hj⟩)
            refine' wpIn_rangeFunc_ownF (F := Fence.wide) rfl (by omega) (gf := 34) (lb := #[.pointer (some ⟨Bq, 0, none⟩)]) rfl trivial (enters_of Try.func34 (by kernel_rfl) rfl)
              hST belowK_t (belowK_b (by omega)) (Below.refl _ _) (fun _ => rfl)
              (fun pre W => (pre <+: upto (fun j => (j, ls[j]?.getD 0)) m ∧ (pre.length = 0 ∨ (pre.length : Int) < many)) ∧ (W.cell? ⟨nb0, 0, none⟩ = some (.int .i64 pre.length) ∧ W.frozen? ⟨nb0, 0, none⟩ = false) ∧ Below nb0 wn0 W)
              (fun c pre W => (c = .ret ∧ ¬ pre <+: upto (fun j => (j, ls[j]?.getD 0)) m) ∨ (c = .exit 6 ∧ (pre <+: upto (fun j => (j, ls[j]?.getD 0)) m ∧ many ≤ (pre.length : Int) ∧ (pre.length = 1 ∨ (pre.length : Int) - 1 < many) ∧ 1 ≤ pre.length) ∧ (W.cell? ⟨nb0, 0, none⟩ = some (.int .i64 pre.length) ∧ W.frozen? ⟨nb0, 0, none⟩ = false) ∧ Below nb0 wn0 W))
              (OwnFrom.and (fun s A B row hs hg hr => hs) (OwnFrom.and (fun s A B row hs hg hr => ⟨cell_kept hs.1 hg (fun r e => (hr r e).2), (frozen_kept hs.1 hg (fun r e => (hr r e).2)).trans hs.2⟩) (ownFrom_below (by omega) (by omega))))
              (fun c s A B row hs hg hr => by
                rcases hs with h | h
                · exact .inl h
                · exact .inr ⟨h.1, h.2.1, ⟨cell_kept h.2.2.1.1 hg (fun r e => (hr r e).2), (frozen_kept h.2.2.1.1 hg (fun r e => (hr r e).2)).trans h.2.2.1.2⟩, (ownFrom_below (β := Unit) (by omega) (by omega)) () A B row h.2.2.2 hg hr⟩)
              ⟨⟨⟨upto (fun j => (j, ls[j]?.getD 0)) m, rfl⟩, .inl rfl⟩, ⟨NC0.out, NF0.out⟩, Below.refl _ _⟩ _ ?assign ?body ?done ?stop
            case assign =>
              intro l x W K hK
              gi_wp2
              exact hK
            case done =>
              rintro D ys W hD rfl ⟨⟨hp, hC⟩, ⟨hc, hf⟩, hB⟩ hKd
              rw [upto_length] at hc hC
              exact ⟨rfl, D, rfl, hD, hKd, ⟨m, by omega, hc⟩, hB⟩
            case stop =>
              rintro D c pre W hD hSp hIx hKd
              rcases hIx with ⟨rfl, hbad⟩ | hx
              · exact absurd hSp hbad
              · obtain ⟨rfl, ⟨hp, h1, h2, h3⟩, ⟨hc, hf⟩, hB⟩ := hx
                refine wpIn_exit ?_
                have hpl := hp.length_le
                rw [upto_length] at hpl
                exact ⟨rfl, D, rfl, hD, hKd, ⟨pre.length, by omega, hc⟩, hB⟩
            case body =>
              rintro l pre ⟨xi, xv⟩ W ⟨⟨hp, hC⟩, ⟨hc, hf⟩, hB⟩ hlt
              obtain ⟨g, rfl, hgl, hgc⟩ := AGn.out (by omega)
              obtain ⟨⟨_, _, _⟩, qm, _, qr, qf⟩ := An.out.cells
              have hAl := An.out.lt
              have hcm := (hB.cell (p := ⟨w.heap.size + 1, 0, none⟩) (by show w.heap.size + 1 < nb0; omega)).trans qm
              have hcr := (hB.cell (p := ⟨w.heap.size + 1 + 1 + 1, 0, none⟩) (by show w.heap.size + 1 + 1 + 1 < nb0; omega)).trans qr
              have hfr := (hB.frozen (p := ⟨w.heap.size + 1 + 1 + 1, 0, none⟩) (by show w.heap.size + 1 + 1 + 1 < nb0; omega)).trans qf
              have hct := (hB.cell (p := ⟨tb0, 0, none⟩) (by show tb0 < nb0; omega)).trans (cell_blk TKn.out 0 (.int .i64 0) rfl)
              have hca := (hB.cell (p := ⟨ab, 0, none⟩) (by show ab < nb0; omega)).trans ABn.out
              have hcg := (hB.cell (p := ⟨g, 0 + pre.length, none⟩) (by show g < nb0; omega)).trans (hgc pre.length hlt)
              obtain ⟨y, hy⟩ : ∃ y, y = dly M J base k ds pre.length := ⟨_, rfl⟩
              rw [← hy, Nat.zero_add] at hcg
              have hmore := upto_more (fun j => (j, ls[j]?.getD 0)) m pre (xi, xv) hp hlt
              have hfl : ls[pre.length]?.getD 0 = y := by rw [HLS.out _ hlt, hy]
              rw [hfl] at hmore
              obtain ⟨pl, hpl⟩ : ∃ pl, pl = pre.length := ⟨_, rfl⟩
              rw [← hpl] at hc hcg hmore hlt hC
              have HMore := Lib.hid hmore
              have HP := Lib.hid hp
              have HBl := Lib.hid hB
              have HPL := Lib.hid hpl
              have HC := Lib.hid hC
              have hgt : decide ((m : Int) ≤ pl) = false := by simp; omega
              have hgt2 : decide (m ≤ pl) = false := by simp; omega
              have hlt2 : (pl : Int) < m := by omega
              clear hmore hp hB hgc hy hfl hpl hC qm qr qf
              by_cases e1 : xi = pl
              · subst e1
                by_cases e2 : xv = y
                · subst e2
                  by_cases hmy : many ≤ (xi : Int) + 1
                  · have dm : decide (many ≤ (xi : Int) + 1) = true := by simpa using hmy
                    gi_wp2
                    refine ⟨KeepsOthers.setCell _ _ _, .inr ⟨rfl, ⟨HMore.out.2 (by first | trivial | rfl), ?_, ?_, ?_⟩, ⟨?_, by rw [World.frozen?_setCell]; exact hf⟩, HBl.out.setCell (p := ⟨nb0, 0, none⟩) (Nat.le_refl _) _⟩⟩
                    · rw [List.length_append, ← HPL.out]; simp; omega
                    · rw [List.length_append, ← HPL.out]; have := HC.out; simp; omega
                    · simp
                    · rw [List.length_append, ← HPL.out]
                      exact World.cell?_setCell_same' _ _ _ (by rw [hc]; rfl)
                  · have dm : decide (many ≤ (xi : Int) + 1) = false := by simpa using hmy
                    gi_wp2
                    refine ⟨KeepsOthers.setCell _ _ _, (Below.refl nb0 W).setCell (p := ⟨nb0, 0, none⟩) (Nat.le_refl _) _, ⟨HMore.out.2 (by first | trivial | rfl), ?_⟩, ⟨?_, by rw [World.frozen?_setCell]; exact hf⟩, HBl.out.setCell (p := ⟨nb0, 0, none⟩) (Nat.le_refl _) _⟩
                    · rw [List.length_append, ← HPL.out]; simp; omega
                    · rw [List.length_append, ← HPL.out]
                      exact World.cell?_setCell_same' _ _ _ (by rw [hc]; rfl)
                · have d2 : (xv != y) = true := by simpa using e2
                  gi_wp2
                  exact ⟨KeepsOthers.setCell _ _ _, .inl ⟨rfl, fun h => e2 (by have := HMore.out.1 h; simpa using this)⟩⟩
              · have d1 : ((xi : Int) != (pl : Int)) = true := by simp; omega
                gi_wp2
                exact ⟨KeepsOthers.setCell _ _ _, .inl ⟨rfl, fun h => e1 (by have := HMore.out.1 h; simp at this; exact this.1)⟩⟩
          case rest0 =>
            rintro D0 W0 ⟨hD0, hKd0, ⟨c0, hgood, hcc⟩, hB0⟩
            dsimp only
            have An2 := Lib.hid (An.out.mod (S := fun x => nb0 ≤ x) ⟨hB0.os, hB0.tape, hB0.output, hB0.size, fun x _ hx => hB0.block x (by simpa using hx)⟩ (fun x hx e => by have := e; omega))
            have SCm := Lib.hid ((hB0.cell (p := ⟨Bq, 0, none⟩) (by show Bq < nb0; omega)).trans SCn.out)
            have SDm : Hid (IsD W0 Bq sa m (dly M J base k ds)) := Lib.hid (fun hp => by
              obtain ⟨g, e, h1, hl, hc⟩ := SDn.out hp
              obtain ⟨g', e', hg'⟩ := SG0.out hp
              have hgg : g = g' := by rw [e] at e'; cases e'; rfl
              exact ⟨g, e, h1, by have := hB0.size; omega, fun j hj => (hB0.cell (p := ⟨g, 0 + j, none⟩) (by show g < nb0; omega)).trans (hc j hj)⟩)
            have ABm := Lib.hid ((hB0.cell (p := ⟨ab, 0, none⟩) (by show ab < nb0; omega)).trans ABn.out)
            have AGm : Hid (0 < m → ∃ g, aa = some ⟨g, 0, none⟩ ∧ g < ab ∧ ∀ j, j < m → W0.cell? ⟨g, 0 + j, none⟩ = some (.int .u64 (dly M J base k ds j))) := Lib.hid (fun hp => by
              obtain ⟨g, e, hl, hc⟩ := AGn.out hp
              exact ⟨g, e, hl, fun j hj => (hB0.cell (p := ⟨g, 0 + j, none⟩) (by show g < nb0; omega)).trans (hc j hj)⟩)
            have TKm := Lib.hid ((hB0.block tb0 (by omega)).trans TKn.out)
            have hsz0 := hB0.size
            skip
            have HDa0 := Lib.hid hKd0
            clear An SCn SDn ABn AGn TKn hKd0 hB0 NC0 NF0
            obtain ⟨_, hcm, _, _, _⟩ := An2.out.cells
            have hct := cell_blk TKm.out 0 (.int .i64 0) rfl
            have hca := ABm.out
            go_upto_region 30 with fail
            go_cut [156] from 136 to 156 (fun v156 wx => v156 = .bool false ∧ wx = W0)
            case first =>
              have key : (many < 1 ∧ (m < 1 ∧ c0 = 0 ∨ 1 < m ∧ c0 = 1 ∨ m = 1 ∧ c0 = 1)) ∨ (many = 1 ∧ (m < 1 ∧ c0 = 0 ∨ 1 < m ∧ c0 = 1 ∨ m = 1 ∧ c0 = 1)) ∨ (1 < many ∧ ((m : Int) < many ∧ c0 = m ∨ many < (m : Int) ∧ (c0 : Int) = many ∨ (m : Int) = many ∧ c0 = m)) := by omega
              clear hgood
              rcases key with ⟨k1, ⟨k2, rfl⟩ | ⟨k2, rfl⟩ | ⟨rfl, rfl⟩⟩ | ⟨rfl, ⟨k2, rfl⟩ | ⟨k2, rfl⟩ | ⟨rfl, rfl⟩⟩ | ⟨k1, ⟨k2, rfl⟩ | ⟨k2, k3⟩ | ⟨k2, rfl⟩⟩
              · obtain rfl : m = 0 := by omega
                go_wp2
                go_meet
                exact ⟨rfl, rfl⟩
              · have k3 : (1 : Int) < m := by omega
                go_wp2
                go_meet
                exact ⟨rfl, rfl⟩
              · go_wp2
                go_meet
                exact ⟨rfl, rfl⟩
              · obtain rfl : m = 0 := by omega
                go_wp2
                go_meet
                exact ⟨rfl, rfl⟩
              · have k3 : (1 : Int) < m := by omega
                go_wp2
                go_meet
                exact ⟨rfl, rfl⟩
              · go_wp2
                go_meet
                exact ⟨rfl, rfl⟩
              · go_wp2
                go_meet
                exact ⟨rfl, rfl⟩
              · obtain rfl : many = (c0 : Int) := k3.symm
                go_wp2
                go_meet
                exact ⟨rfl, rfl⟩
              · obtain rfl : many = (c0 : Int) := k2.symm
                go_wp2
                go_meet
                exact ⟨rfl, rfl⟩
            case rest =>
              obtain ⟨rfl, hwc⟩ := hcut
              obtain rfl : W0 = wc := hwc.symm
              clear hcm hca
              go_wp2_with fail
              have hbT := (Below.refl _ W0).alloc (Nat.le_refl _) (.cells #[.int .i64 1] 3)
              obtain ⟨tb1, htb⟩ : ∃ B, B = W0.heap.size := ⟨_, rfl⟩
              obtain ⟨wa1, hw12⟩ : ∃ W, W = W0.alloc (.cells #[.int .i64 1] 3) := ⟨_, rfl⟩
              have hkT := alloc_blk_new W0 (.cells #[.int .i64 1] 3)
              rw [← htb, ← hw12] at hkT
              rw [← hw12] at hbT
              rw [← htb, ← hw12]
              have A1 := Lib.hid (An2.out.bel hbT)
              have SC1 := Lib.hid ((hbT.cell (p := ⟨Bq, 0, none⟩) (by show Bq < _; omega)).trans SCm.out)
              have SD1 := Lib.hid (SDm.out.below hbT)
              have AB1 := Lib.hid ((hbT.cell (p := ⟨ab, 0, none⟩) (by show ab < _; omega)).trans ABm.out)
              have AG1 : Hid (0 < m → ∃ g, aa = some ⟨g, 0, none⟩ ∧ g < ab ∧ ∀ j, j < m → wa1.cell? ⟨g, 0 + j, none⟩ = some (.int .u64 (dly M J base k ds j))) := Lib.hid (fun hp => by
                obtain ⟨g, e, hl, hc⟩ := AGm.out hp
                exact ⟨g, e, hl, fun j hj => (hbT.cell (p := ⟨g, 0 + j, none⟩) (by show g < _; omega)).trans (hc j hj)⟩)
              have TK1 := Lib.hid hkT
              have htlt1 : tb1 < wa1.heap.size := blk_lt hkT
              have hab1 : ab < tb1 := by omega
              have hD0l := (Array.getElem?_eq_some_iff.1 HDa0.out).1
              have HDb0 := Lib.hid ((hbT.block D0 hD0l).trans HDa0.out)
              have hD0lt : D0 < tb1 := by omega
              clear hbT hkT htb hw12 An2 SCm SDm ABm AGm TKm HDa0 hct
              have HDa0 := HDb0
              clear HDb0
              rw [rounds_succ]
              have htc := cell_blk TK1.out 0 (.int .i64 1) rfl
              have htf := frozen_blk TK1.out 0
              go_upto_block 6 with fail
              clear htc htf
              have hbN := (Below.refl _ wa1).alloc (Nat.le_refl _) (.cells #[.int .i64 0] 3)
              obtain ⟨nb1, hnb⟩ : ∃ B, B = wa1.heap.size := ⟨_, rfl⟩
              obtain ⟨wn1, hwn⟩ : ∃ W, W = wa1.alloc (.cells #[.int .i64 0] 3) := ⟨_, rfl⟩
              have hkN := alloc_blk_new wa1 (.cells #[.int .i64 0] 3)
              rw [← hnb, ← hwn] at hkN
              rw [← hwn] at hbN
              rw [← hnb, ← hwn]
              have hnlt1 : nb1 < wn1.heap.size := blk_lt hkN
              have htn1 : tb1 < nb1 := by omega
              have HbN := Lib.hid hbN
              have NC1 := Lib.hid (cell_blk hkN 0 (.int .i64 0) rfl)
              have NF1 := Lib.hid (frozen_blk hkN 0)
              have An := Lib.hid (A1.out.bel hbN)
              have SCn := Lib.hid ((hbN.cell (p := ⟨Bq, 0, none⟩) (by show Bq < _; omega)).trans SC1.out)
              have SDn := Lib.hid (SD1.out.below hbN)
              have ABn := Lib.hid ((hbN.cell (p := ⟨ab, 0, none⟩) (by show ab < _; omega)).trans AB1.out)
              have AGn : Hid (0 < m → ∃ g, aa = some ⟨g, 0, none⟩ ∧ g < ab ∧ ∀ j, j < m → wn1.cell? ⟨g, 0 + j, none⟩ = some (.int .u64 (dly M J base k ds j))) := Lib.hid (fun hp => by
                obtain ⟨g, e, hl, hc⟩ := AG1.out hp
                exact ⟨g, e, hl, fun j hj => (hbN.cell (p := ⟨g, 0 + j, none⟩) (by show g < _; omega)).trans (hc j hj)⟩)
              have TKn := Lib.hid ((hbN.block tb1 htlt1).trans TK1.out)
              have HD0n := Lib.hid ((hbN.block D0 (Array.getElem?_eq_some_iff.1 HDa0.out).1).trans HDa0.out)
              clear hbN hkN hnb hwn HbN A1 SC1 SD1 AB1 AG1 TK1 HDa0
              refine wp_range_cut (fun D W => wn1.heap.size ≤ D ∧ W.heap[D]? = some (.deferred (some [])) ∧ (∃ c : Nat, c = m ∧ W.cell? ⟨nb1, 0, none⟩ = some (.int .i64 c)) ∧ Below nb1 wn1 W) ?first1 ?rest1
              case first1 =>
                go_wp2_with fail
                refine (wpIn_wide (n := 5)).1 ?_
                have hST := delays_stops Fence.wide 4 trivial rfl (by omega) Bq nb1 sa m scap ls (by omega) wn1 (by omega) (by omega) SCn.out (fun hp => by
                  obtain ⟨g, e, _, hl, hc⟩ := SDn.out hp
                  obtain ⟨g', e', hg'⟩ := SG0.out hp
                  have hgg : g = g' := by rw [e] at e'; cases e'; rfl
                  exact ⟨g, 0, e, by omega, fun j hj => by rw [HLS.out j hj]; exact hc j hj⟩)
                refine' wpIn_rangeFunc_ownF (F := Fence.wide) rfl (by omega) (gf := 34) (lb := #[.pointer (some ⟨Bq, 0, none⟩)]) rfl trivial (enters_of Try.func34 (by kernel_rfl) rfl)
                  hST belowK_t (belowK_b (by omega)) (Below.refl _ _) (fun _ => rfl)
                  (fun pre W => (pre <+: upto (fun j => (j, ls[j]?.getD 0)) m ∧ True) ∧ (W.cell? ⟨nb1, 0, none⟩ = some (.int .i64 pre.length) ∧ W.frozen? ⟨nb1, 0, none⟩ = false) ∧ Below nb1 wn1 W)
                  (fun c pre W => (c = .ret ∧ ¬ pre <+: upto (fun j => (j, ls[j]?.getD 0)) m) ∨ False)
                  (OwnFrom.and (fun s A B row hs hg hr => hs) (OwnFrom.and (fun s A B row hs hg hr => ⟨cell_kept hs.1 hg (fun r e => (hr r e).2), (frozen_kept hs.1 hg (fun r e => (hr r e).2)).trans hs.2⟩) (ownFrom_below (by omega) (by omega))))
                  (fun c s A B row hs hg hr => by
                    rcases hs with h | h
                    · exact .inl h
                    · exact h.elim)
                  ⟨⟨⟨upto (fun j => (j, ls[j]?.getD 0)) m, rfl⟩, trivial⟩, ⟨NC1.out, NF1.out⟩, Below.refl _ _⟩ _ ?assign ?body ?done ?stop
                case assign =>
                  intro l x W K hK
                  gi_wp2
                  exact hK
                case done =>
                  rintro D ys W hD rfl ⟨⟨hp, hC⟩, ⟨hc, hf⟩, hB⟩ hKd
                  rw [upto_length] at hc
                  exact ⟨rfl, D, rfl, hD, hKd, ⟨m, rfl, hc⟩, hB⟩
                case stop =>
                  rintro D c pre W hD hSp hIx hKd
                  rcases hIx with ⟨rfl, hbad⟩ | hx
                  · exact absurd hSp hbad
                  · exact hx.elim
                case body =>
                  rintro l pre ⟨xi, xv⟩ W ⟨⟨hp, hC⟩, ⟨hc, hf⟩, hB⟩ hlt
                  obtain ⟨g, rfl, hgl, hgc⟩ := AGn.out (by omega)
                  obtain ⟨⟨_, _, _⟩, qm, _, qr, qf⟩ := An.out.cells
                  have hAl := An.out.lt
                  have hcm := (hB.cell (p := ⟨w.heap.size + 1, 0, none⟩) (by show w.heap.size + 1 < nb1; omega)).trans qm
                  have hcr := (hB.cell (p := ⟨w.heap.size + 1 + 1 + 1, 0, none⟩) (by show w.heap.size + 1 + 1 + 1 < nb1; omega)).trans qr
                  have hfr := (hB.frozen (p := ⟨w.heap.size + 1 + 1 + 1, 0, none⟩) (by show w.heap.size + 1 + 1 + 1 < nb1; omega)).trans qf
                  have hct := (hB.cell (p := ⟨tb1, 0, none⟩) (by show tb1 < nb1; omega)).trans (cell_blk TKn.out 0 (.int .i64 1) rfl)
                  have hca := (hB.cell (p := ⟨ab, 0, none⟩) (by show ab < nb1; omega)).trans ABn.out
                  have hcg := (hB.cell (p := ⟨g, 0 + pre.length, none⟩) (by show g < nb1; omega)).trans (hgc pre.length hlt)
                  obtain ⟨y, hy⟩ : ∃ y, y = dly M J base k ds pre.length := ⟨_, rfl⟩
                  rw [← hy, Nat.zero_add] at hcg
                  have hmore := upto_more (fun j => (j, ls[j]?.getD 0)) m pre (xi, xv) hp hlt
                  have hfl : ls[pre.length]?.getD 0 = y := by rw [HLS.out _ hlt, hy]
                  rw [hfl] at hmore
                  obtain ⟨pl, hpl⟩ : ∃ pl, pl = pre.length := ⟨_, rfl⟩
                  rw [← hpl] at hc hcg hmore hlt
                  have HMore := Lib.hid hmore
                  have HP := Lib.hid hp
                  have HBl := Lib.hid hB
                  have HPL := Lib.hid hpl
                  have HC := Lib.hid hC
                  have hgt : decide ((m : Int) ≤ pl) = false := by simp; omega
                  have hgt2 : decide (m ≤ pl) = false := by simp; omega
                  have hlt2 : (pl : Int) < m := by omega
                  clear hmore hp hB hgc hy hfl hpl hC qm qr qf
                  by_cases e1 : xi = pl
                  · subst e1
                    by_cases e2 : xv = y
                    · subst e2
                      gi_wp2
                      refine ⟨KeepsOthers.setCell _ _ _, (Below.refl nb1 W).setCell (p := ⟨nb1, 0, none⟩) (Nat.le_refl _) _, (by first | exact ⟨HMore.out.2 (by first | trivial | rfl), trivial⟩ | exact HMore.out.2 (by first | trivial | rfl)), ⟨?_, by rw [World.frozen?_setCell]; exact hf⟩, HBl.out.setCell (p := ⟨nb1, 0, none⟩) (Nat.le_refl _) _⟩
                      rw [List.length_append, ← HPL.out]
                      exact World.cell?_setCell_same' _ _ _ (by rw [hc]; rfl)
                    · have d2 : (xv != y) = true := by simpa using e2
                      gi_wp2
                      exact ⟨KeepsOthers.setCell _ _ _, .inl ⟨rfl, fun h => e2 (by have := HMore.out.1 h; simpa using this)⟩⟩
                  · have d1 : ((xi : Int) != (pl : Int)) = true := by simp; omega
                    gi_wp2
                    exact ⟨KeepsOthers.setCell _ _ _, .inl ⟨rfl, fun h => e1 (by have := HMore.out.1 h; simp at this; exact this.1)⟩⟩
              case rest1 =>
                rintro D1 W1 ⟨hD1, hKd1, ⟨c1, hgood, hcc⟩, hB1⟩
                dsimp only
                have An2 := Lib.hid (An.out.mod (S := fun x => nb1 ≤ x) ⟨hB1.os, hB1.tape, hB1.output, hB1.size, fun x _ hx => hB1.block x (by simpa using hx)⟩ (fun x hx e => by have := e; omega))
                have SCm := Lib.hid ((hB1.cell (p := ⟨Bq, 0, none⟩) (by show Bq < nb1; omega)).trans SCn.out)
                have SDm : Hid (IsD W1 Bq sa m (dly M J base k ds)) := Lib.hid (fun hp => by
                  obtain ⟨g, e, h1, hl, hc⟩ := SDn.out hp
                  obtain ⟨g', e', hg'⟩ := SG0.out hp
                  have hgg : g = g' := by rw [e] at e'; cases e'; rfl
                  exact ⟨g, e, h1, by have := hB1.size; omega, fun j hj => (hB1.cell (p := ⟨g, 0 + j, none⟩) (by show g < nb1; omega)).trans (hc j hj)⟩)
                have ABm := Lib.hid ((hB1.cell (p := ⟨ab, 0, none⟩) (by show ab < nb1; omega)).trans ABn.out)
                have AGm : Hid (0 < m → ∃ g, aa = some ⟨g, 0, none⟩ ∧ g < ab ∧ ∀ j, j < m → W1.cell? ⟨g, 0 + j, none⟩ = some (.int .u64 (dly M J base k ds j))) := Lib.hid (fun hp => by
                  obtain ⟨g, e, hl, hc⟩ := AGn.out hp
                  exact ⟨g, e, hl, fun j hj => (hB1.cell (p := ⟨g, 0 + j, none⟩) (by show g < nb1; omega)).trans (hc j hj)⟩)
                have TKm := Lib.hid ((hB1.block tb1 (by omega)).trans TKn.out)
                have hsz1 := hB1.size
                have HDz0 := Lib.hid ((hB1.block D0 (by omega)).trans HD0n.out)
                have HDa1 := Lib.hid hKd1
                clear An SCn SDn ABn AGn TKn hKd1 hB1 NC1 NF1
                obtain ⟨_, hcm, _, _, _⟩ := An2.out.cells
                have hct := cell_blk TKm.out 0 (.int .i64 1) rfl
                have hca := ABm.out
                go_upto_region 30 with fail
                go_cut [156] from 136 to 156 (fun v156 wx => v156 = .bool false ∧ wx = W1)
                case first =>
                  obtain rfl : m = c1 := hgood.symm
                  go_wp2
                  go_meet
                  exact ⟨rfl, rfl⟩
                case rest =>
                  obtain ⟨rfl, hwc⟩ := hcut
                  obtain rfl : W1 = wc := hwc.symm
                  clear hcm hca
                  have A2 := Lib.hid (An2.out.bel ((Below.refl _ W1).alloc (Nat.le_refl _) (.cells #[.int .i64 2] 3)))
                  have HE1 := Lib.hid (alloc_other HDa1.out (.cells #[.int .i64 2] 3))
                  have HE0 := Lib.hid (alloc_other HDz0.out (.cells #[.int .i64 2] 3))
                  clear An2 SCm SDm ABm AGm HDa1 HDz0
                  go_wp2_with fail
                  rw [rounds_succ]
                  go_wp2_with (go_at_call 8; fail)
                  refine (HW.out _).mono ?_
                  rintro e w20 ⟨rfl, hb20⟩
                  have A3 := Lib.hid (A2.out.bel hb20)
                  have HF1 := Lib.hid ((hb20.block D1 (Array.getElem?_eq_some_iff.1 HE1.out).1).trans HE1.out)
                  have HF0 := Lib.hid ((hb20.block D0 (Array.getElem?_eq_some_iff.1 HE0.out).1).trans HE0.out)
                  obtain ⟨_, _, _, c6, f6⟩ := A3.out.cells
                  clear hb20 A2 HE1 HE0 TKm hct
                  go_wp2_with fail
                  have hk1 := (KeepsOthers.setCell w20 ⟨w.heap.size + 1 + 1 + 1, 0, none⟩ (.bool true)).same D1 _ HF1.out rfl
                  have hk0 := (KeepsOthers.setCell w20 ⟨w.heap.size + 1 + 1 + 1, 0, none⟩ (.bool true)).same D0 _ HF0.out rfl
                  have hk00 := ((grownBy_putObj' (w20.setCell ⟨w.heap.size + 1 + 1 + 1, 0, none⟩ (.bool true)) D1 (.deferred none)).block D0 (Array.getElem?_eq_some_iff.1 hk0).1 (fun e => by cases e; omega)).trans hk0
                  have hc5 := cell_kept (World.cell?_setCell_same' w20 ⟨w.heap.size + 1 + 1 + 1, 0, none⟩ (.bool true) (by rw [c6]; rfl)) (grownBy_putObj' _ D1 (.deferred none)) (fun r e => by cases e; exact ⟨_, hk1, rfl⟩)
                  have hc6 := cell_kept hc5 (grownBy_putObj' _ D0 (.deferred none)) (fun r e => by cases e; exact ⟨_, hk00, rfl⟩)
                  have hA3 := A3.out.lt
                  refine ⟨by simp, .inl ⟨_, _, rfl, run_takeDeferred hk1, ⟨by simp, .inl ⟨_, _, rfl, run_takeDeferred hk00, ?_⟩⟩⟩⟩
                  refine ⟨.bool true, ?_, rfl, ((A3.out.below.setCell (p := ⟨w.heap.size + 1 + 1 + 1, 0, none⟩) (by simp; omega) _).trans (belowK_b (w := w) (Nat.le_refl _) _ D1 _ _ (by omega) hk1 rfl rfl)).trans (belowK_b (w := w) (Nat.le_refl _) _ D0 _ _ (by omega) hk00 rfl rfl)⟩
                  simp [results, Try.f6, go_sem, hc6]
end Go.Proofs.Ytkoppmnofloefaa
