/-
  BytesqNone, walked.
-/
import Derived.Test.YtkikdpfhcepeaaaNa
import Derived.Test.YtkikdpfhcepeaaaIs
import Derived.Test.YtkikdpfhcepeaaaM
namespace Go.Proofs.Ytkikdpfhcepeaaa
open Go.RowKit Go.Shelf
set_option linter.unusedVariables false
set_option linter.unusedSimpArgs false
attribute [local go_sem] Oper.semAt_some run_eql_func55

/-- Where None's boxes lie. -/
structure Bz (w : World) (z : AV) (W : World) : Prop where
  b0 : W.heap[w.heap.size]? = some (.cells #[.int .i64 z.what, .int .i64 z.n, .slice z.a z.xa.length z.ca, .slice z.b z.xb.length z.cb] 31 (0, 0))
  b1 : W.heap[w.heap.size + 1]? = some (.cells #[.bool false] 4 (0, 0))
  below : Below w.heap.size w W
section
variable {w W W' : World} {z : AV}
theorem Bz.lt (h : Bz w z W) : w.heap.size + 1 < W.heap.size := blk_lt h.b1
theorem Bz.belN (h : Bz w z W) {nb : Nat} (hb : Below nb W W') (hl : w.heap.size + 1 < nb) : Bz w z W' :=
  ⟨(hb.block _ (by omega)).trans h.b0, (hb.block _ (by omega)).trans h.b1, h.below.trans (hb.mono (by omega))⟩
theorem Bz.bel (h : Bz w z W) (hb : Below W.heap.size W W') : Bz w z W' := h.belN hb h.lt
theorem Bz.mod (h : Bz w z W) {S : Nat → Prop} (hm : Mod S W W') (hs : ∀ k, S k → w.heap.size + 1 < k) : Bz w z W' := by
  have hl := h.lt
  exact ⟨(hm.block _ (by omega) (fun e => by have := hs _ e; omega)).trans h.b0, (hm.block _ (by omega) (fun e => by have := hs _ e; omega)).trans h.b1, (Mod.trans (S := fun k => w.heap.size ≤ k) (Mod.of_below h.below _) hm (fun k _ e => by have := hs k e; omega)).below (fun k hk => by omega)⟩
theorem Bz.cells (h : Bz w z W) : W.cell? ⟨w.heap.size, 0, none⟩ = some (.int .i64 z.what) ∧ W.cell? ⟨w.heap.size, 1, none⟩ = some (.int .i64 z.n) ∧ W.cell? ⟨w.heap.size, 2, none⟩ = some (.slice z.a z.xa.length z.ca) ∧ W.cell? ⟨w.heap.size, 3, none⟩ = some (.slice z.b z.xb.length z.cb) :=
  ⟨cell_blk h.b0 0 _ rfl, cell_blk h.b0 1 _ rfl, cell_blk h.b0 2 _ rfl, cell_blk h.b0 3 _ rfl⟩
theorem Bz.res (h : Bz w z W) : W.cell? ⟨w.heap.size + 1, 0, none⟩ = some (.bool false) ∧ W.frozen? ⟨w.heap.size + 1, 0, none⟩ = false := ⟨cell_blk h.b1 0 _ rfl, frozen_blk h.b1 0⟩
end
/-- No queue, in old memory. -/
def NilB (w : World) (a : Option Addr) (lim : Nat) : Prop := a = none ∨ ∃ b, a = some ⟨b, 0, none⟩ ∧ b < lim ∧ w.cell? ⟨b, 3, none⟩ = some (.bool false)
theorem NilB.to {w : World} {a : Option Addr} {lim : Nat} (h : NilB w a lim) (hl : lim ≤ w.heap.size) : Nil w a := by
  rcases h with h | ⟨b, e, hb, hc⟩
  · exact .inl h
  · exact .inr ⟨b, e, by omega, hc⟩
theorem NilB.mod {w w' : World} {S : Nat → Prop} {a : Option Addr} {lim : Nat} (h : NilB w a lim) (hl : lim ≤ w.heap.size) (hm : Mod S w w') (hs : ∀ k, k < lim → ¬ S k) : NilB w' a lim := by
  rcases h with h | ⟨b, e, hb, hc⟩
  · exact .inl h
  · exact .inr ⟨b, e, hb, (hm.cell (p := ⟨b, 3, none⟩) (by show b < _; omega) (hs b hb)).trans hc⟩
theorem NilB.below {w w' : World} {a : Option Addr} {lim : Nat} (h : NilB w a lim) (hl : lim ≤ w.heap.size) (hb : Below w.heap.size w w') : NilB w' a lim := h.mod hl (Mod.of_below hb (fun _ => False)) (fun _ _ h => h)
/-- One call, laid out in an array. -/
theorem acts_one {w W : World} {z : AV} {b : Nat} (hb : Below w.heap.size w W) (h : W.heap[b]? = some (.cells #[.int .i64 z.what, .int .i64 z.n, .slice z.a z.xa.length z.ca, .slice z.b z.xb.length z.cb] 31 (0, 0))) (hz : z.Ok (fun k => k < w.heap.size) w) : Acts W (some ⟨b, 0, none⟩) 1 [z] := by
  refine ⟨by unfold maxLen; omega, by simp, fun _ => ⟨b, 0, rfl, blk_lt h, fun j hj => ?_⟩⟩
  obtain rfl : j = 0 := by omega
  have ho := hz.below hb
  exact ⟨z, rfl, cell_blk h 0 _ rfl, cell_blk h 1 _ rfl, cell_blk h 2 _ rfl, cell_blk h 3 _ rfl, { ho with ra := ho.ra.mono fun k hk _ => hk, rb := ho.rb.mono fun k hk _ => hk }⟩

set_option maxHeartbeats 6400000 in
set_option maxRecDepth 100000 in
theorem none_law (z : AV) (zero : Bool) (w : World) (hz : z.Ok (fun k => k < w.heap.size) w) :
    Calls Try.prog 6 #[.agg #[.int .i64 z.what, .int .i64 z.n, .slice z.a z.xa.length z.ca, .slice z.b z.xb.length z.cb], .bool zero] w fun e w' => e = .returned (.bool true) ∧ Below w.heap.size w w' := by
  have HNum := Lib.hid num_any
  have HWk := Lib.hid works_true
  obtain ⟨w1, hw1⟩ : ∃ W, W = w.alloc (.cells #[.int .i64 z.what, .int .i64 z.n, .slice z.a z.xa.length z.ca, .slice z.b z.xb.length z.cb] 31) := ⟨_, rfl⟩
  have s1 : w1.heap.size = w.heap.size + 1 := by rw [hw1]; simp
  have k1 : w1.heap[w.heap.size]? = some (.cells #[.int .i64 z.what, .int .i64 z.n, .slice z.a z.xa.length z.ca, .slice z.b z.xb.length z.cb] 31 (0, 0)) := by rw [hw1]; exact alloc_blk_new _ _
  have b1 : Below w.heap.size w w1 := by rw [hw1]; exact (Below.refl _ w).alloc (Nat.le_refl _) _
  obtain ⟨w2, hw2⟩ : ∃ W, W = w1.alloc (.cells #[.bool false] 4) := ⟨_, rfl⟩
  have s2 : w2.heap.size = w.heap.size + 2 := by rw [hw2]; simp [s1]
  have B2 : Hid (Bz w z w2) := Lib.hid ⟨by rw [hw2]; exact alloc_blk k1 _, by rw [hw2, ← s1]; exact alloc_blk_new _ _, by rw [hw2]; exact b1.alloc (by omega) _⟩
  obtain ⟨w3, hw3⟩ : ∃ W, W = w2.alloc (.cells #[.int .i64 z.what, .int .i64 z.n, .slice z.a z.xa.length z.ca, .slice z.b z.xb.length z.cb] 31) := ⟨_, rfl⟩
  have k3 : w3.heap[w.heap.size + 2]? = some (.cells #[.int .i64 z.what, .int .i64 z.n, .slice z.a z.xa.length z.ca, .slice z.b z.xb.length z.cb] 31 (0, 0)) := by rw [hw3, ← s2]; exact alloc_blk_new _ _
  have B3 : Hid (Bz w z w3) := Lib.hid (B2.out.bel (by rw [hw3]; exact (Below.refl _ w2).alloc (Nat.le_refl _) _))
  have HFew := Lib.hid (few_any _ 1 1 [z] 1 w3 (acts_one B3.out.below k3 hz) (by decide))
  have HZ := Lib.hid hz
  have E1 := Lib.hid hw1
  have E2 := Lib.hid hw2
  have E3 := Lib.hid hw3
  have S1 := Lib.hid s1
  have S2 := Lib.hid s2
  clear hw1 hw2 hw3 k1 b1 k3 hz s1 s2
  refine (callsIn_wide (n := 7)).1 ?_
  refine callsIn_of_wp_marks Try.func6 rfl trivial ?_ rfl
  simp only [Try.ntmps6, List.size_toArray, List.length_cons, List.length_nil, Nat.reduceAdd, Nat.reduceSub, Array.replicate_succ, Array.replicate_zero, List.push_toArray, List.append_toArray, List.nil_append, List.cons_append]
  refine wpIn_wide.2 ?_
  go_wp2_with (go_at_call 7; fail)
  rw [← E1.out, ← E2.out, ← E3.out]
  refine HFew.out.mono ?_
  rintro e w4 ⟨b, rfl, hfew, q4, rfl⟩
  have hl3 := B3.out.lt
  have B4 := Lib.hid (B3.out.bel (Below.drewN' w3 q4))
  clear HFew B3 B2
  cases b with
  | false =>
    go_wp2_with fail
    refine (HWk.out _).mono ?_
    rintro e w12 ⟨rfl, hb⟩
    have B12 := Lib.hid (B4.out.bel hb)
    obtain ⟨c6, f6⟩ := B12.out.res
    have hl := B12.out.lt
    clear hb B4
    go_wp2_with fail
    refine ⟨.bool true, ?_, rfl, B12.out.below.setCell (p := ⟨w.heap.size + 1, 0, none⟩) (by simp) _⟩
    simp [results, Try.f6, go_sem, c6]
  | true =>
    have hzl : z.xa.length + z.xb.length ≤ 300 := by have := (hfew rfl).2 0 (by omega); simpa using this
    clear hfew
    obtain ⟨w5, hw5⟩ : ∃ W, W = w3.drewN q4 := ⟨_, rfl⟩
    rw [← hw5] at B4 ⊢
    clear hw5 hl3
    go_upto_if 21 with fail
    go_cut [5] from 21 to 23 (fun v5 wx => ∃ a, v5 = .pointer a ∧ Nil wx a ∧ Bz w z wx)
    case first =>
      cases zero with
      | true =>
        have k6 := alloc_blk_new w5 (.cells #[.slice none 0 0, .int .i64 0, .int .i64 0, .bool false] 51)
        have HK6 := Lib.hid k6
        have HB6 := Lib.hid (B4.out.bel ((Below.refl _ w5).alloc (Nat.le_refl _) (.cells #[.slice none 0 0, .int .i64 0, .int .i64 0, .bool false] 51)))
        clear k6
        go_wp2
        go_meet
        exact ⟨some ⟨w5.heap.size, 0, none⟩, rfl, .inr ⟨_, rfl, blk_lt HK6.out, cell_blk HK6.out 3 _ rfl⟩, HB6.out⟩
      | false =>
        go_wp2
        go_meet
        exact ⟨none, rfl, .inl rfl, B4.out⟩
    case rest =>
      obtain ⟨a, rfl, hN, hB⟩ := hcut
      have H1 := Lib.hid (Take_none a z.n wc hN)
      have H2 := Lib.hid (Peek_none a z.n wc hN)
      have H3 := Lib.hid (Drop_none a z.n wc hN)
      have H4 := Lib.hid (All_none a wc hN)
      have HN := Lib.hid hN
      have HB := Lib.hid hB
      obtain ⟨c0, c1, c2, c3⟩ := hB.cells
      have hl := hB.lt
      have hl0 : w.heap.size < wc.heap.size := by omega
      clear hN hB B4
      go_wp2_with (first | (go_at_call 12; refine H1.out.mono ?_; rintro e w' ⟨rfl, rfl⟩) | (go_at_call 19; refine H2.out.mono ?_; rintro e w' ⟨rfl, rfl⟩) | (go_at_call 20; refine H3.out.mono ?_; rintro e w' ⟨rfl, rfl⟩) | (go_at_call 21; fail))
      refine H4.out.mono ?_
      rintro e w6 ⟨rfl, hk, hb⟩
      obtain ⟨B, hBq⟩ : ∃ B, B = wc.heap.size := ⟨_, rfl⟩
      have hBl : B < w6.heap.size := by rw [hBq]; exact blk_lt hk
      rw [← hBq] at hk ⊢
      have HN6 := Lib.hid (HN.out.below hb)
      have HB6 := Lib.hid (HB.out.bel hb)
      have HC6 := Lib.hid (cell_blk hk 0 _ rfl)
      clear hk hb H1 H2 H3 H4 HN HB hBq hl hl0 c0 c1 c2 c3
      go_wp2_with fail
      refine (wpIn_wide (n := 7)).1 ?_
      refine' wpIn_range_deep (F := Fence.wide) rfl (by omega) (gf := 31) (lb := #[.pointer (some ⟨B, 0, none⟩)]) rfl trivial (enters_of Try.func31 (by kernel_rfl) rfl) (n₀ := w6.heap.size) (Nat.le_refl _)
        (All31_deep 6 (by omega) B w6.heap.size none 0 0 [] (by omega) w6 (hBl) (Nat.le_refl _) HC6.out (fun hp => by omega)) (fun _ => rfl)
        (fun _ W' => Below w6.heap.size w6 W') (fun _ _ _ => False) (fun s U V hs hb => hs.trans hb) (fun c s U V hs hb => hs) (Below.refl _ _) _ ?assign1 ?body1 ?done1 ?stop1
      case assign1 =>
        intro l x W K hK
        gi_wp2
        exact hK
      case body1 =>
        intro l pre x W hW hI hlt
        exact absurd hlt (by omega)
      case stop1 =>
        rintro D c pre W hD hSp hIx hKd
        exact hIx.elim
      case done1 =>
        rintro D1 ys w7 hD1 rfl hI hKd1
        have HN7 := Lib.hid (HN6.out.below hI)
        have HB7 := Lib.hid (HB6.out.bel hI)
        have HK7 := Lib.hid hKd1
        have hD1l := blk_lt hKd1
        have hl6 := HB6.out.lt
        have hwD : w.heap.size + 1 < D1 := by omega
        have HNew := Lib.hid (New_qs 500 w w7 (by omega) (by omega) HB7.out.below)
        clear hI hKd1 HN6 HB6 HC6
        go_wp2_with fail
        refine HNew.out.mono ?_
        rintro e w8 ⟨p, rfl, hq, hb, hp⟩
        have HN8 : Hid (NilB w8 a w7.heap.size) := Lib.hid (NilB.below HN7.out (Nat.le_refl _) hb)
        have HB8 := Lib.hid (HB7.out.bel hb)
        have HK8 := Lib.hid ((hb.block _ hD1l).trans HK7.out)
        have HQ8 := Lib.hid hq
        obtain ⟨sv, g, vs, hqq, _⟩ := hq.qu
        have HAll := Lib.hid (All_any _ p g 500 sv vs [] w8 hqq)
        have hs8 := hb.size
        have hD18 : D1 < w8.heap.size := by omega
        have hD1p : D1 < p := by omega
        have hp8 := hq.lt.2
        clear hqq hq hb HNew HN7 HB7 HK7
        go_wp2_with fail
        refine HAll.out.mono ?_
        rintro e w9 ⟨la, lc, rfl, hk, _, hb⟩
        obtain ⟨C, hCq⟩ : ∃ C, C = w8.heap.size := ⟨_, rfl⟩
        have hCl : C < w9.heap.size := by rw [hCq]; exact blk_lt hk
        rw [← hCq] at hk ⊢
        have hpC : p < C := by omega
        have hwC : w.heap.size + 1 < C := by omega
        have hC8 : w8.heap.size ≤ C := by omega
        clear hCq
        have HN9 := Lib.hid (HN8.out.below hs8 hb)
        have HB9 := Lib.hid (HB8.out.bel hb)
        have HK9 := Lib.hid ((hb.block _ hD18).trans HK8.out)
        have HC9 := Lib.hid hk
        have HQ9 := Lib.hid (HQ8.out.grow hb)
        obtain ⟨b0, b1, b2, b3⟩ := HB9.out.cells
        have hl9 := HB9.out.lt
        have hl90 : w.heap.size < w9.heap.size := by omega
        obtain ⟨wa, hwa⟩ : ∃ W, W = w9.alloc (.cells #[.int .u8 1] 5) := ⟨_, rfl⟩
        have sa : wa.heap.size = w9.heap.size + 1 := by rw [hwa]; simp
        have ba : Below w9.heap.size w9 wa := by rw [hwa]; exact (Below.refl _ w9).alloc (Nat.le_refl _) _
        have ka : wa.heap[w9.heap.size]? = some (.cells #[.int .u8 1] 5 (0, 0)) := by rw [hwa]; exact alloc_blk_new _ _
        have hqa := HQ9.out.grow ba
        have hza := HZ.out.below (HB9.out.below.trans (ba.mono (by omega)))
        obtain ⟨hqp, hpt⟩ := two_parts (z := { z with b := some ⟨w9.heap.size, 0, none⟩, cb := 1, xb := [1] }) (T := fun k => k < w.heap.size ∨ k = w9.heap.size) hqa
          { w0 := hza.w0, w1 := hza.w1, ra := hza.ra.mono (fun k _ e => .inl e), rb := ⟨rfl, fun _ => ⟨w9.heap.size, 0, rfl, by omega, .inr rfl, fun j hj => by
              have hj' : j < 1 := hj
              obtain rfl : j = 0 := by omega
              exact cell_blk ka 0 _ rfl⟩⟩, na := hza.na, nb := (fun e => by cases e), ia := hza.ia, ib := by simp, la := hza.la, lb := by simp }
          (fun k hk e => by
            rcases e with e | e
            · exact .inl e
            · exact .inr (.inr ⟨by omega, by omega⟩))
        obtain ⟨wp, hwp⟩ : ∃ W, W = wa.alloc (.cells #[.slice z.a z.xa.length z.ca, .slice (some ⟨w9.heap.size, 0, none⟩) 1 1] 29) := ⟨_, rfl⟩
        obtain ⟨Kp, hKp⟩ : ∃ K, K = More (More (More (fun k => w.heap.size ≤ k ∧ k < w7.heap.size) w8 w9) w9 wa) wa wp := ⟨_, rfl⟩
        have hqp' : QS w Kp p 500 [] wp := by rw [hKp, hwp]; exact hqp
        have hpt' : Parts (fun k => k < w.heap.size ∨ Kp k) wp (some ⟨w9.heap.size + 1, 0, none⟩) [z.xa, [1]] := by rw [hKp, hwp, ← sa]; exact hpt
        have bp : Below w9.heap.size w9 wp := by rw [hwp]; exact ba.alloc (by omega) _
        have hKo : ∀ k, w.heap.size ≤ k → k < w9.heap.size → (k < w7.heap.size ∨ w8.heap.size ≤ k) → Kp k := fun k h1 h2 h3 => by
          rw [hKp]
          rcases h3 with h3 | h3
          · exact .inl (.inl (.inl ⟨h1, h3⟩))
          · exact .inl (.inl (.inr ⟨h3, h2⟩))
        have HPush := Lib.hid (hqp'.push_ok (some ⟨w9.heap.size + 1, 0, none⟩) 2 2 [z.xa, [1]] rfl (by simp) (by simp; omega) hpt' (by simp; omega) _ rfl)
        have HNp := Lib.hid (HN9.out.below (by omega) bp)
        have HBp := Lib.hid (HB9.out.bel bp)
        have HKp := Lib.hid ((bp.block _ (by omega)).trans HK9.out)
        have HCp := Lib.hid ((bp.block _ hCl).trans HC9.out)
        have HKo := Lib.hid hKo
        have Ea := Lib.hid hwa
        have Ep := Lib.hid hwp
        have hbps := bp.size
        have hs79 : w7.heap.size ≤ w8.heap.size := by omega
        clear hqp hpt hqp' hpt' hKo hKp hwp hwa ba ka hqa hza bp HQ8 HQ9 HN9 HB9 HK9 HC9 HN8 HB8 HK8 HAll hk hb
        go_wp2_with (go_at_call 11; fail)
        rw [← Ea.out]
        have hEp : wa.alloc (.cells #[.slice z.a z.xa.length z.ca, .slice (some ⟨w9.heap.size, 0, none⟩) 1 1] 29) = wp := Ep.out.symm
        rw [hEp]
        refine HPush.out.mono ?_
        rintro e wq ⟨rfl, hqq, hm⟩
        have hS : ∀ k, w.heap.size ≤ k → k < w9.heap.size → (k < w7.heap.size ∨ w8.heap.size ≤ k) → ¬ (¬ Kp k ∧ w.heap.size ≤ k) := fun k h1 h2 h3 e => e.1 (HKo.out k h1 h2 h3)
        have hsq := hm.size
        have hl7 : D1 < w7.heap.size := hD1l
        have HNq := Lib.hid (HNp.out.mod (by omega) hm (fun k hk e => by
          by_cases h : w.heap.size ≤ k
          · exact hS k h (by omega) (.inl hk) e
          · exact h e.2))
        have HBq := Lib.hid (HBp.out.mod hm (fun k e => by
          by_cases h : k ≤ w.heap.size + 1
          · exact absurd e (hS k e.2 (by omega) (.inl (by omega)))
          · omega))
        have HKq := Lib.hid ((hm.block _ (blk_lt HKp.out) (hS D1 (by omega) (by omega) (.inl hl7))).trans HKp.out)
        have HCq := Lib.hid ((hm.block _ (blk_lt HCp.out) (hS C (by omega) hCl (.inr (by omega)))).trans HCp.out)
        have HQq := Lib.hid hqq
        have hCq : C < wq.heap.size := by omega
        have HCc := Lib.hid (cell_blk HCq.out 0 _ rfl)
        clear hm hqq hS HNp HBp HKp HCp HPush HKo Ea Ep hEp HCq
        clear b0 b1 b2 b3
        go_wp2_with fail
        refine (wpIn_wide (n := 7)).1 ?_
        refine' wpIn_range_deep (F := Fence.wide) rfl (by omega) (gf := 31) (lb := #[.pointer (some ⟨C, 0, none⟩)]) rfl trivial (enters_of Try.func31 (by kernel_rfl) rfl) (n₀ := wq.heap.size) (Nat.le_refl _)
          (All31_deep 6 (by omega) C wq.heap.size la 0 lc [] (by omega) wq (hCq) (Nat.le_refl _) HCc.out (fun hp => by omega)) (fun _ => rfl)
          (fun _ W' => Below wq.heap.size wq W') (fun _ _ _ => False) (fun s U V hs hb => hs.trans hb) (fun c s U V hs hb => hs) (Below.refl _ _) _ ?assign2 ?body2 ?done2 ?stop2
        case assign2 =>
          intro l x W K hK
          gi_wp2
          exact hK
        case body2 =>
          intro l pre x W hW hI hlt
          exact absurd hlt (by omega)
        case stop2 =>
          rintro D c pre W hD hSp hIx hKd
          exact hIx.elim
        case done2 =>
          rintro D2 ys wr hD2 rfl hI hKd2
          have HNr := Lib.hid (HNq.out.below (by omega) hI)
          have HBr := Lib.hid (HBq.out.bel hI)
          have HKr := Lib.hid ((hI.block _ (blk_lt HKq.out)).trans HKq.out)
          have HDr := Lib.hid hKd2
          have hsr := hI.size
          have c3 := (hI.cell (p := ⟨p, 3, none⟩) HQq.out.lt.2).trans HQq.out.c3
          have HC3 := Lib.hid c3
          have HNn := Lib.hid (fun W (hb : Below wr.heap.size wr W) => (HNr.out.to (by omega)).below hb)
          obtain ⟨b0, b1, b2, b3⟩ := HBr.out.cells
          have hlr := HBr.out.lt
          have hlr0 : w.heap.size < wr.heap.size := by omega
          have HPu := Lib.hid (fun W (hb : Below wr.heap.size wr W) => Push_none a (some ⟨wr.heap.size, 0, none⟩) 1 1 W (HNn.out W hb))
          obtain ⟨ws, hws⟩ : ∃ W, W = wr.alloc (.cells #[.slice z.a z.xa.length z.ca] 29) := ⟨_, rfl⟩
          have bs : Below wr.heap.size wr ws := by rw [hws]; exact (Below.refl _ wr).alloc (Nat.le_refl _) _
          have Es := Lib.hid hws
          have HPn := Lib.hid (HPu.out ws bs)
          have HLn := Lib.hid (Len_none a ws (HNn.out ws bs))
          have HRn := Lib.hid (Room_none a ws (HNn.out ws bs))
          have HCn := Lib.hid (Copy_none a ws (HNn.out ws bs))
          have HS2 := Lib.hid (Same_none2 a none ws (HNn.out ws bs) (.inl rfl))
          have HS1 := Lib.hid (Same_one p a ws ((bs.cell (p := ⟨p, 3, none⟩) (by show p < _; omega)).trans HC3.out) (HNn.out ws bs))
          have HBs := Lib.hid (HBr.out.bel bs)
          have HKs := Lib.hid ((bs.block _ (blk_lt HKr.out)).trans HKr.out)
          have HDs := Lib.hid ((bs.block _ (blk_lt HDr.out)).trans HDr.out)
          have hD12 : D1 < D2 := by omega
          clear hI hKd2 HNq HBq HKq HQq HCc bs hws HNr HBr HKr HDr HPu HNn c3 HC3
          go_wp2_with (first | (go_at_call 10; refine (HNum.out _ _).mono ?_; rintro e w' ⟨rfl, rfl⟩) | (go_at_call 11; fail))
          rw [← Es.out]
          refine HPn.out.mono ?_
          rintro e w' ⟨rfl, rfl⟩
          go_wp2_with (first | (go_at_call 10; refine (HNum.out _ _).mono ?_; rintro e w' ⟨rfl, rfl⟩) | (go_at_call 13; refine HLn.out.mono ?_; rintro e w' ⟨rfl, rfl⟩) | (go_at_call 14; refine HRn.out.mono ?_; rintro e w' ⟨rfl, rfl⟩) | (go_at_call 17; refine HCn.out.mono ?_; rintro e w' ⟨rfl, rfl⟩) | (go_at_call 18; fail))
          refine HS2.out.mono ?_
          rintro e w' ⟨rfl, rfl⟩
          go_wp2_with fail
          refine HS1.out.mono ?_
          rintro e w' ⟨rfl, rfl⟩
          go_wp2_with fail
          refine (HWk.out _).mono ?_
          rintro e wt ⟨rfl, hb⟩
          have HBt := Lib.hid (HBs.out.bel hb)
          have HDt := Lib.hid ((hb.block _ (blk_lt HKs.out)).trans HKs.out)
          have HEt := Lib.hid ((hb.block _ (blk_lt HDs.out)).trans HDs.out)
          obtain ⟨c6, f6⟩ := HBt.out.res
          have hlt := HBt.out.lt
          clear hb HBs HKs HDs HPn HLn HRn HCn HS2 HS1
          go_wp2_with fail
          have hk1 := (KeepsOthers.setCell wt ⟨w.heap.size + 1, 0, none⟩ (.bool true)).same D2 _ HEt.out rfl
          have hk0 := (KeepsOthers.setCell wt ⟨w.heap.size + 1, 0, none⟩ (.bool true)).same D1 _ HDt.out rfl
          have hk00 := ((grownBy_putObj' (wt.setCell ⟨w.heap.size + 1, 0, none⟩ (.bool true)) D2 (.deferred none)).block D1 (Array.getElem?_eq_some_iff.1 hk0).1 (fun e => by cases e; omega)).trans hk0
          have hc5 := cell_kept (World.cell?_setCell_same' wt ⟨w.heap.size + 1, 0, none⟩ (.bool true) (by rw [c6]; rfl)) (grownBy_putObj' _ D2 (.deferred none)) (fun r e => by cases e; exact ⟨_, hk1, rfl⟩)
          have hc6 := cell_kept hc5 (grownBy_putObj' _ D1 (.deferred none)) (fun r e => by cases e; exact ⟨_, hk00, rfl⟩)
          refine ⟨by simp, .inl ⟨_, _, rfl, run_takeDeferred hk1, ⟨by simp, .inl ⟨_, _, rfl, run_takeDeferred hk00, ?_⟩⟩⟩⟩
          refine ⟨.bool true, ?_, rfl, ((HBt.out.below.setCell (p := ⟨w.heap.size + 1, 0, none⟩) (by simp) _).trans (belowK_b (w := w) (Nat.le_refl _) _ D2 _ _ (by omega) hk1 rfl rfl)).trans (belowK_b (w := w) (Nat.le_refl _) _ D1 _ _ (by omega) hk00 rfl rfl)⟩
          simp [results, Try.f6, go_sem, hc6]
end Go.Proofs.Ytkikdpfhcepeaaa
