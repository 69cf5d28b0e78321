/-
  The document's ring: Put.
-/
import Derived.Test.YthiajgkifoimcaaTa
namespace Go.Proofs.Ythiajgkifoimcaa
open Go.RowKit
set_option linter.unusedVariables false
set_option linter.unusedSimpArgs false

theorem RL.row {w : World} {base : Nat} {ao : Option Addr} {n cap : Nat} {L : List Int} (h : w.ownsRow base 3 1 (.slice ao n cap) n (L.map (.int .i64))) : RL w base ao n cap L := by
  have hl : L.length = n := by have := h.1; simpa using this
  rcases h.2 with ⟨e, rfl⟩ | ⟨g, cap', cur, e, hb, hg, hnc, hcm, hcs, htk⟩
  · cases e
    exact ⟨hl, Nat.le_refl _, by simp [maxLen], fun _ => rfl, fun h => by omega⟩
  · cases e
    refine ⟨hl, hnc, hcm, (fun e => by cases e), fun hp => ⟨g, 0, rfl, hb, blk_lt hg, fun j hj => ?_⟩⟩
    rw [Nat.zero_add, h.cellAt j (by omega), List.getElem?_map]
    simp [List.getD, show j < L.length by omega]
theorem RL.news {w : World} {lo : Nat} {ao : Option Addr} {n cap : Nat} {L : List Int} (h : RL w lo ao n cap L) : ∀ ad, ao = some ad → ∀ j u, (L.map (Value.int .i64))[j]? = some u → w.cell? (ad.add j) = some u := by
  rintro ad rfl j u hj
  have hj1 := (List.getElem?_eq_some_iff.1 hj).1
  rw [List.length_map, h.len] at hj1
  obtain ⟨b, off, e, _, hb, hc⟩ := h.at_ (by omega)
  cases e
  have hz : L[j]? = some (L.getD j 0) := by
    have : j < L.length := by have := h.len; omega
    simp [List.getD, this]
  rw [List.getElem?_map, hz] at hj
  cases hj
  rw [show (⟨b, off, none⟩ : Addr).add j = ⟨b, off + j, none⟩ from WideShapes.add_plain b off j]
  exact hc j hj1
theorem RL.none2 {w : World} {lo : Nat} {ao : Option Addr} {n cap : Nat} {L : List Int} (h : RL w lo ao n cap L) : ao = none → n = 0 ∧ cap = 0 := fun e => by
  have := h.nn e; have := h.le; omega
theorem three {w : World} {b : Nat} {a0 a1 a2 : Value} {t : TypeId} (h : w.heap[b]? = some (.cells #[a0, a1, a2] t (0, 0))) :
    w.cell? ⟨b, 0, none⟩ = some a0 ∧ w.cell? ⟨b, 1, none⟩ = some a1 ∧ w.cell? ⟨b, 2, none⟩ = some a2 ∧
    w.frozen? ⟨b, 0, none⟩ = false ∧ w.frozen? ⟨b, 1, none⟩ = false ∧ w.frozen? ⟨b, 2, none⟩ = false :=
  ⟨cell_blk h 0 _ rfl, cell_blk h 1 _ rfl, cell_blk h 2 _ rfl, frozen_blk h 0, frozen_blk h 1, frozen_blk h 2⟩

set_option maxHeartbeats 1600000 in
theorem refPut_full (ao : Option Addr) (n cap : Nat) (F m val : Int) (w : World) (hn : n ≤ 4096) (h0 : 0 ≤ F) (h1 : F + n = 18446744073709551615) :
    Calls Try.prog 30 #[ragg ao n cap F m, .int .i64 val] w fun e w' => e = .returned (.tuple #[ragg ao n cap F m, .int .u64 0, .int .i64 0, .bool false, .int .i64 111]) ∧ Below w.heap.size w w' := by
  have HH := Lib.hid (fun W => refNext ao n cap F m W hn h0 (by omega))
  have hb0 := ((Below.refl _ w).alloc (Nat.le_refl _) (.cells #[.slice ao n cap, .int .u64 F, .int .i64 m] 40)).alloc (by simp) (.cells #[.slice none 0 0, .int .u64 0, .int .i64 0] 40)
  have HB := Lib.hid hb0
  have k0 := alloc_blk (alloc_blk_new w (.cells #[.slice ao n cap, .int .u64 F, .int .i64 m] 40)) (.cells #[.slice none 0 0, .int .u64 0, .int .i64 0] 40)
  have k1 : ((w.alloc (.cells #[.slice ao n cap, .int .u64 F, .int .i64 m] 40)).alloc (.cells #[.slice none 0 0, .int .u64 0, .int .i64 0] 40)).heap[w.heap.size + 1]? = some (.cells #[.slice none 0 0, .int .u64 0, .int .i64 0] 40 (0, 0)) := by
    have := alloc_blk_new (w.alloc (.cells #[.slice ao n cap, .int .u64 F, .int .i64 m] 40)) (.cells #[.slice none 0 0, .int .u64 0, .int .i64 0] 40)
    simpa using this
  have HK0 := Lib.hid k0
  have HK1 := Lib.hid k1
  have hx : F + (n : Int) = 18446744073709551615 := h1
  rw [hx] at HH
  unfold ragg at HH ⊢
  clear h1 hx hb0 k0 k1
  go_enter Try.func30, Try.ntmps30
  go_wp2_with fail
  refine (HH.out _).mono ?_
  rintro e w1 ⟨rfl, hb1⟩
  have K0 := (hb1.block w.heap.size (by simp; omega)).trans HK0.out
  have K1 := (hb1.block (w.heap.size + 1) (by simp)).trans HK1.out
  obtain ⟨x0, x1, x2, _⟩ := three K0
  obtain ⟨y0, y1, y2, f0, f1, f2⟩ := three K1
  have hl1 := blk_lt K1
  have HB1 := Lib.hid (HB.out.trans (hb1.mono (by simp; omega)))
  clear K0 K1 hb1
  go_wp2
  refine bodyPost_ret (v := .tuple #[.agg #[.slice ao n cap, .int .u64 F, .int .i64 m], .int .u64 0, .int .i64 0, .bool false, .int .i64 111]) (by simp [results, Try.results30, go_sem, *]) rfl ⟨rfl, ?_⟩
  exact ((HB1.out.setCell (p := ⟨w.heap.size + 1, 0, none⟩) (by simp) _).setCell (p := ⟨w.heap.size + 1, 1, none⟩) (by simp) _).setCell (p := ⟨w.heap.size + 1, 2, none⟩) (by simp) _

set_option maxHeartbeats 3200000 in
set_option maxRecDepth 100000 in
theorem refPut_any (lo : Nat) (ao : Option Addr) (n cap : Nat) (F m val : Int) (L : List Int) (w : World) (h : RL w lo ao n cap L) (hn : n ≤ 4096) (h0 : 0 ≤ F) (h1 : F + n < 18446744073709551615) (hm : (n : Int) ≤ m) (hm1 : 1 ≤ m) (hm2 : m ≤ 4096) :
    Calls Try.prog 30 #[ragg ao n cap F m, .int .i64 val] w fun e w' => ∃ ao' cap',
      ((n : Int) < m → e = .returned (.tuple #[ragg ao' (n + 1) cap' F m, .int .u64 (F + n), .int .i64 0, .bool false, .int .i64 0]) ∧ RL w' w.heap.size ao' (n + 1) cap' (L ++ [val])) ∧
      (∀ y L', (n : Int) = m → L = y :: L' → e = .returned (.tuple #[ragg ao' n cap' (F + 1) m, .int .u64 (F + n), .int .i64 y, .bool true, .int .i64 0]) ∧ RL w' w.heap.size ao' n cap' (L' ++ [val])) ∧ Below w.heap.size w w' := by
  obtain ⟨i0, hi0, hz0, hz1, hz2⟩ := info_parts Try.info3
  have HH := Lib.hid (fun W => refNext ao n cap F m W hn h0 (by omega))
  have hb0 := ((Below.refl _ w).alloc (Nat.le_refl _) (.cells #[.slice ao n cap, .int .u64 F, .int .i64 m] 40)).alloc (by simp) (.cells #[.slice none 0 0, .int .u64 0, .int .i64 0] 40)
  have HB := Lib.hid hb0
  have k0 := alloc_blk (alloc_blk_new w (.cells #[.slice ao n cap, .int .u64 F, .int .i64 m] 40)) (.cells #[.slice none 0 0, .int .u64 0, .int .i64 0] 40)
  have k1 : ((w.alloc (.cells #[.slice ao n cap, .int .u64 F, .int .i64 m] 40)).alloc (.cells #[.slice none 0 0, .int .u64 0, .int .i64 0] 40)).heap[w.heap.size + 1]? = some (.cells #[.slice none 0 0, .int .u64 0, .int .i64 0] 40 (0, 0)) := by
    have := alloc_blk_new (w.alloc (.cells #[.slice ao n cap, .int .u64 F, .int .i64 m] 40)) (.cells #[.slice none 0 0, .int .u64 0, .int .i64 0] 40)
    simpa using this
  have HK0 := Lib.hid k0
  have HK1 := Lib.hid k1
  have HR := Lib.hid h
  obtain ⟨N, hN⟩ : ∃ N, F + (n : Int) = N := ⟨_, rfl⟩
  rw [hN] at HH ⊢
  have hN1 : N < 18446744073709551615 := by omega
  have hd1 : decide (18446744073709551614 < N) = false := by simp; omega
  have HNe := Lib.hid hN
  unfold ragg at HH ⊢
  clear h hb0 k0 k1 hN
  go_enter Try.func30, Try.ntmps30
  go_wp2_with fail
  refine (HH.out _).mono ?_
  rintro e w1 ⟨rfl, hb1⟩
  have hbw := HB.out.trans (hb1.mono (by simp; omega))
  have HB1 := Lib.hid hbw
  have K0 := (hb1.block w.heap.size (by simp; omega)).trans HK0.out
  have K1 := (hb1.block (w.heap.size + 1) (by simp)).trans HK1.out
  have hl1 := blk_lt K1
  have hl0 : w.heap.size < w1.heap.size := by omega
  have HRw : Hid ((w1.alloc (.cells #[] 3)).ownsRow w1.heap.size 3 1 (.slice (some ⟨w1.heap.size, 0, none⟩) 0 0) 0 []) := Lib.hid (World.ownsRow_lit w1 #[] 0 (Nat.le_refl _) (by simp) rfl)
  have HRL := Lib.hid ((HR.out.below hbw).below ((Below.refl _ w1).alloc (Nat.le_refl _) (.cells #[] 3)))
  obtain ⟨x0, x1, x2, _⟩ := three K0
  have HKa := Lib.hid K0
  have HKb := Lib.hid K1
  clear hbw K0 K1 hb1 HK0 HK1
  go_wp2_with (at_builtin; refine wpList_append_f _ rfl (.tmp 16) (.tmp 18) 23 rfl w1.heap.size 3 i0 (.int .i64 0) 1 8 Try.underlying23 hi0 hz0 hz1 hz2 rfl (by decide) _ _ _ rfl HRw.out ao n cap (L.map (Value.int .i64)) rfl ?c1 HRL.out.none2 HRL.out.news ?c2 ?c3 ?c4 ?c5 ?_)
  case c1 => have := HRL.out.len; simp; omega
  case c2 => intro u hu; obtain ⟨z, _, rfl⟩ := List.mem_map.1 hu; rfl
  case c3 => unfold maxLen; omega
  case c4 => omega
  case c5 => simp
  intro v2 w2 hown2 hg2 hf2 _
  have hown2 : w2.ownsRow w1.heap.size 3 1 v2 n (L.map (.int .i64)) := by simpa using hown2
  obtain ⟨ao2, cap2, rfl⟩ := row_slice hown2
  have hg2' : (w1.alloc (.cells #[] 3)).grownBy w2 (some w1.heap.size) := hg2
  have HB2 := Lib.hid ((HB1.out.alloc (by omega) (.cells #[] 3)).grown hg2' (by simp; omega) (fun k e => by cases e; omega))
  have K0 := (hg2'.block w.heap.size (by simp; omega) (fun e => by injection e; omega)).trans (alloc_blk HKa.out _)
  have K1 := (hg2'.block (w.heap.size + 1) (by simp; omega) (fun e => by injection e; omega)).trans (alloc_blk HKb.out _)
  have HKc := Lib.hid K0
  have HKd := Lib.hid K1
  have HO2 := Lib.hid hown2
  have hs2 : w1.heap.size + 1 ≤ w2.heap.size := by have := hg2'.size; simpa using this
  clear K0 K1 hown2 hg2 hg2' hf2 HKa HKb x0 x1 x2 HRw HRL
  go_wp2_with (at_builtin; refine wpList_append_f _ rfl (.tmp 19) (.tmp 21) 23 rfl w1.heap.size 3 i0 (.int .i64 0) 1 8 Try.underlying23 hi0 hz0 hz1 hz2 rfl (by decide) _ _ _ rfl (HO2.out.alloc _) (some ⟨w2.heap.size, 0, none⟩) 1 1 [.int .i64 val] rfl rfl (fun h => by cases h) ?d1 ?d2 ?d3 ?d4 ?d5 ?_)
  case d1 => rintro ad h j u hj; cases h; exact cell_one_new _ _ _ j u hj
  case d2 => intro u hu; simp at hu; subst hu; rfl
  case d3 => unfold maxLen; omega
  case d4 => omega
  case d5 => simp; omega
  intro v3 w3 hown3 hg3 hf3 _
  have hown3' : w3.ownsRow w1.heap.size 3 1 v3 (n + 1) ((L ++ [val]).map (.int .i64)) := by simpa using hown3
  obtain ⟨ao3, cap3, rfl⟩ := row_slice hown3'
  have hlt2 := HO2.out.lt
  have HB3 := Lib.hid ((HB2.out.alloc (by omega) (.cells #[.int .i64 val] 3)).grown hg3 (by simp; omega) (fun k e => by have := (hlt2 k e).1; omega))
  have K0 := (hg3.block w.heap.size (by simp; omega) (fun e => by have := (hlt2 _ e.symm).1; omega)).trans (alloc_blk HKc.out _)
  have K1 := (hg3.block (w.heap.size + 1) (by simp; omega) (fun e => by have := (hlt2 _ e.symm).1; omega)).trans (alloc_blk HKd.out _)
  have hs3 : w2.heap.size + 1 ≤ w3.heap.size := by have := hg3.size; simpa using this
  have HR3 := Lib.hid (RL.row hown3')
  obtain ⟨x0, x1, x2, _⟩ := three K0
  obtain ⟨y0, y1, y2, f0, f1, f2⟩ := three K1
  have hl3 : w.heap.size < w3.heap.size := by omega
  have hl4 : w.heap.size + 1 < w3.heap.size := by omega
  have HKe := Lib.hid K1
  clear K0 K1 hown3 hown3' hg3 hf3 HKc HKd hlt2 HO2
  by_cases hr : (n : Int) < m
  · have hd : decide ((n : Int) + 1 ≤ m) = true := by simp; omega
    have hd2 : decide (((n + 1 : Nat) : Int) ≤ m) = true := by simp; omega
    go_wp2
    refine bodyPost_ret (v := .tuple #[.agg #[.slice ao3 (n + 1) cap3, .int .u64 F, .int .i64 m], .int .u64 N, .int .i64 0, .bool false, .int .i64 0]) (by simp [results, Try.results30, go_sem, *]) rfl ⟨ao3, cap3, fun _ => ⟨rfl, ?_⟩, fun y L' e => absurd e (by omega), ?_⟩
    · have hm := (((Mod.refl (fun q => q = w.heap.size + 1) w3).setCell ⟨w.heap.size + 1, 0, none⟩ (.inl rfl) (.slice ao3 (n + 1) cap3)).setCell ⟨w.heap.size + 1, 1, none⟩ (.inl rfl) (.int .u64 F)).setCell ⟨w.heap.size + 1, 2, none⟩ (.inl rfl) (.int .i64 m)
      exact (HR3.out.mod hm (fun b off hp e hb => by
        obtain ⟨b', off', e', hl, _⟩ := HR3.out.at_ hp
        rw [e] at e'; cases e'; have := hb; omega)).mono (by omega)
    · exact ((HB3.out.setCell (p := ⟨w.heap.size + 1, 0, none⟩) (by simp) _).setCell (p := ⟨w.heap.size + 1, 1, none⟩) (by simp) _).setCell (p := ⟨w.heap.size + 1, 2, none⟩) (by simp) _
  · obtain rfl : m = n := by omega
    have hd : decide ((n : Int) + 1 ≤ n) = false := by simp; omega
    have hd2 : decide (((n + 1 : Nat) : Int) ≤ (n : Int)) = false := by simp; omega
    by_cases hn0 : n = 0
    · omega
    · obtain ⟨y, L', rfl⟩ : ∃ y L', L = y :: L' := by
        cases L with
        | nil => exact absurd HR.out.len (by simp; omega)
        | cons y L' => exact ⟨y, L', rfl⟩
      obtain ⟨b3, off3, rfl, hlo3, hb3, hc3⟩ := HR3.out.at_ (by omega)
      have hc0 := hc3 0 (by omega)
      have hc1 : w3.cell? ⟨b3, off3, none⟩ = some (.int .i64 y) := by simpa [List.getD] using hc0
      have hadd : IntKind.u64.wrap (F + 1) = F + 1 := by rw [IntKind.wrap_u64]; omega
      have hle := HR3.out.le
      have hmx := HR3.out.mx
      unfold maxLen at hmx
      have hcap2 : (1 : Int) < cap3 := by omega
      have hcap3 : 1 < cap3 := by omega
      have hcap4 : ¬ (1 : Int) = cap3 := by omega
      have hcap5 : ¬ 1 = cap3 := by omega
      clear hc3 hc0
      go_wp2
      go_region
      all_goals
        go_wp2
        refine bodyPost_ret (v := .tuple #[.agg #[.slice (some ⟨b3, off3 + 1, none⟩) n (cap3 - 1), .int .u64 (F + 1), .int .i64 n], .int .u64 N, .int .i64 y, .bool true, .int .i64 0]) (by simp [results, Try.results30, go_sem, *]) rfl ⟨⟨_, _, rfl, ?_⟩, ?_⟩
        · have hm := ((((Mod.refl (fun q => q = w.heap.size + 1) w3).setCell ⟨w.heap.size + 1, 0, none⟩ (.inl rfl) (.slice (some ⟨b3, off3 + 1, none⟩) n (cap3 - 1))).setCell ⟨w.heap.size + 1, 1, none⟩ (.inl rfl) (.int .u64 (F + 1))).setCell ⟨w.heap.size + 1, 2, none⟩ (.inl rfl) (.int .i64 n)).drew
          have hr := ((HR3.out.drop (j := 1) (by omega)).mod hm (fun b off hp e hb => by cases e; have := hb; omega)).mono (lo' := w.heap.size) (by omega)
          simpa using hr
        · exact (((HB3.out.setCell (p := ⟨w.heap.size + 1, 0, none⟩) (by simp) _).setCell (p := ⟨w.heap.size + 1, 1, none⟩) (by simp) _).setCell (p := ⟨w.heap.size + 1, 2, none⟩) (by simp) _).drew
end Go.Proofs.Ythiajgkifoimcaa
