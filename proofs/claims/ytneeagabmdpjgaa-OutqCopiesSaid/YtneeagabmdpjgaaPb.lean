/-
  The document's queue: Left.
-/
import Derived.Test.YtneeagabmdpjgaaPa
namespace Go.Proofs.Ytneeagabmdpjgaa
open Go.RowKit
set_option linter.unusedVariables false
set_option linter.unusedSimpArgs false

/-- How many bytes of each frame wait. -/
def lefts : List ByteArray → Nat → List Int
  | [], _ => []
  | s :: l, g => ((s.size : Int) - g) :: l.map fun s => (s.size : Int)
theorem lefts_len (ss : List ByteArray) (g : Nat) : (lefts ss g).length = ss.length := by
  cases ss <;> simp [lefts]
theorem lefts_take (ss : List ByteArray) (g i : Nat) (h : i < ss.length) : (lefts ss g).take (i + 1) = (lefts ss g).take i ++ [if i = 0 then ((ss.getD i ⟨#[]⟩).size : Int) - g else ((ss.getD i ⟨#[]⟩).size : Int)] := by
  have hl : i < (lefts ss g).length := by rw [lefts_len]; exact h
  rw [List.take_succ_eq_append_getElem hl]
  congr 1
  cases ss with
  | nil => simp at h
  | cons s l =>
    cases i with
    | zero => simp [lefts]
    | succ i =>
      have : i < l.length := by simpa using h
      simp [lefts, List.getD, this]

set_option maxHeartbeats 1600000 in
set_option maxRecDepth 100000 in
theorem refLeft_any {T : Nat → Prop} (a : Option Addr) (n c g : Nat) (m : Int) (ss : List ByteArray) (w : World) (h : StrR T w a n ss) (hn : n ≤ 2000000) (ht : ∀ s ∈ ss, s.size ≤ 1000000000) (hg : g ≤ 1000000000) :
    Calls Try.prog 21 #[.agg #[.slice a n c, .int .i64 g, .int .i64 m]] w fun e w' => ∃ a' c', e = .returned (.slice a' n c') ∧ w'.ownsRow w.heap.size 3 1 (.slice a' n c') n ((lefts ss g).map (.int .i64)) ∧ Below w.heap.size w w' := by
  obtain ⟨i0, hi0, hz0, hz1, hz2⟩ := info_parts Try.info3
  obtain ⟨w1, hw1⟩ : ∃ W, W = w.alloc (.cells #[.slice a n c, .int .i64 g, .int .i64 m] 43) := ⟨_, rfl⟩
  obtain ⟨X, hX⟩ : ∃ X, X = w.heap.size := ⟨_, rfl⟩
  have hb1 : Below w.heap.size w w1 := by rw [hw1]; exact (Below.refl _ w).alloc (Nat.le_refl _) _
  have k1 : w1.heap[X]? = some (.cells #[.slice a n c, .int .i64 g, .int .i64 m] 43 (0, 0)) := by rw [hw1, hX]; exact alloc_blk_new _ _
  have HH := Lib.hid (h.below hb1)
  have HL := Lib.hid h.1
  have HB := Lib.hid hb1
  have E1 := Lib.hid hw1
  have EX := Lib.hid hX
  have K1 := Lib.hid k1
  have HTs := Lib.hid ht
  clear h hw1 hX hb1 k1 ht
  go_enter Try.func21, Try.ntmps21
  go_upto_region 3 with fail
  rw [← E1.out, ← EX.out]
  go_wp2_with fail
  go_loopg [3, 4] n (fun gk v3 v4 wr => ∃ (i : Nat) (a' : Option Addr) (c' : Nat), v3 = .slice a' i c' ∧ v4 = .int .i64 i ∧ i ≤ n ∧ gk = n - i ∧ wr.ownsRow w1.heap.size 3 1 (.slice a' i c') i (((lefts ss g).take i).map (.int .i64)) ∧ Below w1.heap.size w1 wr)
  case atStart => exact ⟨0, none, 0, rfl, rfl, by omega, rfl, World.ownsRow_nil _ _ _ _, Below.refl _ _⟩
  case round =>
    obtain ⟨i, a', c', rfl, rfl, hi, hgk, hrow, hbw⟩ := hrel
    have HG := Lib.hid hgk
    have HR := Lib.hid hrow
    have HBw := Lib.hid hbw
    have kx := (hbw.block X (blk_lt K1.out)).trans K1.out
    have c0 := cell_blk kx 0 _ rfl
    have c1 := cell_blk kx 1 _ rfl
    have lX := blk_lt kx
    clear hgk hrow hbw kx
    by_cases hlt : i < n
    · obtain ⟨b, off, rfl, hb, _, hc⟩ := (HH.out.below HBw.out).2 (by omega)
      obtain ⟨s, hs⟩ : ∃ s, s = ss.getD i ⟨#[]⟩ := ⟨_, rfl⟩
      have y1 := hc i hlt
      rw [← hs] at y1
      have hsm : s.size ≤ 1000000000 := HTs.out s (by
        rw [hs]
        have : i < ss.length := by have := HL.out; omega
        simp [List.getD, this])
      have hst := lefts_take ss g i (by have := HL.out; omega)
      rw [← hs] at hst
      obtain ⟨x, hx⟩ : ∃ x : Int, x = if i = 0 then (s.size : Int) - g else (s.size : Int) := ⟨_, rfl⟩
      rw [← hx] at hst
      have HST := Lib.hid hst
      obtain ⟨w2, hw2⟩ : ∃ W, W = wr.alloc (.cells #[.int .i64 x] 3) := ⟨_, rfl⟩
      have hb2 : Below wr.heap.size wr w2 := by rw [hw2]; exact (Below.refl _ wr).alloc (Nat.le_refl _) _
      have k2 : w2.heap[wr.heap.size]? = some (.cells #[.int .i64 x] 3 (0, 0)) := by rw [hw2]; exact alloc_blk_new _ _
      have HR2 := Lib.hid ((Mod.of_below hb2 (fun _ => False)).row HR.out (fun _ _ h => h))
      have HB2 := Lib.hid (HBw.out.trans (hb2.mono HBw.out.size))
      have HN := Lib.hid (fun (ad : Addr) (e : some (⟨wr.heap.size, 0, none⟩ : Addr) = some ad) j u (hj : [Value.int .i64 x][j]? = some u) => (show w2.cell? (ad.add j) = some u by
        cases e
        match j, hj with
        | 0, hj => cases hj; exact cell_blk k2 0 _ rfl))
      have E2 := Lib.hid hw2
      have hs2 := HB2.out.size
      clear hc hs hst hb2 k2 hw2
      by_cases hi0' : i = 0
      · subst hi0'
        replace y1 : wr.cell? ⟨b, off, none⟩ = some (.string s) := y1
        have hx' : x = (s.size : Int) - g := by rw [hx]; rfl
        clear hx
        subst hx'
        go_wp2_with (at_builtin; go_loud (rw [← E2.out]); go_loud (refine wpList_append_f _ rfl (.tmp 25) (.tmp 27) 50 rfl w1.heap.size 3 i0 (.int .i64 0) 1 8 Try.underlying50 hi0 hz0 hz1 hz2 rfl (by decide) _ _ _ rfl HR2.out (some ⟨wr.heap.size, 0, none⟩) 1 1 [.int .i64 ((s.size : Int) - g)] rfl rfl (fun e => by cases e) HN.out (fun u hu => by simp at hu; subst hu; rfl) ?c3 ?c4 hs2 ?_))
        case c3 => unfold maxLen; omega
        case c4 => omega
        intro v3 w3 hown hg3 hf _
        have HB3 := Lib.hid (HB2.out.grown hg3 hs2 (fun k e => (HR2.out.lt k e).1))
        obtain ⟨a3, c3, rfl⟩ := row_slice hown
        have HO := Lib.hid hown
        clear hown hg3 hf HN
        go_wp2
        go_roundg (n - (0 + 1))
        case measure => have := HG.out; omega
        case rel => exact ⟨0 + 1, a3, c3, rfl, by go_num, by omega, rfl, by rw [HST.out, List.map_append]; first | exact HO.out | (rw [List.map_take]; exact HO.out), HB3.out⟩
      · have hx' : x = (s.size : Int) := by rw [hx, if_neg hi0']
        have d1 : ((i : Int) == 0) = false := by simp; omega
        clear hx
        subst hx'
        go_wp2_with (at_builtin; go_loud (rw [← E2.out]); go_loud (refine wpList_append_f _ rfl (.tmp 25) (.tmp 27) 50 rfl w1.heap.size 3 i0 (.int .i64 0) 1 8 Try.underlying50 hi0 hz0 hz1 hz2 rfl (by decide) _ _ _ rfl HR2.out (some ⟨wr.heap.size, 0, none⟩) 1 1 [.int .i64 (s.size : Int)] rfl rfl (fun e => by cases e) HN.out (fun u hu => by simp at hu; subst hu; rfl) ?d3 ?d4 hs2 ?_))
        case d3 => unfold maxLen; omega
        case d4 => omega
        intro v3 w3 hown hg3 hf _
        have HB3 := Lib.hid (HB2.out.grown hg3 hs2 (fun k e => (HR2.out.lt k e).1))
        obtain ⟨a3, c3, rfl⟩ := row_slice hown
        have HO := Lib.hid hown
        clear hown hg3 hf HN
        go_wp2
        go_roundg (n - (i + 1))
        case measure => have := HG.out; omega
        case rel => exact ⟨i + 1, a3, c3, rfl, by go_num, by omega, rfl, by rw [HST.out, List.map_append]; first | exact HO.out | (rw [List.map_take]; exact HO.out), HB3.out⟩
    · obtain rfl : i = n := by omega
      go_wp2
      go_ret
      have h := HR.out
      rw [List.take_of_length_le (by rw [lefts_len]; have := HL.out; omega)] at h
      exact ⟨a', c', rfl, ⟨h.1, h.2.imp id (fun ⟨g, cap, cur, e, h1, h2⟩ => ⟨g, cap, cur, e, Nat.le_trans HB.out.size h1, h2⟩)⟩, HB.out.trans (HBw.out.mono HB.out.size)⟩
end Go.Proofs.Ytneeagabmdpjgaa
