/-
  of; the calls that come; few.
-/
import Derived.Test.YtneeagabmdpjgaaOh
import Derived.Lib.ConvBytes
namespace Go.Proofs.Ytneeagabmdpjgaa
open Go.RowKit
set_option linter.unusedVariables false
set_option linter.unusedSimpArgs false

theorem Try.info29 : (Try.prog.info? 29).map (fun i => (i.zero, i.size, i.bytes)) = some (some (.slice none 0 0), 1, 24) := by kernel_rfl
/-- A text's bytes. -/
def nums (s : ByteArray) : List Int := s.data.toList.map fun b => (b.toNat : Int)
theorem nums_len (s : ByteArray) : (nums s).length = s.size := by
  rw [nums, List.length_map, Array.length_toList]
  rfl
theorem conv_new (s : ByteArray) (w : World) : ∃ c w', (convert 9 29 (.string s)).run Try.prog w = .ok (.slice (some ⟨w.heap.size, 0, none⟩) s.size c) w' ∧ Below w.heap.size w w' ∧ w'.heap.size = w.heap.size + 1 ∧
    Arg (fun k => k = w.heap.size) w' (some ⟨w.heap.size, 0, none⟩) s.size (nums s) := by
  refine ⟨_, _, Lib.run_convert_string_bytes w 9 29 5 s Try.underlying9 Try.underlying29 Try.underlying5, ⟨?_, ?_, ?_, by rw [Lib.bytesWorld_size]; omega, fun k hk => Lib.bytesWorld_at_old w 5 s k hk⟩, Lib.bytesWorld_size w 5 s, nums_len s, fun hp => ⟨_, 0, rfl, by rw [Lib.bytesWorld_size]; omega, rfl, fun j hj => ?_⟩⟩
  · simp only [Lib.bytesWorld, World.freeze, Nat.one_ne_zero, if_false]; rfl
  · simp only [Lib.bytesWorld, World.freeze, Nat.one_ne_zero, if_false]; rfl
  · simp only [Lib.bytesWorld, World.freeze, Nat.one_ne_zero, if_false]; rfl
  · rw [Nat.zero_add, Lib.bytesWorld_cell w 5 s j hj]
    have hl : j < s.data.toList.length := by rw [Array.length_toList]; exact hj
    simp only [nums, List.getD, List.getElem?_map, List.getElem?_eq_getElem hl, Option.map_some, Option.getD_some]

/-- What lies in a row of slices of bytes. -/
def Vals (T : Nat → Prop) (w : World) (vals : List Value) (ls : List (List Int)) : Prop :=
  vals.length = ls.length ∧ ∀ j, j < ls.length → ∃ a c, vals[j]? = some (.slice a (ls.getD j []).length c) ∧ Arg T w a (ls.getD j []).length (ls.getD j []) ∧ (a = none → (ls.getD j []).length = 0 ∧ c = 0)

set_option maxHeartbeats 1600000 in
theorem of_any (b0 n c : Nat) (ss : List ByteArray) (w : World) (hn : ss.length = n) (hln : n ≤ 1000) (hb0 : b0 < w.heap.size) (hs : ∀ j, j < n → w.cell? ⟨b0, j, none⟩ = some (.string (ss.getD j ⟨#[]⟩))) :
    Calls Try.prog 26 #[.slice (some ⟨b0, 0, none⟩) n c] w fun e w' => ∃ a c', e = .returned (.slice a n c') ∧ Below w.heap.size w w' ∧ (a = none → n = 0 ∧ c' = 0) ∧ Parts (fun k => w.heap.size ≤ k ∧ k < w'.heap.size) w' a (ss.map nums) := by
  obtain ⟨i0, hi0, hz0, hz1, hz2⟩ := info_parts Try.info29
  have HS := Lib.hid hs
  have HN := Lib.hid hn
  clear hs hn
  go_enter Try.func26, Try.ntmps26
  go_wp2
  go_loopg [3, 4] n (fun gk v3 v4 wr => ∃ (i : Nat) (a : Option Addr) (c' : Nat) (vals : List Value), v3 = .slice a i c' ∧ v4 = .int .i64 i ∧ i ≤ n ∧ gk = n - i ∧ wr.ownsRow w.heap.size 29 1 (.slice a i c') i vals ∧ Below w.heap.size w wr ∧
    Vals (fun k => w.heap.size ≤ k ∧ (Value.slice a i c').ownBlock ≠ some k) wr vals ((ss.map nums).take i))
  case atStart => exact ⟨0, none, 0, [], rfl, rfl, by omega, rfl, World.ownsRow_nil _ _ _ _, Below.refl _ _, by simp, fun j hj => by simp at hj⟩
  case round =>
    obtain ⟨i, a, c', vals, rfl, rfl, hi, hgk, hrow, hbw, hv⟩ := hrel
    have HG := Lib.hid hgk
    have HR := Lib.hid hrow
    have HB := Lib.hid hbw
    have HV := Lib.hid hv
    clear hgk hrow hbw hv
    by_cases hlt : i < n
    · obtain ⟨s, hs⟩ : ∃ s, s = ss.getD i ⟨#[]⟩ := ⟨_, rfl⟩
      have y1 := (HB.out.cell (p := ⟨b0, i, none⟩) hb0).trans (HS.out i hlt)
      rw [← hs] at y1
      have y2 : b0 < wr.heap.size := Nat.lt_of_lt_of_le hb0 HB.out.size
      obtain ⟨c1, w1, hrun, hb1, hs1, hA1⟩ := conv_new s wr
      obtain ⟨w2, hw2⟩ : ∃ W, W = w1.alloc (.cells #[.slice (some ⟨wr.heap.size, 0, none⟩) s.size c1] 29) := ⟨_, rfl⟩
      have hb2 : Below w1.heap.size w1 w2 := by rw [hw2]; exact (Below.refl _ w1).alloc (Nat.le_refl _) _
      have k2 : w2.heap[w1.heap.size]? = some (.cells #[.slice (some ⟨wr.heap.size, 0, none⟩) s.size c1] 29 (0, 0)) := by rw [hw2]; exact alloc_blk_new _ _
      have hb12 : Below wr.heap.size wr w2 := hb1.trans (hb2.mono hb1.size)
      have HR2 := Lib.hid ((Mod.of_below hb12 (fun _ => False)).row HR.out (fun _ _ h => h))
      have HB2 := Lib.hid (HB.out.trans (hb12.mono HB.out.size))
      have HN2 := Lib.hid (fun (ad : Addr) (e : some (⟨w1.heap.size, 0, none⟩ : Addr) = some ad) j u (hj : [Value.slice (some ⟨wr.heap.size, 0, none⟩) s.size c1][j]? = some u) => (show w2.cell? (ad.add j) = some u by
        cases e
        match j, hj with
        | 0, hj => cases hj; exact cell_blk k2 0 _ rfl))
      have HA2 := Lib.hid (hA1.below hb2)
      have hsw : wr.heap.size + 1 ≤ w2.heap.size := by have := hb2.size; omega
      have E2 := Lib.hid hw2
      have HSs := Lib.hid hs
      have HB12 := Lib.hid hb12
      have hs0 := HB2.out.size
      clear hb1 hA1 hb2 k2 hw2 hs hb12 hs1
      go_wp2_with (at_builtin; go_loud (rw [← E2.out]); go_loud (refine wpList_append_f _ rfl (.tmp 11) (.tmp 17) 30 rfl w.heap.size 29 i0 (.slice none 0 0) 1 24 Try.underlying30 hi0 hz0 hz1 hz2 rfl (by decide) _ _ _ rfl HR2.out (some ⟨w1.heap.size, 0, none⟩) 1 1 [.slice (some ⟨wr.heap.size, 0, none⟩) s.size c1] rfl rfl (fun e => by cases e) HN2.out (fun u hu => by simp at hu; subst hu; rfl) ?c3 ?c4 hs0 ?_))
      case c3 => unfold maxLen; omega
      case c4 => omega
      intro v3 w3 hown hg hf _
      have hb3 : Below w.heap.size w w3 := HB2.out.grown hg hs0 (fun k e => (HR2.out.lt k e).1)
      obtain ⟨a3, c3, rfl⟩ := row_slice hown
      have hbs := HB.out.size
      have hrl := fun k hk => (HR.out.lt k hk)
      have hm3 : Mod (fun k => (Value.slice a i c').ownBlock = some k) w2 w3 := ⟨hg.os, hg.tape, hg.output, hg.size, fun k hk hn => hg.block k hk (fun e => hn e.symm)⟩
      have hv3 : Vals (fun k => w.heap.size ≤ k ∧ (Value.slice a3 (i + 1) c3).ownBlock ≠ some k) w3 (vals ++ [.slice (some ⟨wr.heap.size, 0, none⟩) s.size c1]) ((ss.map nums).take (i + 1)) := by
        obtain ⟨v1, v2⟩ := HV.out
        have hn := HN.out
        have htk : (ss.map nums).take (i + 1) = (ss.map nums).take i ++ [nums s] := by
          have : i < (ss.map nums).length := by simp; omega
          rw [List.take_succ_eq_append_getElem this, HSs.out]
          simp [List.getD, show i < ss.length by omega]
        have htl : ((ss.map nums).take i).length = i := by simp; omega
        rw [htl] at v1 v2
        refine ⟨by simp [v1]; omega, fun j hj => ?_⟩
        rw [htk, List.length_append, htl] at hj
        simp only [List.length_singleton] at hj
        rw [htk]
        rcases Nat.lt_or_ge j i with h | h
        · obtain ⟨aj, cj, e1, e2, e3⟩ := v2 j h
          have hgd : ((ss.map nums).take i ++ [nums s]).getD j [] = ((ss.map nums).take i).getD j [] := by
            simp only [List.getD]; rw [List.getElem?_append_left (by omega)]
          rw [hgd]
          refine ⟨aj, cj, by rw [List.getElem?_append_left (by omega)]; exact e1, (((e2.mono (U := fun k => (w.heap.size ≤ k ∧ (Value.slice a i c').ownBlock ≠ some k) ∧ k < wr.heap.size) (fun k h1 hk => ⟨hk, h1⟩)).below HB12.out).mod hm3 (fun k hk e => hk.1.2 e)).mono fun k _ hk => ⟨hk.1.1, fun e => ?_⟩, e3⟩
          rcases hf k e with h' | h'
          · exact hk.1.2 h'
          · have := hk.2; omega
        · obtain rfl : j = i := by omega
          have hgd : ((ss.map nums).take j ++ [nums s]).getD j [] = nums s := by
            simp only [List.getD]; rw [List.getElem?_append_right (by omega), htl]; simp
          rw [hgd, nums_len]
          refine ⟨some ⟨wr.heap.size, 0, none⟩, c1, by rw [List.getElem?_append_right (by omega), v1]; simp, (HA2.out.mod hm3 (fun k hk e => by have := (hrl k e).2; omega)).mono fun k _ hk => ⟨by omega, fun e => ?_⟩, fun e => by cases e⟩
          rcases hf k e with h' | h'
          · have := (hrl k h').2; omega
          · omega
      have HV3 := Lib.hid hv3
      have HB3 := Lib.hid hb3
      have HR3 := Lib.hid hown
      clear hown hg hf hb3 hm3 hv3 HR2 HB2 HN2 HA2
      go_wp2
      go_roundg (n - (i + 1))
      case measure => have := HG.out; omega
      case rel => exact ⟨i + 1, a3, c3, _, rfl, by go_num, by omega, rfl, HR3.out, HB3.out, HV3.out⟩
    · obtain rfl : i = n := by omega
      go_wp2
      go_ret
      have hn := HN.out
      obtain ⟨v1, v2⟩ := HV.out
      have htk : (ss.map nums).take i = ss.map nums := List.take_of_length_le (by simp; omega)
      rw [htk] at v1 v2
      have hrow := HR.out
      refine ⟨a, c', rfl, HB.out, fun e => ?_, fun hp => ?_⟩
      · subst e
        rcases hrow.2 with ⟨e, _⟩ | ⟨g', c', cur, e, _⟩
        · injection e with e1 e2 e3
          exact ⟨e2, e3⟩
        · cases e
      · have hp' : 0 < i := by simpa [hn] using hp
        obtain ⟨g, cap, cur, e, hgb, hgg, _, _, _, htk⟩ := row_some hrow hp'
        cases e
        refine ⟨g, 0, rfl, blk_lt hgg, ⟨hgb, blk_lt hgg⟩, fun j hj => ?_⟩
        obtain ⟨aj, cj, e1, e2, e3⟩ := v2 j hj
        refine ⟨aj, cj, ?_, e2.mono (fun k h1 hk => ⟨hk.1, h1⟩), e3⟩
        rw [Nat.zero_add, hrow.cellAt j (by simp at hj; omega), e1]
end Go.Proofs.Ytneeagabmdpjgaa
