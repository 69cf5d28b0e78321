/-
  The law's of.
-/
import Derived.Test.YtfkfooclapogjaaWj
namespace Go.Proofs.Ytfkfooclapogjaa
open Go.RowKit
set_option linter.unusedVariables false
set_option linter.unusedSimpArgs false

set_option maxHeartbeats 1600000 in
set_option maxRecDepth 100000 in
theorem of_texts (b n c : Nat) (ss : List ByteArray) (W0 : World) (hn : ss.length = n) (hc : ∀ j s, ss[j]? = some s → W0.cell? ⟨b, j, none⟩ = some (.string s)) (hb : b < W0.heap.size) (hl : n ≤ 1000000) :
    Calls Try.prog 21 #[.slice (some ⟨b, 0, none⟩) n c] W0 fun e w' => ∃ ra rc, e = .returned (.slice ra n rc) ∧ w'.ownsRow W0.heap.size 35 2 (.slice ra n rc) n (lvs (ss.map (·, false))) ∧ Below W0.heap.size W0 w' := by
  obtain ⟨i0, hi0, hz0, hz1, hz2⟩ := info_parts Try.info35
  have HS := Lib.hid (And.intro hn hc)
  clear hn hc
  go_enter Try.func21, Try.ntmps21
  go_wp2_with fail
  go_loopg [3, 4] (n + 1) (fun gk v3 v4 wr => ∃ (j : Nat) (oa : Option Addr) (oc : Nat), v4 = .int .i64 j ∧ v3 = .slice oa j oc ∧ gk = n - j + 1 ∧ j ≤ n ∧ wr.ownsRow W0.heap.size 35 2 (.slice oa j oc) j (lvs ((ss.take j).map (·, false))) ∧ Below W0.heap.size W0 wr)
  case atStart => exact ⟨0, none, 0, rfl, rfl, rfl, Nat.zero_le _, World.ownsRow_nil _ _ _ _, Below.refl _ _⟩
  case round =>
    obtain ⟨j, oa, oc, rfl, rfl, hgk, hjn, hrow, hbw⟩ := hrel
    have HG := Lib.hid hgk
    have HROW := Lib.hid hrow
    have HB := Lib.hid hbw
    clear hgk hrow hbw
    rcases Nat.lt_or_ge j n with hlt | hge
    · have l1 : decide ((j : Int) < n) = true := by simpa using hlt
      obtain ⟨s, hs⟩ : ∃ s, ss[j]? = some s := ⟨ss[j]'(by have := HS.out.1; omega), List.getElem?_eq_some_iff.2 ⟨by have := HS.out.1; omega, rfl⟩⟩
      have c0 := (HB.out.cell (p := ⟨b, j, none⟩) hb).trans (HS.out.2 j s hs)
      have lb := Nat.lt_of_lt_of_le hb HB.out.size
      have j0 : (0 : Int) ≤ j := by omega
      have j2 : (j : Int) < n := by omega
      have j3 : wrap64 ((j : Int) + 1) = ((j + 1 : Nat) : Int) := by unfold wrap64; omega
      obtain ⟨w6, hw6⟩ : ∃ W, W = wr.alloc (.cells #[.string s, .bool false] 35) := ⟨_, rfl⟩
      have hb6 : Below wr.heap.size wr w6 := by rw [hw6]; exact (Below.refl _ wr).alloc (Nat.le_refl _) _
      have k6 : w6.heap[wr.heap.size]? = some (.cells #[.string s, .bool false] 35 (0, 0)) := by rw [hw6]; exact alloc_blk_new wr _
      have HN := Lib.hid (fun (ad : Addr) (e : some (⟨wr.heap.size, 0, none⟩ : Addr) = some ad) i u (hj : [Value.string s, .bool false][i]? = some u) => (show w6.cell? (ad.add i) = some u by
        cases e
        match i, hj with
        | 0, hj => cases hj; exact cell_blk k6 0 _ rfl
        | 1, hj => cases hj; exact cell_blk k6 1 _ rfl))
      have HROW6 := Lib.hid ((Mod.of_below hb6 (fun _ => False)).row HROW.out (fun _ _ h => h))
      have HB6 := Lib.hid (HB.out.trans (hb6.mono HB.out.size))
      have E6 := Lib.hid hw6
      have hbase6 := HB6.out.size
      have HSJ := Lib.hid hs
      clear hw6 hb6 k6 HROW HB hs
      go_wp2_with (at_builtin; go_loud (rw [← E6.out]); go_loud (refine wpList_append_f _ rfl (.tmp 11) (.tmp 17) 28 rfl W0.heap.size 35 i0 (.agg #[.string ⟨#[]⟩, .bool false]) 2 24 Try.underlying28 hi0 hz0 hz1 hz2 rfl (by decide) _ _ _ rfl HROW6.out (some ⟨wr.heap.size, 0, none⟩) 1 1 [.string s, .bool false] rfl rfl (fun e => by cases e) HN.out (by simp [Value.oneCell']) ?c3 ?c4 (by omega) ?_))
      case c3 => unfold maxLen; omega
      case c4 => omega
      intro v' w7 hown hg hf _
      have hb7 : Below W0.heap.size W0 w7 := HB6.out.grown hg hbase6 (fun k e => (HROW6.out.lt k e).1)
      have HB7 := Lib.hid hb7
      have HROW7 : Hid (w7.ownsRow W0.heap.size 35 2 v' (j + 1) (lvs ((ss.take (j + 1)).map (·, false)))) := Lib.hid (by
        rw [List.take_add_one, HSJ.out, List.map_append, lvs_append, List.map_take]; exact hown)
      obtain ⟨o7, c7, rfl⟩ := row_slice hown
      clear hown hg hf hb7 HROW6 HB6 HN E6
      go_wp2_with fail
      go_roundg (n - (j + 1) + 1)
      case measure => have := HG.out; omega
      case rel => exact ⟨j + 1, o7, c7, rfl, by go_num, rfl, by omega, HROW7.out, HB7.out⟩
    · have l1 : decide ((j : Int) < n) = false := by simp; omega
      obtain rfl : j = n := by omega
      have hr := HROW.out
      rw [List.take_of_length_le (by have := HS.out.1; omega)] at hr
      have HR := Lib.hid hr
      clear hr HROW
      go_wp2
      go_ret
      exact ⟨oa, oc, rfl, HR.out, HB.out⟩
end Go.Proofs.Ytfkfooclapogjaa
