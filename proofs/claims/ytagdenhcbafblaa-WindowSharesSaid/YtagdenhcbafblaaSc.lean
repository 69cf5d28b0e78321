/-
  Share, whatever the lengths; Shares of a window.
-/
import Derived.Test.YtagdenhcbafblaaSb
namespace Go.Proofs.Ytagdenhcbafblaa
open Go.RowKit Go.Shelf
set_option linter.unusedVariables false
set_option linter.unusedSimpArgs false

/-- A slice of numbers that lies in new memory. -/
def IsS (w : World) (b0 : Nat) (ao : Option Addr) (k : Nat) (ls : List Int) : Prop :=
  ls.length = k ∧ (0 < k → ∃ g, ao = some ⟨g, 0, none⟩ ∧ b0 ≤ g ∧ g < w.heap.size ∧ ∀ j, j < k → w.cell? ⟨g, 0 + j, none⟩ = some (.int .i64 (ls[j]?.getD 0)))
theorem IsS.nil (w : World) (b0 : Nat) (ao : Option Addr) : IsS w b0 ao 0 [] := ⟨rfl, fun h => by omega⟩
theorem row_isS {w : World} {b0 : Nat} {v : Value} {k : Nat} {ls : List Int} (h : w.ownsRow b0 3 1 v k (ls.map (.int .i64))) : ∃ ao cap, v = .slice ao k cap ∧ IsS w b0 ao k ls := by
  obtain ⟨ao, cap, rfl⟩ := row_slice h
  have hl : ls.length = k := by have := h.1; simpa using this
  refine ⟨ao, cap, rfl, hl, fun hp => ?_⟩
  obtain ⟨g, cap', cur, e, hb, hg, _⟩ := row_some h hp
  cases e
  refine ⟨g, rfl, hb, (Array.getElem?_eq_some_iff.1 hg).1, fun j hj => ?_⟩
  rw [Nat.zero_add, h.cellAt j (by omega), List.getElem?_map]
  simp [show j < ls.length by omega]
theorem IsS.below {w w' : World} {b0 : Nat} {ao : Option Addr} {k : Nat} {ls : List Int} (h : IsS w b0 ao k ls) (hb : Below w.heap.size w w') : IsS w' b0 ao k ls :=
  ⟨h.1, fun hp => by
    obtain ⟨g, e, h1, hl, hc⟩ := h.2 hp
    exact ⟨g, e, h1, Nat.lt_of_lt_of_le hl hb.size, fun j hj => (hb.cell (p := ⟨g, 0 + j, none⟩) hl).trans (hc j hj)⟩⟩
theorem IsS.arg {w : World} {b0 : Nat} {ao : Option Addr} {k : Nat} {ls : List Int} (h : IsS w b0 ao k ls) : Arg w ao k ls :=
  ⟨by have := h.1; omega, fun hp => by
    obtain ⟨g, e, _, hl, hc⟩ := h.2 hp
    exact ⟨g, 0, e, hl, fun j hj => by simpa [List.getD] using hc j hj⟩⟩
theorem IsS.mod {w w' : World} {S : Nat → Prop} {b0 : Nat} {ao : Option Addr} {k : Nat} {ls : List Int} (h : IsS w b0 ao k ls) (hm : Mod S w w') (hs : ∀ x, b0 ≤ x → x < w.heap.size → ¬ S x) : IsS w' b0 ao k ls :=
  ⟨h.1, fun hp => by
    obtain ⟨g, e, h1, hl, hc⟩ := h.2 hp
    exact ⟨g, e, h1, Nat.lt_of_lt_of_le hl hm.size, fun j hj => (hm.cell (p := ⟨g, 0 + j, none⟩) hl (hs g h1 hl)).trans (hc j hj)⟩⟩

/-- Where the first length lies that is below nought, or how many there are. -/
def FirstBad (n : Nat) (zs : List Int) (st : Nat) : Prop := st ≤ n ∧ (∀ j, j < st → 0 ≤ zs.getD j 0) ∧ (st < n → zs.getD st 0 < 0)
theorem firstBad (zs : List Int) : ∀ n : Nat, ∃ st, FirstBad n zs st
  | 0 => ⟨0, Nat.le_refl _, fun j h => by omega, fun h => by omega⟩
  | n + 1 => by
    obtain ⟨st, h1, h2, h3⟩ := firstBad zs n
    by_cases e : st < n
    · exact ⟨st, by omega, h2, fun _ => h3 e⟩
    · obtain rfl : st = n := by omega
      by_cases hz : zs.getD st 0 < 0
      · exact ⟨st, by omega, h2, fun _ => hz⟩
      · refine ⟨st + 1, by omega, fun j hj => ?_, fun h => by omega⟩
        by_cases e : j = st
        · subst e; omega
        · exact h2 j (by omega)

/-- What sharing tells, the program's or the document's. -/
def Told (w : World) (k : Nat) (ls : List Int) (er : Int) (e : Ending) (w' : World) : Prop :=
  ∃ ao cap, e = .returned (.tuple #[.slice ao k cap, .int .i64 er]) ∧ IsS w' w.heap.size ao k ls ∧ Below w.heap.size w w'

/-- The same is told by both. -/
theorem share_both (l g : Int) (s : Bool) (n : Nat) (zs : List Int) (hn : n ≤ 1000) (h0 : 0 ≤ l) (h1 : l ≤ 1099511627776) (hz : ∀ j, j < n → zs.getD j 0 ≤ 9223372036854775807) :
    ∃ (k : Nat) (ls : List Int) (er : Int), k ≤ n ∧ ls.length = k ∧
      (∀ (p : Nat) (ao : Option Addr) (cap : Nat) (w : World), Wi w p l g s → Arg w ao n zs → Calls Try.prog 14 #[.pointer (some ⟨p, 0, none⟩), .slice ao n cap] w (Told w k ls er)) ∧
      (∀ (ao : Option Addr) (cap : Nat) (w : World), Arg w ao n zs → Calls Try.prog 17 #[.agg #[.int .u64 l, .int .u64 g, .bool s], .slice ao n cap] w (Told w k ls er)) := by
  obtain ⟨st, hst, hp, hneg⟩ := firstBad zs n
  by_cases e : st < n
  · refine ⟨0, [], 2, by omega, rfl, fun p ao cap w h ha => ?_, fun ao cap w ha => ?_⟩
    · refine (Share_bad p l g s ao n cap zs w h ha hn ⟨st, e, hneg e⟩).mono ?_
      rintro e' w' ⟨rfl, rfl⟩
      exact ⟨none, 0, rfl, IsS.nil _ _ _, Below.refl _ _⟩
    · refine (refShare l g s ao n cap zs st w ha hn hst (fun j hj => ⟨hp j hj, hz j (by omega)⟩) hneg h0 h1).mono ?_
      rintro e' w' ⟨hb, _, h2⟩
      exact ⟨none, 0, h2 e, IsS.nil _ _ _, hb⟩
  · obtain rfl : st = n := by omega
    by_cases hlen : st ≤ zs.length
    · refine ⟨st, shareOf l (zs.take st), 0, by omega, by rw [shareOf_len, List.length_take]; omega, fun p ao cap w h ha => ?_, fun ao cap w ha => ?_⟩
      · refine (Share_ok p l g s ao st cap zs w h ha hn (fun j hj => ⟨hp j hj, hz j hj⟩)).mono ?_
        rintro e' w' ⟨v, rfl, hown, hb⟩
        obtain ⟨ao', cap', rfl, hs⟩ := row_isS hown
        exact ⟨ao', cap', rfl, hs, hb⟩
      · refine (refShare l g s ao st cap zs st w ha hn hst (fun j hj => ⟨hp j hj, hz j hj⟩) hneg h0 h1).mono ?_
        rintro e' w' ⟨hb, h2, _⟩
        obtain ⟨v, rfl, hown⟩ := h2 rfl
        obtain ⟨ao', cap', rfl, hs⟩ := row_isS hown
        exact ⟨ao', cap', rfl, hs, hb⟩
    · exact ⟨0, [], 0, by omega, rfl, fun p ao cap w h ha => absurd ha.1 hlen, fun ao cap w ha => absurd ha.1 hlen⟩

set_option maxHeartbeats 800000 in
/-- Shares: the iterator, over what sharing told. -/
theorem Shares_of (p : Nat) (n cap k : Nat) (ao : Option Addr) (ls : List Int) (er : Int) (w : World) (h : Calls Try.prog 14 #[.pointer (some ⟨p, 0, none⟩), .slice ao n cap] w (Told w k ls er)) :
    Calls Try.prog 18 #[.pointer (some ⟨p, 0, none⟩), .slice ao n cap] w fun e w' => ∃ B ao' cap', w.heap.size ≤ B ∧ e = .returned (.func (.func 35) #[] #[.pointer (some ⟨B, 0, none⟩)]) ∧
      w'.cell? ⟨B, 0, none⟩ = some (.slice ao' k cap') ∧ B < w'.heap.size ∧ IsS w' w.heap.size ao' k ls ∧ (∀ g off, ao' = some ⟨g, off, none⟩ → 0 < k → g < B) ∧ Below w.heap.size w w' := by
  have HN := Lib.hid h
  clear h
  go_enter Try.func18, Try.ntmps18
  go_wp2_with fail
  refine HN.out.mono ?_
  rintro e w1 ⟨ao', cap', rfl, hs, hb⟩
  have HS := Lib.hid hs
  have HB := Lib.hid hb
  clear hs hb HN
  go_wp2_with fail
  go_ret
  have hbA := (Below.refl _ w1).alloc (Nat.le_refl _) (.cells #[.slice ao' k cap'] 22)
  refine ⟨w1.heap.size, ao', cap', HB.out.size, rfl, cell_blk (alloc_blk_new _ _) 0 _ rfl, by simp, HS.out.below hbA, fun g off e hp => ?_, HB.out.trans (hbA.mono HB.out.size)⟩
  obtain ⟨g', e', _, hl, _⟩ := HS.out.2 hp
  rw [e] at e'; cases e'; exact hl
end Go.Proofs.Ytagdenhcbafblaa
