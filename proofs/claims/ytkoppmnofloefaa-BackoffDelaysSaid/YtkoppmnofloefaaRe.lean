/-
  The delays to come, made: told, Delays.
-/
import Derived.Test.YtkoppmnofloefaaRb
namespace Go.Proofs.Ytkoppmnofloefaa
open Go.RowKit
set_option linter.unusedVariables false
set_option linter.unusedSimpArgs false

theorem Try.info22 : (Try.prog.info? 22).map (fun i => (i.zero, i.size, i.bytes)) = some (some (.int .u64 0), 1, 8) := by kernel_rfl

/-- Draws that came in. -/
def Drs (w : World) (ao : Option Addr) (n : Nat) (zs : List Int) : Prop :=
  n ≤ zs.length ∧ (0 < n → ∃ b off, ao = some ⟨b, off, none⟩ ∧ b < w.heap.size ∧ ∀ j, j < n → w.cell? ⟨b, off + j, none⟩ = some (.int .u64 (zs.getD j 0)) ∧ 0 ≤ zs.getD j 0)
theorem Drs.below {w w' : World} {ao : Option Addr} {n : Nat} {zs : List Int} (h : Drs w ao n zs) (hb : Below w.heap.size w w') : Drs w' ao n zs :=
  ⟨h.1, fun hp => by
    obtain ⟨b, off, e, hl, hc⟩ := h.2 hp
    exact ⟨b, off, e, Nat.lt_of_lt_of_le hl hb.size, fun j hj => ⟨(hb.cell (p := ⟨b, off + j, none⟩) hl).trans (hc j hj).1, (hc j hj).2⟩⟩⟩
/-- The delays to come. -/
def dly (M J base : Int) (k : Nat) (zs : List Int) (i : Nat) : Int := delayOf M J base (k + i) (zs.getD i 0)
def dlys (M J base : Int) (k : Nat) (zs : List Int) (n : Nat) : List Value := (List.range n).map fun i => .int .u64 (dly M J base k zs i)
theorem dlys_succ (M J base : Int) (k : Nat) (zs : List Int) (n : Nat) : dlys M J base k zs (n + 1) = dlys M J base k zs n ++ [.int .u64 (dly M J base k zs n)] := by simp [dlys, List.range_succ]
theorem dlys_get (M J base : Int) (k : Nat) (zs : List Int) (n i : Nat) (h : i < n) : (dlys M J base k zs n)[i]? = some (.int .u64 (dly M J base k zs i)) := by simp [dlys, h]

set_option maxHeartbeats 1600000 in
set_option maxRecDepth 100000 in
theorem told_bo (p : Nat) (L M J base : Int) (k : Nat) (ao : Option Addr) (n cap : Nat) (zs : List Int) (w : World) (hb : Bo w p L M J base k) (h : Drs w ao n zs) (hn : n ≤ 70) :
    Calls Try.prog 33 #[.func (.func 28) #[.pointer (some ⟨p, 0, none⟩)] #[], .slice ao n cap] w fun e w' => ∃ v, e = .returned v ∧ w'.ownsRow w.heap.size 22 1 v n (dlys M J base k zs n) ∧ Below w.heap.size w w' := by
  obtain ⟨i0, hi0, hz0, hz1, hz2⟩ := info_parts Try.info22
  have HA := Lib.hid h
  have HB := Lib.hid hb
  clear h hb
  go_enter Try.func33, Try.ntmps33
  go_wp2
  go_loopg [4, 9] n (fun gk v4 v9 wr => ∃ i : Nat, v9 = .int .i64 i ∧ i ≤ n ∧ gk = n - i ∧ wr.ownsRow w.heap.size 22 1 v4 i (dlys M J base k zs i) ∧ Below w.heap.size w wr)
  case atStart => exact ⟨0, rfl, by omega, rfl, World.ownsRow_nil _ _ _ _, Below.refl _ _⟩
  case round =>
    obtain ⟨i, rfl, hi, hgk, hown, hbel⟩ := hrel
    have HG := Lib.hid hgk
    have HO := Lib.hid hown
    have HM := Lib.hid hbel
    obtain ⟨ao4, cap4, rfl⟩ := row_slice hown
    clear hgk hown hbel
    by_cases hlt : i < n
    · obtain ⟨b, off, rfl, hbl, hc⟩ := HA.out.2 (by omega)
      obtain ⟨z, hz⟩ : ∃ z, z = zs.getD i 0 := ⟨_, rfl⟩
      have hz0' : 0 ≤ z := by rw [hz]; exact (hc i hlt).2
      have hci := (HM.out.cell (p := ⟨b, off + i, none⟩) hbl).trans (hc i hlt).1
      rw [← hz] at hci
      have HD := delay_bo p L M J base z k i wr (HB.out.below HM.out) (by omega) hz0'
      obtain ⟨y, hy⟩ : ∃ y, y = delayOf M J base (k + i) z := ⟨_, rfl⟩
      rw [← hy] at HD
      have HD := Lib.hid HD
      have HZ := Lib.hid (show dly M J base k zs i = y by rw [hy, hz]; rfl)
      have hMs := HM.out.size
      clear hc hz hy
      go_wp2_with fail
      refine HD.out.mono ?_
      rintro e w2 ⟨rfl, nd, hw2⟩
      have HO2 : Hid (w2.ownsRow w.heap.size 22 1 (.slice ao4 i cap4) i (dlys M J base k zs i)) := by rw [hw2]; exact HO
      have HM2 : Hid (Below w.heap.size w w2) := by rw [hw2]; exact Lib.hid ⟨HM.out.os, HM.out.tape, HM.out.output, HM.out.size, HM.out.block⟩
      have hs3 : w.heap.size ≤ w2.heap.size := HM2.out.size
      clear hw2 hci HO HM HD
      go_wp2_with (at_builtin; refine wpList_append_f _ rfl (.tmp 14) (.tmp 19) 25 rfl w.heap.size 22 i0 (.int .u64 0) 1 8 Try.underlying25 hi0 hz0 hz1 hz2 rfl (by decide) _ _ _ rfl (HO2.out.alloc _) (some ⟨w2.heap.size, 0, none⟩) 1 1 [.int .u64 y] rfl rfl (fun h => by cases h) ?c1 ?c2 ?c3 ?c4 ?c5 ?_)
      case c1 => rintro ad h j u hj; cases h; exact cell_one_new _ _ _ j u hj
      case c2 => intro u hu; simp at hu; subst hu; rfl
      case c3 => unfold maxLen; omega
      case c4 => omega
      case c5 => simp; omega
      intro v' w3 hown hg hf _
      have hbel : Below w.heap.size w w3 := (HM2.out.alloc hs3 (.cells #[.int .u64 y] 22)).grown hg (by simp; omega) (fun k hk => (HO2.out.lt k hk).1)
      have HO3 : Hid (w3.ownsRow w.heap.size 22 1 v' (i + 1) (dlys M J base k zs (i + 1))) := Lib.hid (by rw [dlys_succ, HZ.out]; exact hown)
      have HM3 := Lib.hid hbel
      clear hown hg hf hbel
      go_wp2
      go_roundg (n - (i + 1))
      case measure => have := HG.out; omega
      case rel => exact ⟨i + 1, by go_num, by omega, rfl, HO3.out, HM3.out⟩
    · obtain rfl : i = n := by omega
      go_wp2
      go_ret
      exact ⟨_, rfl, HO.out, HM.out⟩

/-- A slice of delays. -/
def IsD (w : World) (base0 : Nat) (ao : Option Addr) (n : Nat) (f : Nat → Int) : Prop := 0 < n → ∃ g, ao = some ⟨g, 0, none⟩ ∧ base0 ≤ g ∧ g < w.heap.size ∧ ∀ j, j < n → w.cell? ⟨g, 0 + j, none⟩ = some (.int .u64 (f j))
theorem row_isD {w : World} {b0 : Nat} {v : Value} {n : Nat} {M J base : Int} {k : Nat} {zs : List Int} (h : w.ownsRow b0 22 1 v n (dlys M J base k zs n)) : ∃ ao cap, v = .slice ao n cap ∧ IsD w b0 ao n (dly M J base k zs) := by
  obtain ⟨ao, cap, rfl⟩ := row_slice h
  refine ⟨ao, cap, rfl, fun hp => ?_⟩
  obtain ⟨g, cap', cur, e, hb, hg, _⟩ := row_some h hp
  cases e
  refine ⟨g, rfl, hb, (Array.getElem?_eq_some_iff.1 hg).1, fun j hj => ?_⟩
  rw [Nat.zero_add, h.cellAt j (by omega), dlys_get _ _ _ _ _ _ _ hj]
theorem IsD.below {w w' : World} {b0 : Nat} {ao : Option Addr} {n : Nat} {f : Nat → Int} (h : IsD w b0 ao n f) (hb : Below w.heap.size w w') : IsD w' b0 ao n f := fun hp => by
  obtain ⟨g, e, h1, hl, hc⟩ := h hp
  exact ⟨g, e, h1, Nat.lt_of_lt_of_le hl hb.size, fun j hj => (hb.cell (p := ⟨g, 0 + j, none⟩) hl).trans (hc j hj)⟩

set_option maxHeartbeats 1600000 in
set_option maxRecDepth 100000 in
/-- Delays of one that is there. -/
theorem Delays_bo (p : Nat) (L M J base : Int) (k : Nat) (ao : Option Addr) (n cap : Nat) (zs : List Int) (w : World) (hb : Bo w p L M J base k) (h : Drs w ao n zs) (hn : n ≤ 70) :
    Calls Try.prog 20 #[.pointer (some ⟨p, 0, none⟩), .slice ao n cap] w fun e w' => ∃ ao' cap', e = .returned (.func (.func 34) #[] #[.pointer (some ⟨w.heap.size, 0, none⟩)]) ∧
      w'.cell? ⟨w.heap.size, 0, none⟩ = some (.slice ao' n cap') ∧ IsD w' w.heap.size ao' n (dly M J base k zs) ∧ w.heap.size < w'.heap.size ∧ Below w.heap.size w w' := by
  have hbA := (Below.refl _ w).alloc (Nat.le_refl _) (.cells #[.slice none 0 0] 25)
  have HN := Lib.hid (none_of p L M J base k _ (hb.below hbA))
  have HT := Lib.hid (told_bo p L M J base k ao n cap zs _ (hb.below hbA) (h.below hbA) hn)
  have HK := Lib.hid (alloc_blk_new w (.cells #[.slice none 0 0] 25))
  have HB := Lib.hid hbA
  clear hb h hbA
  go_enter Try.func20, Try.ntmps20
  go_wp2_with (first | (go_at_call 26; refine HN.out.mono ?_; rintro e w' ⟨rfl, rfl⟩) | (go_at_call 33; fail))
  refine HT.out.mono ?_
  rintro e w2 ⟨v, rfl, hown, hbel⟩
  obtain ⟨ao', cap', rfl, hD⟩ := row_isD hown
  have hk := (hbel.block _ (blk_lt HK.out)).trans HK.out
  have hc0 := cell_blk hk 0 _ rfl
  have hf0 := frozen_blk hk 0
  have hs1 : (w.alloc (.cells #[.slice none 0 0] 25)).heap.size = w.heap.size + 1 := by simp
  have HD := Lib.hid hD
  have HB2 := Lib.hid (HB.out.trans (hbel.mono HB.out.size))
  have hlt := blk_lt hk
  have HS1 := Lib.hid hs1
  clear hk hown hbel hs1 HB HT HN HK hD
  go_wp2
  go_ret
  refine ⟨ao', cap', rfl, World.cell?_setCell_same' _ _ _ (by rw [hc0]; rfl), fun hp => ?_, by simpa [World.setCell] using hlt, HB2.out.setCell (p := ⟨w.heap.size, 0, none⟩) (Nat.le_refl _) _⟩
  obtain ⟨g, e, h1, hl, hc⟩ := HD.out hp
  have hs1 := HS1.out
  refine ⟨g, e, by omega, by simpa [World.setCell] using hl, fun j hj => ?_⟩
  rw [World.cell?_setCell_other _ _ _ _ (fun e => by have := congrArg Addr.block e; simp at this; omega)]
  exact hc j hj
end Go.Proofs.Ytkoppmnofloefaa
