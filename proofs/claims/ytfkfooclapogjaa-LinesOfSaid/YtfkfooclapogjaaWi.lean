/-
  Rows of lines, and whether two are the same.
-/
import Derived.Test.YtfkfooclapogjaaWh
namespace Go.Proofs.Ytfkfooclapogjaa
open Go.RowKit
set_option linter.unusedVariables false
set_option linter.unusedSimpArgs false

abbrev LV := ByteArray × Bool
def lvC (x : LV) : List Value := [.string x.1, .bool x.2]
def lvs (ls : List LV) : List Value := ls.flatMap lvC
def lvV (x : LV) : Value := .agg #[.string x.1, .bool x.2]
def toldL (most : Nat) (L : List Int) : LV := if L.length ≤ most then (strOfNums L, false) else (⟨#[]⟩, true)
theorem toldC_lv (most : Nat) (L : List Int) : toldC most L = lvC (toldL most L) := by
  unfold toldC toldL
  split <;> rfl
theorem toldV_lv (most : Nat) (L : List Int) : toldV most L = lvV (toldL most L) := by
  unfold toldV toldL
  split <;> rfl
theorem tolds_lv (most : Nat) (Ls : List (List Int)) : tolds most Ls = lvs (Ls.map (toldL most)) := by
  induction Ls with
  | nil => rfl
  | cons L Ls ih => simp only [tolds, lvs, List.flatMap_cons, List.map_cons] at ih ⊢; rw [ih, toldC_lv]
theorem lvs_len (l : List LV) : (lvs l).length = l.length * 2 := by
  induction l with
  | nil => rfl
  | cons x l ih => simp only [lvs, List.flatMap_cons, List.length_append, List.length_cons, lvC, List.length_nil] at ih ⊢; rw [ih]; omega
theorem lvs_append (a b : List LV) : lvs (a ++ b) = lvs a ++ lvs b := by simp [lvs]
theorem lvs_one : ∀ l, ∀ u ∈ lvs l, u.oneCell' = true := fun l u hu => by
  obtain ⟨x, _, h⟩ := List.mem_flatMap.1 hu
  simp [lvC] at h
  rcases h with rfl | rfl <;> rfl
theorem lvs_at : ∀ (l : List LV) (j : Nat) (x : LV), l[j]? = some x → (lvs l)[j * 2]? = some (.string x.1) ∧ (lvs l)[j * 2 + 1]? = some (.bool x.2)
  | y :: l, 0, x, h => by
    simp at h
    subst h
    simp [lvs, lvC]
  | y :: l, j + 1, x, h => by
    have := lvs_at l j x (by simpa using h)
    rw [show (j + 1) * 2 = j * 2 + 2 by omega]
    simpa [lvs, lvC] using this
/-- Lines that may be read. -/
def LRow (w : World) (ao : Option Addr) (n : Nat) (l : List LV) : Prop :=
  l.length = n ∧ (0 < n → ∃ b, ao = some ⟨b, 0, none⟩ ∧ b < w.heap.size ∧ ∀ j x, l[j]? = some x → w.cell? ⟨b, j * 2, none⟩ = some (.string x.1) ∧ w.cell? ⟨b, j * 2 + 1, none⟩ = some (.bool x.2))
theorem LRow.mod {S : Nat → Prop} {w w' : World} {ao : Option Addr} {n : Nat} {l : List LV} (h : LRow w ao n l) (hm : Mod S w w') (hs : ∀ b, ao = some ⟨b, 0, none⟩ → ¬ S b) : LRow w' ao n l :=
  ⟨h.1, fun hp => by
    obtain ⟨b, e, hl, hc⟩ := h.2 hp
    exact ⟨b, e, Nat.lt_of_lt_of_le hl hm.size, fun j x hj => ⟨(hm.cell (p := ⟨b, j * 2, none⟩) hl (hs b e)).trans (hc j x hj).1, (hm.cell (p := ⟨b, j * 2 + 1, none⟩) hl (hs b e)).trans (hc j x hj).2⟩⟩⟩
theorem LRow.below {w w' : World} {ao : Option Addr} {n : Nat} {l : List LV} (h : LRow w ao n l) (hb : Below w.heap.size w w') : LRow w' ao n l := h.mod (Mod.of_below hb (fun _ => False)) (fun _ _ e => e)
theorem LRow.nil (w : World) : LRow w none 0 [] := ⟨rfl, fun h => by omega⟩
theorem row_lrow {w : World} {base : Nat} {ao : Option Addr} {n cap : Nat} {l : List LV} (h : w.ownsRow base 35 2 (.slice ao n cap) n (lvs l)) : LRow w ao n l := by
  have hl : l.length = n := by have := h.1; rw [lvs_len] at this; omega
  refine ⟨hl, fun hp => ?_⟩
  obtain ⟨b, cap', cur, hv, hbb, hgg, hnc, hcm, hcs, htk⟩ := row_some h (by omega)
  injection hv with e1 e2 e3
  subst e1
  have at_ : ∀ i, i < n * 2 → cur[i]? = (lvs l)[i]? := fun i hi => by
    have := congrArg (fun l => l[i]?) htk
    rw [List.getElem?_take_of_lt hi] at this
    rw [← Array.getElem?_toList, this]
  refine ⟨b, rfl, blk_lt hgg, fun j x hj => ?_⟩
  obtain ⟨h1, h2⟩ := lvs_at l j x hj
  have hjl : j < l.length := (List.getElem?_eq_some_iff.1 hj).1
  exact ⟨cell_blk hgg _ _ ((at_ (j * 2) (by omega)).trans h1), cell_blk hgg _ _ ((at_ (j * 2 + 1) (by omega)).trans h2)⟩

def lvNe (s t : ByteArray) (a b : Bool) : Bool := !(decide ((s, a) = (t, b)))
def lvEq (s t : ByteArray) (a b : Bool) : Bool := decide ((s, a) = (t, b))
theorem neq35 (s t : ByteArray) (a b : Bool) (w : World) :
    (binOp .neq 35 (.agg #[.string s, .bool a]) (.agg #[.string t, .bool b])).run Try.prog w = .ok (.bool (lvNe s t a b)) w := by
  have hs : s.toList = t.toList ↔ s = t := by
    have h := toList_beq s t (s = t) Iff.rfl
    rw [Bool.eq_iff_iff] at h
    simpa using h
  unfold lvNe
  go_simp
  by_cases h1 : s = t <;> cases a <;> cases b <;> simp [h1, hs]
theorem eql35 (s t : ByteArray) (a b : Bool) (w : World) :
    (binOp .eql 35 (.agg #[.string s, .bool a]) (.agg #[.string t, .bool b])).run Try.prog w = .ok (.bool (lvEq s t a b)) w := by
  have hs : s.toList = t.toList ↔ s = t := by
    have h := toList_beq s t (s = t) Iff.rfl
    rw [Bool.eq_iff_iff] at h
    simpa using h
  unfold lvEq
  go_simp
  by_cases h1 : s = t <;> cases a <;> cases b <;> simp [h1, hs]
attribute [local go_sem high] neq35

set_option maxHeartbeats 1600000 in
set_option maxRecDepth 100000 in
theorem Same_any (ao bo : Option Addr) (n m ca cb : Nat) (A B : List LV) (W0 : World) (hA : LRow W0 ao n A) (hB : LRow W0 bo m B) (hn : n ≤ 1000000) (r : Bool) (hr : r = decide (A = B)) :
    Calls Try.prog 11 #[.slice ao n ca, .slice bo m cb] W0 fun e w' => e = .returned (.bool r) ∧ ∃ q, w' = W0.drewN q := by
  by_cases hnm : n = m
  · subst hnm
    have HA := Lib.hid hA
    have HB := Lib.hid hB
    have HR := Lib.hid hr
    have e1 : ((n : Int) != n) = false := by simp
    have e2 : decide ((0 : Int) ≤ n) = true := by simp
    clear hA hB hr
    go_enter Try.func11, Try.ntmps11
    go_wp2
    go_loopg [5] (n + 1) (fun gk v5 wr => ∃ j : Nat, v5 = .int .i64 j ∧ gk = n - j + 1 ∧ j ≤ n ∧ (∀ i, i < j → A[i]? = B[i]?) ∧ ∃ q, wr = W0.drewN q)
    case atStart => exact ⟨0, rfl, rfl, Nat.zero_le _, fun i h => by omega, 0, rfl⟩
    case round =>
      obtain ⟨j, rfl, hgk, hjn, heq, q, rfl⟩ := hrel
      have HG := Lib.hid hgk
      have HE := Lib.hid heq
      clear hgk heq
      have hlA : A.length = n := HA.out.1
      have hlB : B.length = n := HB.out.1
      rcases Nat.lt_or_ge j n with hlt | hge
      · have l1 : decide ((j : Int) < n) = true := by simpa using hlt
        obtain ⟨x, hx⟩ : ∃ x, A[j]? = some x := ⟨A[j], List.getElem?_eq_some_iff.2 ⟨by omega, rfl⟩⟩
        obtain ⟨y, hy⟩ : ∃ y, B[j]? = some y := ⟨B[j], List.getElem?_eq_some_iff.2 ⟨by omega, rfl⟩⟩
        obtain ⟨ba, rfl, hba, hca⟩ := HA.out.2 (by omega)
        obtain ⟨bb, rfl, hbb, hcb⟩ := HB.out.2 (by omega)
        obtain ⟨a1, a2⟩ := hca j x hx
        obtain ⟨b1, b2⟩ := hcb j y hy
        obtain ⟨xs, xb⟩ := x
        obtain ⟨ys, yb⟩ := y
        simp only at a1 a2 b1 b2
        have HX := Lib.hid (And.intro hx hy)
        have j0 : (0 : Int) ≤ j := by omega
        have j2 : (j : Int) < n := by omega
        have j3 : wrap64 ((j : Int) + 1) = ((j + 1 : Nat) : Int) := by unfold wrap64; omega
        clear hca hcb hx hy hlA hlB
        by_cases hxy : (xs, xb) = (ys, yb)
        · have d : lvNe xs ys xb yb = false := by unfold lvNe; simpa using hxy
          go_wp2
          go_quiet (fail)
          go_wp2
          go_roundg (n - (j + 1) + 1)
          case measure => have := HG.out; omega
          case rel =>
            refine ⟨j + 1, rfl, rfl, by omega, fun i hi => ?_, q + nq, by first | rfl | rw [World.drewN_drewN]⟩
            rcases Nat.lt_or_ge i j with h | h
            · exact HE.out i h
            · obtain rfl : i = j := by omega
              rw [HX.out.1, HX.out.2, hxy]
        · have d : lvNe xs ys xb yb = true := by unfold lvNe; rw [decide_eq_false hxy]; rfl
          go_wp2
          go_quiet (fail)
          go_wp2
          go_ret
          refine ⟨?_, q + nq, by first | rfl | rw [World.drewN_drewN]⟩
          have hAB : A ≠ B := fun e => by
            have h1 := HX.out.1
            rw [e, HX.out.2] at h1
            exact hxy (Option.some.inj h1).symm
          rw [HR.out, decide_eq_false hAB]
          rfl
      · have l1 : decide ((j : Int) < n) = false := by simp; omega
        obtain rfl : j = n := by omega
        go_wp2
        go_ret
        refine ⟨?_, q, rfl⟩
        have hAB : A = B := List.ext_getElem? fun i => by
          rcases Nat.lt_or_ge i j with h | h
          · exact HE.out i h
          · rw [List.getElem?_eq_none (by omega), List.getElem?_eq_none (by omega)]
        rw [HR.out, decide_eq_true hAB]
        rfl
  · have hne : ((n : Int) != m) = true := by simp; omega
    have hrf : r = false := by
      rw [hr]
      simp
      intro e
      subst e
      exact hnm (hA.1.symm.trans hB.1)
    subst hrf
    clear hr hA hB
    go_enter Try.func11, Try.ntmps11
    go_wp2
    go_ret
    exact ⟨rfl, 0, rfl⟩
end Go.Proofs.Ytfkfooclapogjaa
