/-
  Lines of bytes: the program's, the document's, Each; at any cap.
-/
import Derived.Test.YtfkfooclapogjaaXg
import Derived.Test.YtfkfooclapogjaaXb
namespace Go.Proofs.Ytfkfooclapogjaa
open Go.RowKit Go.Shelf
set_option linter.unusedVariables false
set_option linter.unusedSimpArgs false

/-- The lines at a cap, and the error. -/
def linesAt (m : Int) (bs : List Int) : List LV := if m < 1 ∨ 65536 < m then [] else (linesOf bs).map (toldL m.toNat)
def errAt (m : Int) : Int := if m < 1 ∨ 65536 < m then 2 else 0
theorem linesAt_len (m : Int) (bs : List Int) : (linesAt m bs).length ≤ bs.length := by
  unfold linesAt
  split
  · simp
  · rw [List.length_map]
    exact Nat.le_trans (lines_few _ _) (pts_len bs)
theorem lahead_row {w : World} {base : Nat} {ao : Option Addr} {n cap : Nat} {l : List LV} (h : w.ownsRow base 35 2 (.slice ao n cap) n (lvs l)) : l.length = n ∧ LAhead w.heap.size w ao n l := ⟨(row_lrow h).1, (row_lrow h).ahead⟩
theorem LAhead.row {n₀ : Nat} {w : World} {ao : Option Addr} {n : Nat} {l : List LV} (h : LAhead n₀ w ao n l) (hl : l.length = n) (hn : n₀ ≤ w.heap.size) : LRow w ao n l := ⟨hl, fun hp => by
  obtain ⟨b, e, hb, hc⟩ := h hp
  refine ⟨b, e, by omega, fun j x hx => ?_⟩
  have hj : j < l.length := (List.getElem?_eq_some_iff.1 hx).1
  have hx' : x = lvAt l j := by
    unfold lvAt
    rw [List.getD_eq_getElem?_getD, hx]
    rfl
  rw [hx']
  exact hc j (by omega)⟩
theorem Of_at {U : Nat → Prop} (m : Int) (bo : Option Addr) (n c : Nat) (bs : List Int) (W0 : World) (hb : Arg U W0 bo n bs) (hbn : bo = none → n = 0 ∧ c = 0) (hby : Byt bs) (hm : n ≤ 1000) :
    Calls Try.prog 10 #[.int .i64 m, .slice bo n c] W0 fun e w' => ∃ ra rc, e = .returned (.tuple #[.slice ra (linesAt m bs).length rc, .int .i64 (errAt m)]) ∧ LAhead w'.heap.size w' ra (linesAt m bs).length (linesAt m bs) ∧ Below W0.heap.size W0 w' := by
  by_cases hbad : m < 1 ∨ 65536 < m
  · have e1 : linesAt m bs = [] := by unfold linesAt; rw [if_pos hbad]
    have e2 : errAt m = 2 := by unfold errAt; rw [if_pos hbad]
    rw [e1, e2]
    refine (Of_bad m bo n c W0 hbad).mono ?_
    rintro e w' ⟨rfl, rfl⟩
    exact ⟨none, 0, rfl, fun h => by simp at h, Below.refl _ _⟩
  · obtain ⟨k, rfl⟩ : ∃ k : Nat, m = k := ⟨m.toNat, by omega⟩
    have e1 : linesAt k bs = (linesOf bs).map (toldL k) := by unfold linesAt; rw [if_neg hbad]; rfl
    have e2 : errAt k = 0 := by unfold errAt; rw [if_neg hbad]
    rw [e1, e2, List.length_map]
    refine (Of_ls k (by omega) (by omega) bo n c bs W0 hb hbn hby (by omega)).mono ?_
    rintro e w' ⟨ra, rc, rfl, hrow, hb⟩
    rw [tolds_lv] at hrow
    exact ⟨ra, rc, rfl, (lahead_row hrow).2, hb⟩
theorem refOf_at {U : Nat → Prop} (m : Int) (bo : Option Addr) (n c : Nat) (bs : List Int) (W0 : World) (hb : Arg U W0 bo n bs) (hbn : bo = none → n = 0 ∧ c = 0) (hby : Byt bs) (hm : n ≤ 1000) :
    Calls Try.prog 13 #[.int .i64 m, .slice bo n c] W0 fun e w' => ∃ ra rc, e = .returned (.tuple #[.slice ra (linesAt m bs).length rc, .int .i64 (errAt m)]) ∧ LAhead w'.heap.size w' ra (linesAt m bs).length (linesAt m bs) ∧ Below W0.heap.size W0 w' := by
  by_cases hbad : m < 1 ∨ 65536 < m
  · have e1 : linesAt m bs = [] := by unfold linesAt; rw [if_pos hbad]
    have e2 : errAt m = 2 := by unfold errAt; rw [if_pos hbad]
    rw [e1, e2]
    have HR := Lib.hid (refNew_bad m W0 hbad)
    unfold rsV at HR
    clear hb hbn hby hbad e1 e2
    go_enter Try.func13, Try.ntmps13
    go_wp2_with (go_at_call 15; fail)
    refine HR.out.mono ?_
    rintro e w1 ⟨rfl, hb1⟩
    have HB := Lib.hid (hb1.alloc hb1.size (.cells #[.slice none 0 0, .int .i64 0, .string ⟨#[]⟩, .bool false, .bool false] 48))
    clear hb1
    go_wp2
    go_ret2
    exact ⟨none, 0, rfl, fun h => by simp at h, HB.out⟩
  · obtain ⟨k, rfl⟩ : ∃ k : Nat, m = k := ⟨m.toNat, by omega⟩
    have e1 : linesAt k bs = (linesOf bs).map (toldL k) := by unfold linesAt; rw [if_neg hbad]; rfl
    have e2 : errAt k = 0 := by unfold errAt; rw [if_neg hbad]
    rw [e1, e2, List.length_map]
    have HR := Lib.hid (refNew_any k W0 (by omega) (by omega))
    have hrun : ∃ L' bg' cr', runP ([], false, false) (pts ([] ++ bs)) = (linesOf bs, (L', bg', cr')) := ⟨_, _, _, rfl⟩
    obtain ⟨L', bg', cr', hrun⟩ := hrun
    have HW : Hid (∀ W, Below W0.heap.size W0 W → Calls Try.prog 18 #[.agg #[.slice none 0 0, .int .i64 k, .string ⟨#[]⟩, .bool false, .bool false], .slice bo n c] W fun e w' => ∃ (a : Option Addr) (n' c' : Nat) (R' : List Int) (ra : Option Addr) (rc : Nat), e = .returned (.tuple #[.agg #[.slice a n' c', .int .i64 k, .string (strOfNums R'), .bool bg', .bool cr'], .slice ra (linesOf bs).length rc]) ∧ LAhead w'.heap.size w' ra (linesOf bs).length ((linesOf bs).map (toldL k)) ∧ Below W.heap.size W w') := Lib.hid fun W hW => by
      refine (refWrite_ls (T := fun _ => True) none 0 0 [] k [] [] false false bo n c bs W ⟨rfl, fun h => by simp at h⟩ (fun _ => ⟨rfl, rfl⟩) (hb.below hW) hbn Byt.nil hby (by omega) (by omega) (RT.nil k) (fun _ => rfl) (by omega) (linesOf bs) L' bg' cr' hrun).mono ?_
      rintro e w' ⟨a, n', c', R', ra, rc, rfl, _, _, _, h4, h5⟩
      exact ⟨a, n', c', R', ra, rc, rfl, (lahead_row h4).2, h5⟩
    unfold rsV at HR
    obtain ⟨NL, hNL⟩ : ∃ n, n = (linesOf bs).length := ⟨_, rfl⟩
    rw [← hNL] at HW ⊢
    clear hb hbn hby hbad e1 e2 hrun hNL
    go_enter Try.func13, Try.ntmps13
    go_wp2_with (go_at_call 15; fail)
    refine HR.out.mono ?_
    rintro e w1 ⟨rfl, hb1⟩
    have HB1 := Lib.hid hb1
    obtain ⟨w2, hw2⟩ : ∃ W, W = w1.alloc (.cells #[.slice none 0 0, .int .i64 k, .string ⟨#[]⟩, .bool false, .bool false] 48) := ⟨_, rfl⟩
    have HB2 : Hid (Below W0.heap.size W0 w2) := Lib.hid (by rw [hw2]; exact hb1.alloc hb1.size _)
    have E2 := Lib.hid hw2
    clear hb1 hw2 HR
    go_wp2_with (go_at_call 18; fail)
    rw [← E2.out]
    refine (HW.out _ HB2.out).mono ?_
    rintro e w3 ⟨a, n', c', R', ra, rc, rfl, hla, hb3⟩
    obtain ⟨RS, hRS⟩ : ∃ s, s = strOfNums R' := ⟨_, rfl⟩
    rw [← hRS]
    have HLA := Lib.hid hla
    have HB3 := Lib.hid hb3
    clear hla hb3 hRS
    go_wp2
    go_ret2
    have hbx : Below w3.heap.size w3 (w3.alloc (.cells #[.slice a n' c', .int .i64 k, .string RS, .bool bg', .bool cr'] 48)) := (Below.refl _ w3).alloc (Nat.le_refl _) _
    refine ⟨ra, rc, rfl, fun hp => ?_, (HB2.out.trans (HB3.out.mono HB2.out.size)).trans (hbx.mono (Nat.le_trans HB2.out.size HB3.out.size))⟩
    obtain ⟨b, e, hbl, hc⟩ := (HLA.out.below hbx) hp
    exact ⟨b, e, by simp; omega, hc⟩
theorem Each_at {U : Nat → Prop} (m : Int) (bo : Option Addr) (n c : Nat) (bs : List Int) (W0 : World) (hb : Arg U W0 bo n bs) (hbn : bo = none → n = 0 ∧ c = 0) (hby : Byt bs) (hm : n ≤ 1000) :
    Calls Try.prog 14 #[.int .i64 m, .slice bo n c] W0 fun e w' => ∃ B ra rc, e = .returned (.func (.func 27) #[] #[.pointer (some ⟨B, 0, none⟩)]) ∧ w'.heap[B]? = some (.cells #[.slice ra (linesAt m bs).length rc] 28 (0, 0)) ∧ LAhead w'.heap.size w' ra (linesAt m bs).length (linesAt m bs) ∧ Below W0.heap.size W0 w' := by
  have HO := Lib.hid (Of_at m bo n c bs W0 hb hbn hby hm)
  obtain ⟨l, hl⟩ : ∃ l, l = linesAt m bs := ⟨_, rfl⟩
  rw [← hl] at HO ⊢
  obtain ⟨N, hN⟩ : ∃ l', l' = l.length := ⟨_, rfl⟩
  rw [← hN] at HO ⊢
  clear hb hbn hby hm hl hN
  go_enter Try.func14, Try.ntmps14
  go_wp2_with (go_at_call 10; fail)
  refine HO.out.mono ?_
  rintro e w1 ⟨ra, rc, rfl, hla, hb1⟩
  have HLA := Lib.hid hla
  have HB1 := Lib.hid hb1
  clear hla hb1 HO
  go_wp2
  go_ret
  have hbx : Below w1.heap.size w1 (w1.alloc (.cells #[.slice ra N rc] 28)) := (Below.refl _ w1).alloc (Nat.le_refl _) _
  refine ⟨w1.heap.size, ra, rc, rfl, alloc_blk_new _ _, fun hp => ?_, HB1.out.trans (hbx.mono HB1.out.size)⟩
  obtain ⟨b, e, hbl, hc⟩ := (HLA.out.below hbx) hp
  exact ⟨b, e, by simp; omega, hc⟩
end Go.Proofs.Ytfkfooclapogjaa
