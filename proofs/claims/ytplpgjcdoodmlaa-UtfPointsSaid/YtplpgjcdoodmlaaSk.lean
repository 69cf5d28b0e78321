/-
  UtfPoints, walked.
-/
import Derived.Test.YtplpgjcdoodmlaaSf
import Derived.Test.YtplpgjcdoodmlaaSj
namespace Go.Proofs.Ytplpgjcdoodmlaa
open Go.RowKit
set_option linter.unusedVariables false
set_option linter.unusedSimpArgs false

/-- The same answers, and nothing that lay before has turned. -/
def Yes (w : World) (e : Ending) (w' : World) : Prop := e = .returned (.bool true) ∧ Below w.heap.size w w'

set_option maxHeartbeats 3200000 in
set_option maxRecDepth 100000 in
theorem points_any (p : Int) (w : World) : Calls Try.prog 5 #[.int .i64 p] w fun e w' => e = .returned (.bool true) ∧ Below w.heap.size w w' := by
  have HWk := Lib.hid works_true
  have HPt := Lib.hid (refPoint_any p)
  by_cases h : Pt p
  case neg =>
    have HB := Lib.hid (Bytes_no p w h)
    have hd : decide (Pt p) = false := by simpa using h
    clear h
    go_enter Try.func5, Try.ntmps5
    go_wp2_with (go_at_call 15; fail)
    refine HB.out.mono ?_
    rintro e w1 ⟨rfl, hb1⟩
    have HB1 := Lib.hid hb1
    clear hb1 HB
    go_wp2_with (first | (go_at_call 16; refine (HPt.out _).mono ?_; rintro e w' ⟨rfl, rfl⟩) | (go_at_call 8; fail))
    refine (HWk.out _).mono ?_
    rintro e w2 ⟨rfl, hb2⟩
    go_wp2
    go_ret
    exact ⟨rfl, HB1.out.trans (hb2.mono HB1.out.size)⟩
  case pos =>
    have HB := Lib.hid (Bytes_any p w h)
    have HR := Lib.hid (fun W => refBytes_any p W h)
    have hl := bytesL_len p
    obtain ⟨L, hL⟩ : ∃ L, L = (bytesL p).length := ⟨_, rfl⟩
    rw [← hL] at HB HR
    have hof := ofL_bytes h
    have hbb := bytesL_byt h
    have hd : decide (Pt p) = true := by simpa using h
    obtain ⟨X, hX⟩ : ∃ X, X = strOfNums (bytesL p) := ⟨_, rfl⟩
    have hXs : X.size ≤ 4 := by rw [hX, strOfNums_size]; omega
    have hXn : ofL (nums X) = nums X := by rw [hX, nums_str hbb]; exact hof
    have HSd : Hid (∀ W, Calls Try.prog 13 #[.string X] W fun e w' => e = .returned (.bool true) ∧ Below W.heap.size W w') := Lib.hid fun W => (Sound_any X W (by omega)).mono fun e w' q => ⟨by rw [q.1, hXn]; simp, q.2⟩
    have HX := Lib.hid hX
    have HL := Lib.hid hL
    have hL4 : 1 ≤ L ∧ L ≤ 4 := by omega
    obtain ⟨hL1, hL4⟩ := hL4
    clear h hof hbb hX hXn hXs hl hL
    go_enter Try.func5, Try.ntmps5
    go_wp2_with (go_at_call 15; fail)
    refine HB.out.mono ?_
    rintro e w1 ⟨a, c, rfl, hA, hne, hb1⟩
    have HB1 := Lib.hid hb1
    have HA := Lib.hid hA
    have HNe := Lib.hid (fun e : a = none => (⟨absurd e hne, absurd e hne⟩ : (bytesL p).length = 0 ∧ c = 0))
    have HCv : Hid (∀ W, Below w1.heap.size w1 W → (convert 25 9 (.slice a L c)).run Try.prog W = .ok (.string X) W) := Lib.hid fun W hW => by rw [HX.out]; have := HA.out; rw [HL.out] at this ⊢; exact conv_any c (this.below hW) HNe.out
    clear hb1 hA hne HB
    have hb0 : Below w1.heap.size w1 w1.drew := Below.drewN' w1 1
    have hS0 := HCv.out w1.drew hb0
    go_upto_region 4 with (first | (go_at_call 16; refine (HPt.out _).mono ?_; rintro e w' ⟨rfl, rfl⟩))
    go_region_with (first
        | (go_at_call 17; refine (HR.out _).mono ?_; rintro e w5 ⟨a5, c5, rfl, hA5, hn5, hb5⟩; have hB5 := (show Below w1.heap.size w1 _ from by assumption).trans (hb5.mono (show Below w1.heap.size w1 _ from by assumption).size); have hS5 := HCv.out _ hB5; have hT5 : (convert 25 9 (.slice a5 L c5)).run Try.prog w5 = .ok (.string X) w5 := (by rw [HX.out]; rw [HL.out] at hA5 ⊢; exact conv_any c5 hA5 (fun e => absurd e hn5)); clear hA5 hn5)
        | (go_at_call 13; refine (HSd.out _).mono ?_; rintro e w6 ⟨rfl, hb6⟩; have hB6 := (show Below w1.heap.size w1 _ from by assumption).trans (hb6.mono (show Below w1.heap.size w1 _ from by assumption).size))
        | (go_at_call 8; refine (HWk.out _).mono ?_; rintro e w7 ⟨rfl, hb7⟩; have hB7 := (show Below w1.heap.size w1 _ from by assumption).trans (hb7.mono (show Below w1.heap.size w1 _ from by assumption).size)))
    all_goals
      go_wp2
      go_ret
      exact ⟨rfl, HB1.out.trans (hB7.mono HB1.out.size)⟩
end Go.Proofs.Ytplpgjcdoodmlaa
