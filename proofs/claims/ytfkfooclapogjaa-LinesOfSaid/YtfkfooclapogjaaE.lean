/-
  first: what begins a point's bytes.
-/
import Derived.Test.YtfkfooclapogjaaD
namespace Go.Proofs.Ytfkfooclapogjaa
open Go.RowKit
set_option linter.unusedVariables false
set_option linter.unusedSimpArgs false

def LOs : List Int := [0, 194, 224, 225, 237, 238, 240, 241, 244]
def HIs : List Int := [127, 223, 224, 236, 237, 239, 240, 243, 244]
def MNs : List Nat := [1, 2, 3, 3, 3, 3, 4, 4, 4]
def LWs : List Int := [0, 128, 160, 128, 128, 128, 144, 128, 128]
def HGs : List Int := [0, 191, 191, 191, 159, 191, 191, 191, 143]
def Leads : Array Value := #[.int .u8 0, .int .u8 127, .int .i64 1, .int .u8 0, .int .u8 0, .int .u8 194, .int .u8 223, .int .i64 2, .int .u8 128, .int .u8 191, .int .u8 224, .int .u8 224, .int .i64 3, .int .u8 160, .int .u8 191,
  .int .u8 225, .int .u8 236, .int .i64 3, .int .u8 128, .int .u8 191, .int .u8 237, .int .u8 237, .int .i64 3, .int .u8 128, .int .u8 159, .int .u8 238, .int .u8 239, .int .i64 3, .int .u8 128, .int .u8 191,
  .int .u8 240, .int .u8 240, .int .i64 4, .int .u8 144, .int .u8 191, .int .u8 241, .int .u8 243, .int .i64 4, .int .u8 128, .int .u8 191, .int .u8 244, .int .u8 244, .int .i64 4, .int .u8 128, .int .u8 143]

theorem lead_at {b0 : Int} {k : Nat} (hk : k < 9) (h : LOs.getD k 0 ≤ b0 ∧ b0 ≤ HIs.getD k 0) : lead b0 = some (MNs.getD k 0, LWs.getD k 0, HGs.getD k 0) := by
  unfold LOs HIs at h
  unfold MNs LWs HGs
  match k, hk with
  | 0, _ => simp at h; simp; exact lead_0 h
  | 1, _ => simp at h; simp; exact lead_1 h
  | 2, _ => simp at h; simp; exact lead_2 h
  | 3, _ => simp at h; simp; exact lead_3 h
  | 4, _ => simp at h; simp; exact lead_4 h
  | 5, _ => simp at h; simp; exact lead_5 h
  | 6, _ => simp at h; simp; exact lead_6 h
  | 7, _ => simp at h; simp; exact lead_7 h
  | 8, _ => simp at h; simp; exact lead_8 h
theorem lead_no {b0 : Int} (h0 : 0 ≤ b0) (h : ∀ k, k < 9 → ¬ (LOs.getD k 0 ≤ b0 ∧ b0 ≤ HIs.getD k 0)) : lead b0 = none := by
  have g0 := h 0 (by omega)
  have g1 := h 1 (by omega)
  have g2 := h 2 (by omega)
  have g3 := h 3 (by omega)
  have g4 := h 4 (by omega)
  have g5 := h 5 (by omega)
  have g6 := h 6 (by omega)
  have g7 := h 7 (by omega)
  have g8 := h 8 (by omega)
  simp [LOs, HIs] at g0 g1 g2 g3 g4 g5 g6 g7 g8
  rcases lead_spec b0 with g | ⟨_, g⟩ | ⟨_, g⟩ | ⟨_, g⟩ | ⟨_, g⟩ | ⟨_, g⟩ | ⟨_, g⟩ | ⟨_, g⟩ | ⟨_, g⟩ | ⟨_, g⟩
  · exact g
  all_goals omega

set_option maxHeartbeats 800000 in
theorem in_lead (lo hi m l h : Int) (B : Nat) (b0 : Int) (b off n cap : Nat) (hn : 0 < n) (w : World) (hc : w.cell? ⟨B, 0, none⟩ = some (.slice (some ⟨b, off, none⟩) n cap)) (hb : w.cell? ⟨b, off, none⟩ = some (.int .u8 b0)) (hB : B < w.heap.size) (hbl : b < w.heap.size) :
    Calls Try.prog 59 #[.agg #[.int .u8 lo, .int .u8 hi, .int .i64 m, .int .u8 l, .int .u8 h], .pointer (some ⟨B, 0, none⟩)] w fun e w' => e = .returned (.bool (decide (lo ≤ b0 ∧ b0 ≤ hi))) ∧ Below w.heap.size w w' := by
  have HB := Lib.hid (fun o => ((Below.refl _ w).alloc (Nat.le_refl _) o))
  by_cases h1 : lo ≤ b0
  · have d1 : decide (lo ≤ b0) = true := by simpa using h1
    by_cases h2 : b0 ≤ hi
    · have d2 : decide (b0 ≤ hi) = true := by simpa using h2
      have HD : Hid (decide (lo ≤ b0 ∧ b0 ≤ hi) = true) := Lib.hid (by simp [h1, h2])
      rw [HD.out]
      clear h1 h2 HD
      go_enter Try.func59, Try.ntmps59
      go_wp2
      go_quiet (fail)
      go_wp2
      go_ret
      exact ⟨rfl, (HB.out _).trans ((Below.drewN' _ _).mono (by simp))⟩
    · have d2 : decide (b0 ≤ hi) = false := by simpa using h2
      have HD : Hid (decide (lo ≤ b0 ∧ b0 ≤ hi) = false) := Lib.hid (by simp [h2])
      rw [HD.out]
      clear h1 h2 HD
      go_enter Try.func59, Try.ntmps59
      go_wp2
      go_quiet (fail)
      go_wp2
      go_ret
      exact ⟨rfl, (HB.out _).trans ((Below.drewN' _ _).mono (by simp))⟩
  · have d1 : decide (lo ≤ b0) = false := by simpa using h1
    have HD : Hid (decide (lo ≤ b0 ∧ b0 ≤ hi) = false) := Lib.hid (by simp [h1])
    rw [HD.out]
    clear h1 HD
    go_enter Try.func59, Try.ntmps59
    go_wp2
    go_quiet (fail)
    go_wp2
    go_ret
    exact ⟨rfl, (HB.out _).trans ((Below.drewN' _ _).mono (by simp))⟩
end Go.Proofs.Ytfkfooclapogjaa
