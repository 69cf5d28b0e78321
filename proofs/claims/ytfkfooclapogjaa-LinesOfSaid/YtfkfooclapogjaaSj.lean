/-
  The document's Bytes and Point, walked.
-/
import Derived.Test.YtfkfooclapogjaaL
namespace Go.Proofs.Ytfkfooclapogjaa
open Go.RowKit
set_option linter.unusedVariables false
set_option linter.unusedSimpArgs false

theorem wrap_u8 {x : Int} (h0 : 0 ≤ x) (h1 : x < 256) : IntKind.u8.wrap x = x := by rw [IntKind.wrap_u8]; omega

set_option maxHeartbeats 3200000 in
set_option maxRecDepth 100000 in
theorem refBytes_any (p : Int) (w : World) (h : Pt p) : Calls Try.prog 35 #[.int .i64 p] w fun e w' => ∃ a c, e = .returned (.slice a (bytesL p).length c) ∧ Arg (fun k => w.heap.size ≤ k) w' a (bytesL p).length (bytesL p) ∧ a ≠ none ∧ Below w.heap.size w w' := by
  obtain ⟨h0, h1, _⟩ := h
  have fin : ∀ (zs : List Int) (cs : Array Value) (t : TypeId), bytesL p = zs → cs = (zs.map (Value.int .u8)).toArray → ∀ a, a = (⟨w.heap.size, 0, none⟩ : Addr) → ∀ n c, n = zs.length → ∃ a' c', Ending.returned (.slice (some a) n c) = .returned (.slice a' (bytesL p).length c') ∧ Arg (fun k => w.heap.size ≤ k) (w.alloc (.cells cs t)) a' (bytesL p).length (bytesL p) ∧ a' ≠ none ∧ Below w.heap.size w (w.alloc (.cells cs t)) := by
    rintro zs cs t rfl rfl a rfl n c rfl
    refine ⟨_, _, rfl, arg_blk _ (alloc_blk_new w _) (Nat.le_refl _) rfl (fun j hj => ?_), by simp, (Below.refl _ w).alloc (Nat.le_refl _) _⟩
    simp [List.getD, hj]
  have HFin := Lib.hid fin
  clear fin
  by_cases c1 : p < 128
  · have d1 : decide (p < 128) = true := by simpa using c1
    have HB : Hid (bytesL p = [p]) := Lib.hid (by unfold bytesL; rw [if_pos c1])
    have e1 := wrap_u8 h0 (by omega)
    clear c1
    go_enter Try.func35, Try.ntmps35
    go_wp2
    go_ret
    exact HFin.out _ _ _ HB.out rfl _ rfl _ _ rfl
  have d1 : decide (p < 128) = false := by simpa using c1
  by_cases c2 : p < 2048
  · have d2 : decide (p < 2048) = true := by simpa using c2
    have HB : Hid (bytesL p = [192 + p / 64, 128 + p % 64]) := Lib.hid (by unfold bytesL; rw [if_neg c1, if_pos c2])
    have e2 : (192 + p / 64) % 256 = 192 + p / 64 := by omega
    clear c1 c2
    go_enter Try.func35, Try.ntmps35
    go_wp2
    go_ret
    exact HFin.out _ _ _ HB.out rfl _ rfl _ _ rfl
  have d2 : decide (p < 2048) = false := by simpa using c2
  by_cases c3 : p < 65536
  · have d3 : decide (p < 65536) = true := by simpa using c3
    have HB : Hid (bytesL p = [224 + p / 4096, 128 + p / 64 % 64, 128 + p % 64]) := Lib.hid (by unfold bytesL; rw [if_neg c1, if_neg c2, if_pos c3])
    clear c1 c2
    go_enter Try.func35, Try.ntmps35
    go_wp2
    go_ret
    exact HFin.out _ _ _ HB.out rfl _ rfl _ _ rfl
  · have d3 : decide (p < 65536) = false := by simpa using c3
    have HB : Hid (bytesL p = [240 + p / 262144, 128 + p / 4096 % 64, 128 + p / 64 % 64, 128 + p % 64]) := Lib.hid (by unfold bytesL; rw [if_neg c1, if_neg c2, if_neg c3])
    clear c1 c2 c3
    go_enter Try.func35, Try.ntmps35
    go_wp2
    go_ret
    exact HFin.out _ _ _ HB.out rfl _ rfl _ _ rfl
end Go.Proofs.Ytfkfooclapogjaa
