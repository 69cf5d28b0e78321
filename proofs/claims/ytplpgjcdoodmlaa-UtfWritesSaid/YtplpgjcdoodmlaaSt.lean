/-
  The document's decoder, walked.
-/
import Derived.Test.YtplpgjcdoodmlaaSn
namespace Go.Proofs.Ytplpgjcdoodmlaa
open Go.RowKit
set_option linter.unusedVariables false
set_option linter.unusedSimpArgs false

set_option maxHeartbeats 1600000 in
set_option maxRecDepth 100000 in
theorem refEnd_any (a : Option Addr) (n c : Nat) (w : World) (hn : n ≤ 1000000) : Calls Try.prog 23 #[.agg #[.slice a n c]] w fun e w' => e = .returned (.tuple #[.agg #[.slice none 0 0], .string (strOfNums (if n = 0 then [] else bytesL 65533))]) ∧ Below w.heap.size w w' := by
  obtain ⟨W1, hW1⟩ : ∃ W, W = w.alloc (.cells #[.slice a n c] 50) := ⟨_, rfl⟩
  obtain ⟨W2, hW2⟩ : ∃ W, W = W1.alloc (.cells #[.slice none 0 0] 50) := ⟨_, rfl⟩
  have s1 : W1.heap.size = w.heap.size + 1 := by rw [hW1]; simp
  have b1 : Below w.heap.size w W1 := by rw [hW1]; exact (Below.refl _ w).alloc (Nat.le_refl _) _
  have b2 : Below w.heap.size w W2 := by rw [hW2]; exact b1.alloc b1.size _
  have k1 : W2.heap[w.heap.size]? = some (.cells #[.slice a n c] 50 (0, 0)) := by rw [hW2]; refine alloc_blk ?_ _; rw [hW1]; exact alloc_blk_new _ _
  have k2 : W2.heap[w.heap.size + 1]? = some (.cells #[.slice none 0 0] 50 (0, 0)) := by rw [hW2, ← s1]; exact alloc_blk_new _ _
  have E1 := Lib.hid hW1
  have E2 := Lib.hid hW2
  have B2 := Lib.hid b2
  have K2 := Lib.hid k2
  have c1 := cell_blk k1 0 _ rfl
  have l1 := blk_lt k1
  have c2 := cell_blk k2 0 _ rfl
  have f2 := frozen_blk k2 0
  have l2 := blk_lt k2
  by_cases h0 : n = 0
  · subst h0
    rw [if_pos rfl]
    clear hW1 hW2 s1 b1 b2 k1 k2
    go_enter Try.func23, Try.ntmps23
    go_upto_region 1 with fail
    rw [← E1.out, ← E2.out]
    go_wp2
    refine bodyPost_ret (v := .tuple #[.agg #[.slice none 0 0], .string ⟨#[]⟩]) (by simp [results, Try.results23, go_sem, *]) rfl ⟨rfl, ?_⟩
    exact B2.out.setCell (p := ⟨w.heap.size + 1, 0, none⟩) (by simp) _
  · rw [if_neg h0]
    have t0 : decide (0 < n) = true := by simp; omega
    have t1 : decide ((0 : Int) < n) = true := by simp; omega
    have hbl : bytesL 65533 = [239, 191, 189] := by decide +kernel
    have HB : Hid (∀ W : World, Calls Try.prog 17 #[.int .i64 65533] W fun e w' => ∃ a c, e = .returned (.slice a 3 c) ∧ Arg (fun k => W.heap.size ≤ k) w' a 3 [239, 191, 189] ∧ a ≠ none ∧ Below W.heap.size W w') := Lib.hid fun W => by
      have := refBytes_any 65533 W Pt.bad
      rw [hbl] at this
      exact this
    obtain ⟨X, hX⟩ : ∃ X, X = strOfNums (bytesL 65533) := ⟨_, rfl⟩
    rw [← hX]
    rw [hbl] at hX
    have HX := Lib.hid hX
    clear hX hbl
    clear hW1 hW2 s1 b1 b2 k1 k2 h0
    go_enter Try.func23, Try.ntmps23
    go_upto_region 1 with fail
    rw [← E1.out, ← E2.out]
    go_upto_region 2 with fail
    clear c1 l1
    have HFin : Hid (∀ W, Below W2.heap.size W2 W → Below w.heap.size w (W.setCell ⟨w.heap.size + 1, 0, none⟩ (.slice none 0 0))) := Lib.hid fun W hW => (B2.out.trans (hW.mono B2.out.size)).setCell (p := ⟨w.heap.size + 1, 0, none⟩) (by simp) _
    go_region_with (first
      | (go_at_call 17; refine (HB.out _).mono ?_; rintro e w5 ⟨a5, c5, rfl, hA5, hn5, hb5⟩; have hb52 := (Below.drewN' W2 1).trans hb5; have k5 := (hb52.block _ (blk_lt K2.out)).trans K2.out; have q5 := cell_blk k5 0 _ rfl; have r5 := frozen_blk k5 0; have s5 := blk_lt k5; have hs5 := B2.out.size; have hl5 := blk_lt K2.out;
         have hT5 : (convert 25 9 (.slice a5 3 c5)).run Try.prog w5 = .ok (.string X) w5 := (by rw [HX.out]; exact conv_any c5 hA5 (fun e => absurd e hn5)); have hA6 : Arg (fun k => W2.heap.size ≤ k) (w5.setCell ⟨w.heap.size + 1, 0, none⟩ (.slice none 0 0)) a5 3 [239, 191, 189] := (hA5.mono (fun k _ h => h)).mod (S := fun k => k = w.heap.size + 1) ((Mod.refl (fun k => k = w.heap.size + 1) w5).setCell ⟨w.heap.size + 1, 0, none⟩ (.inl rfl) _) (fun k hk e => by have h8 : W2.heap.size ≤ k := hk; omega); have hT6 : (convert 25 9 (.slice a5 3 c5)).run Try.prog (w5.setCell ⟨w.heap.size + 1, 0, none⟩ (.slice none 0 0)) = .ok (.string X) (w5.setCell ⟨w.heap.size + 1, 0, none⟩ (.slice none 0 0)) := (by rw [HX.out]; exact conv_any c5 hA6 (fun e => absurd e hn5)); have HF5 := Lib.hid (HFin.out w5 hb52); clear hA5 hA6 hn5 hb5 hb52 k5 hs5 hl5))
    all_goals
      go_wp2
      refine bodyPost_ret (v := .tuple #[.agg #[.slice none 0 0], .string X]) (by simp [results, Try.results23, go_sem, *]) rfl ⟨rfl, HF5.out⟩
end Go.Proofs.Ytplpgjcdoodmlaa
