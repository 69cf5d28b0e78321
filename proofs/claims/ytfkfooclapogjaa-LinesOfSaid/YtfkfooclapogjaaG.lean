/-
  first.
-/
import Derived.Test.YtfkfooclapogjaaEx
import Derived.Deep.CutBlock
namespace Go.Proofs.Ytfkfooclapogjaa
open Go.RowKit
set_option linter.unusedVariables false
set_option linter.unusedSimpArgs false

/-- The k-th lead begins with this byte. -/
def InL (k : Nat) (b0 : Int) : Prop := LOs.getD k 0 ≤ b0 ∧ b0 ≤ HIs.getD k 0
theorem lead_cells {W : World} {B : Nat} (h : W.heap[B]? = some (.cells Leads 111 (0, 0))) (k : Nat) (hk : k < 9) :
    W.cell? ⟨B, k * 5, none⟩ = some (.int .u8 (LOs.getD k 0)) ∧ W.cell? ⟨B, k * 5 + 1, none⟩ = some (.int .u8 (HIs.getD k 0)) ∧ W.cell? ⟨B, k * 5 + 2, none⟩ = some (.int .i64 ((MNs.getD k 0 : Nat) : Int)) ∧
    W.cell? ⟨B, k * 5 + 3, none⟩ = some (.int .u8 (LWs.getD k 0)) ∧ W.cell? ⟨B, k * 5 + 4, none⟩ = some (.int .u8 (HGs.getD k 0)) := by
  refine ⟨cell_blk h _ _ ?_, cell_blk h _ _ ?_, cell_blk h _ _ ?_, cell_blk h _ _ ?_, cell_blk h _ _ ?_⟩ <;>
  (unfold Leads; match k, hk with
  | 0, _ | 1, _ | 2, _ | 3, _ | 4, _ | 5, _ | 6, _ | 7, _ | 8, _ => rfl)

set_option maxHeartbeats 1600000 in
set_option maxRecDepth 100000 in
theorem IndexFunc_any (B C : Nat) (b0 : Int) (b off n cap : Nat) (hn : 0 < n) (w : World) (hL : w.heap[C]? = some (.cells Leads 111 (0, 0))) (hc : w.cell? ⟨B, 0, none⟩ = some (.slice (some ⟨b, off, none⟩) n cap)) (hb : w.cell? ⟨b, off, none⟩ = some (.int .u8 b0)) (hB : B < w.heap.size) (hbl : b < w.heap.size) :
    Calls Try.prog 58 #[.slice (some ⟨C, 0, none⟩) 9 9, .func (.func 59) #[] #[.pointer (some ⟨B, 0, none⟩)]] w fun e w' => ((∃ k : Nat, k < 9 ∧ InL k b0 ∧ e = .returned (.int .i64 k)) ∨ ((∀ k, k < 9 → ¬ InL k b0) ∧ e = .returned (.int .i64 (-1)))) ∧ Below w.heap.size w w' := by
  have HL := Lib.hid hL
  have HI := Lib.hid (fun (lo hi m l h : Int) (W : World) (hW : Below w.heap.size w W) => in_lead lo hi m l h B b0 b off n cap hn W ((hW.cell (p := ⟨B, 0, none⟩) hB).trans hc) ((hW.cell (p := ⟨b, off, none⟩) hbl).trans hb) (Nat.lt_of_lt_of_le hB hW.size) (Nat.lt_of_lt_of_le hbl hW.size))
  have hCl := blk_lt hL
  clear hL hc hb
  go_enter Try.func58, Try.ntmps58
  go_wp2
  go_loopg [8] 9 (fun gk v wr => ∃ i : Nat, v = .int .i64 i ∧ i ≤ 9 ∧ gk = 9 - i ∧ Below w.heap.size w wr ∧ ∀ k, k < i → ¬ InL k b0)
  case atStart => exact ⟨0, rfl, by omega, rfl, Below.refl _ _, fun k hk => by omega⟩
  case round =>
    obtain ⟨i, rfl, hi, hgk, hbr, hall⟩ := hrel
    have HG := Lib.hid hgk
    have HBR := Lib.hid hbr
    have HA := Lib.hid hall
    have hcr := Nat.lt_of_lt_of_le hCl hbr.size
    clear hgk hbr hall
    by_cases hlt : i < 9
    · have d1 : decide (i < 9) = true := by simpa using hlt
      have d1' : decide ((i : Int) < 9) = true := by simp; omega
      obtain ⟨g0, g1, g2, g3, g4⟩ := lead_cells ((HBR.out.block _ hCl).trans HL.out) i hlt
      obtain ⟨lo, hlo⟩ : ∃ x, x = LOs.getD i 0 := ⟨_, rfl⟩
      obtain ⟨hi', hhi⟩ : ∃ x, x = HIs.getD i 0 := ⟨_, rfl⟩
      obtain ⟨mm, hmm⟩ : ∃ x, x = MNs.getD i 0 := ⟨_, rfl⟩
      obtain ⟨lw, hlw⟩ : ∃ x, x = LWs.getD i 0 := ⟨_, rfl⟩
      obtain ⟨hg, hhg⟩ : ∃ x, x = HGs.getD i 0 := ⟨_, rfl⟩
      rw [← hlo] at g0
      rw [← hhi] at g1
      rw [← hmm] at g2
      rw [← hlw] at g3
      rw [← hhg] at g4
      have HLo := Lib.hid hlo
      have HHi := Lib.hid hhi
      clear hlo hhi hmm hlw hhg
      obtain ⟨t, ht⟩ : ∃ t, t = decide (lo ≤ b0 ∧ b0 ≤ hi') := ⟨_, rfl⟩
      have HI2 := Lib.hid (HI.out lo hi' mm lw hg wr HBR.out)
      rw [← ht] at HI2
      have HT := Lib.hid ht
      clear ht
      go_wp2_with (go_at_call 59; fail)
      refine HI2.out.mono ?_
      rintro e w' ⟨rfl, hb⟩
      cases t with
      | true =>
        go_wp2
        go_ret
        have h2 := of_decide_eq_true HT.out.symm
        exact ⟨.inl ⟨i, hlt, by unfold InL; rw [← HLo.out, ← HHi.out]; exact h2, rfl⟩, HBR.out.trans (hb.mono HBR.out.size)⟩
      | false =>
        have HB2 := Lib.hid (HBR.out.trans (hb.mono HBR.out.size))
        clear hb
        go_wp2
        go_roundg (9 - (i + 1))
        case measure => have := HG.out; omega
        case rel => exact ⟨i + 1, by go_num, by omega, rfl, HB2.out, fun k hk => by
          by_cases e : k = i
          · subst e
            have h2 := of_decide_eq_false HT.out.symm
            unfold InL; rw [← HLo.out, ← HHi.out]; exact h2
          · exact HA.out k (by omega)⟩
    · obtain rfl : i = 9 := by omega
      go_wp2
      go_ret
      exact ⟨.inr ⟨HA.out, rfl⟩, HBR.out⟩
end Go.Proofs.Ytfkfooclapogjaa
