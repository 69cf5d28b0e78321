/-
  Share, and works.
-/
import Derived.Test.YtagdenhcbafblaaF
namespace Go.Proofs.Ytagdenhcbafblaa
open Go.RowKit
set_option linter.unusedVariables false
set_option linter.unusedSimpArgs false

theorem Arg.below {w w' : World} {ao : Option Addr} {n : Nat} {zs : List Int} (h : Arg w ao n zs) (hb : Below w.heap.size w w') : Arg w' ao n zs :=
  ⟨h.1, fun hn => by
    obtain ⟨b, off, e, hb0, hc⟩ := h.2 hn
    exact ⟨b, off, e, Nat.lt_of_lt_of_le hb0 hb.size, fun j hj => (hb.cell (p := ⟨b, off + j, none⟩) hb0).trans (hc j hj)⟩⟩

set_option maxHeartbeats 800000 in
theorem Share_bad (p : Nat) (l g : Int) (s : Bool) (ao : Option Addr) (n cap : Nat) (zs : List Int) (w : World) (h : Wi w p l g s) (ha : Arg w ao n zs) (hn : n ≤ 1000) (hp : ∃ j, j < n ∧ zs.getD j 0 < 0) :
    Calls Try.prog 14 #[.pointer (some ⟨p, 0, none⟩), .slice ao n cap] w fun e w' => e = .returned (.tuple #[.slice none 0 0, .int .i64 2]) ∧ w = w' := by
  have HN := Lib.hid (none_wi p l g s w h)
  have HC := Lib.hid (contains_some ao n cap zs w ha hn hp)
  clear h ha hp
  go_enter Try.func14, Try.ntmps14
  go_wp2_with (first | (go_at_call 24; refine HN.out.mono ?_; rintro e w' ⟨rfl, rfl⟩) | (go_at_call 28; refine HC.out.mono ?_; rintro e w' ⟨rfl, rfl⟩))
  go_ret2
  exact ⟨rfl, rfl⟩

set_option maxHeartbeats 800000 in
theorem Share_ok (p : Nat) (l g : Int) (s : Bool) (ao : Option Addr) (n cap : Nat) (zs : List Int) (w : World) (h : Wi w p l g s) (ha : Arg w ao n zs) (hn : n ≤ 1000) (hp : ∀ j, j < n → 0 ≤ zs.getD j 0 ∧ zs.getD j 0 ≤ 9223372036854775807) :
    Calls Try.prog 14 #[.pointer (some ⟨p, 0, none⟩), .slice ao n cap] w fun e w' => ∃ v, e = .returned (.tuple #[v, .int .i64 0]) ∧ w'.ownsRow w.heap.size 3 1 v n ((shareOf l (zs.take n)).map (.int .i64)) ∧ Below w.heap.size w w' := by
  have HN := Lib.hid (none_wi p l g s w h)
  have HL := Lib.hid (left_wi p l g s w h)
  have HC := Lib.hid (contains_none ao n cap zs w ha hn (fun j hj => (hp j hj).1))
  have b0 := h.l0
  have b1 := h.l1
  have hB : Below w.heap.size w (w.alloc (.cells #[.int .u64 l] 26)) := (Below.refl _ w).alloc (Nat.le_refl _) _
  have HE := Lib.hid (each_any w.heap.size l ao n cap zs (w.alloc (.cells #[.int .u64 l] 26)) (ha.below hB) (fun hn b off e => by
    obtain ⟨b', off', e', hb', _⟩ := ha.2 hn
    rw [e] at e'; cases e'; omega) (alloc_blk_new _ _) hn hp b0 b1)
  have HB := Lib.hid hB
  clear h ha hp hB
  go_enter Try.func14, Try.ntmps14
  go_wp2_with (first | (go_at_call 24; refine HN.out.mono ?_; rintro e w' ⟨rfl, rfl⟩) | (go_at_call 28; refine HC.out.mono ?_; rintro e w' ⟨rfl, rfl⟩) | (go_at_call 25; refine HL.out.mono ?_; rintro e w' ⟨rfl, rfl⟩))
  refine HE.out.mono ?_
  rintro e w2 ⟨v, rfl, hown, hm⟩
  obtain ⟨ao, cap, rfl⟩ := row_slice hown
  have HO := Lib.hid hown
  have HM := Lib.hid hm
  clear hown hm
  go_wp2
  go_ret2
  have hs : w.heap.size ≤ (w.alloc (.cells #[.int .u64 l] 26)).heap.size := by simp
  refine ⟨_, rfl, ⟨HO.out.1, HO.out.2.imp (fun h => h) (fun ⟨g, cap, cur, e, hb, r⟩ => ⟨g, cap, cur, e, Nat.le_trans hs hb, r⟩)⟩, ?_⟩
  refine HB.out.trans ⟨HM.out.os, HM.out.tape, HM.out.output, HM.out.size, fun k hk => HM.out.block k ?_ (by omega)⟩
  omega
end Go.Proofs.Ytagdenhcbafblaa
