/-
  Going over nothing; what is told of none.
-/
import Derived.RangeFuncNested
import Derived.RangeFuncBound
import Derived.RangeFuncCalls
import Derived.RangeFuncLeaves
import Derived.Shelf.Abstract
import Derived.Shelf.RegionOpen
import Derived.WalkKit
import Derived.OwnWalkIn
import Derived.TacticsInMore
import Derived.LoopNIn
import Derived.LoopIn
import Derived.Scope
import Derived.Test.YthiajgkifoimcaaK
namespace Go.Proofs.Ythiajgkifoimcaa
open Go.RowKit Go.Shelf
set_option linter.unusedVariables false
set_option linter.unusedSimpArgs false
attribute [local go_sem] Oper.semAt_some

theorem grown_none {W W' : World} (h : Below W.heap.size W W') : W.grownBy W' none := ⟨h.os, h.tape, h.output, h.size, fun k hk _ => h.block k hk⟩

/-- An iterator that never calls. -/
theorem none_stops {α : Type} {F : Fence} {n : Nat} {P : Program} {g : Nat} {lb : Array Value} {encs : α → Array Value} {Kp : World → World → Prop} {w : World}
    (h : ∀ (l : Nat) (W : World), Below w.heap.size w W → CallsIn F n P g (#[.func (.yield l) #[] #[]] ++ lb) W fun e W' => (∃ v, e = .returned v) ∧ Below W.heap.size W W') :
    SeqStopsK F n P g lb encs Kp (fun ys => ys = []) (fun _ => False) 0 w := fun l J Jx W hW hJ _ _ h0 =>
  (h l W hW).mono fun e W' q => ⟨q.1, .inl ⟨[], rfl, hJ [] W W' none h0 (grown_none q.2) (fun r e => by cases e)⟩⟩

theorem All_in (a : Option Addr) (n c : Nat) (w : World) : Calls Try.prog 38 #[.slice a n c] w fun e w' => e = .returned (.func (.func 41) #[] #[.pointer (some ⟨w.heap.size, 0, none⟩)]) ∧ w' = w.alloc (.cells #[.slice a n c] 23) := by
  go_enter Try.func38, Try.ntmps38
  go_wp2
  go_ret
  exact ⟨rfl, rfl⟩

set_option maxHeartbeats 1600000 in
theorem All1_nil (F : Fence) (m : Nat) (h41 : F.fn 41) (hro : F.round = none) (l B : Nat) (W : World) (hB : W.cell? ⟨B, 0, none⟩ = some (.slice none 0 0)) :
    CallsIn F m Try.prog 41 #[.func (.yield l) #[] #[], .pointer (some ⟨B, 0, none⟩)] W fun e W' => (∃ v, e = .returned v) ∧ Below W.heap.size W W' := by
  refine callsIn_of_wp Try.func41 rfl h41 ?_ hro
  simp only [Try.ntmps41, List.size_toArray, List.length_cons, List.length_nil, Nat.reduceAdd, Nat.reduceSub, Array.replicate_succ, Array.replicate_zero, List.push_toArray, List.append_toArray, List.nil_append, List.cons_append]
  gi_wp2
  gi_loopw [7] (fun i wr => i = .int .i64 0 ∧ wr = W) (fun _ _ => 0)
  case atStart => exact ⟨rfl, rfl⟩
  case round =>
    obtain ⟨rfl, rfl⟩ := hrel
    gi_wp2
    go_end0
    exact ⟨⟨_, rfl⟩, Below.refl _ _⟩

set_option maxHeartbeats 1600000 in
set_option maxRecDepth 100000 in
/-- What From hands back, where there is nothing. -/
theorem From1_nil (m : Nat) (hm : 3 ≤ m) (l B C : Nat) (W : World) (hBl : B < W.heap.size) (hB : W.cell? ⟨B, 0, none⟩ = some (.slice none 0 0)) :
    CallsIn Fence.wide m Try.prog 37 #[.func (.yield l) #[] #[], .pointer (some ⟨B, 0, none⟩), .pointer (some ⟨C, 0, none⟩)] W fun e W' => (∃ v, e = .returned v) ∧ Below W.heap.size W W' := by
  have HBx := Lib.hid ((Below.refl _ W).alloc (Nat.le_refl _) (.cells #[.func (.yield l) #[] #[]] 76))
  refine callsIn_of_wp_marks Try.func37 rfl trivial ?_ rfl
  simp only [Try.ntmps37, List.size_toArray, List.length_cons, List.length_nil, Nat.reduceAdd, Nat.reduceSub, Array.replicate_succ, Array.replicate_zero, List.push_toArray, List.append_toArray, List.nil_append, List.cons_append]
  refine wpIn_wide.2 ?_
  go_wp2
  refine wp_scope_straight ?_
  go_wp2_with fail
  refine wp_label ?_
  have HBB : Hid ((W.alloc (.cells #[.func (.yield l) #[] #[]] 76)).cell? ⟨B, 0, none⟩ = some (.slice none 0 0)) := Lib.hid ((HBx.out.cell (p := ⟨B, 0, none⟩) hBl).trans hB)
  obtain ⟨W1, hW1⟩ : ∃ X, X = W.alloc (.cells #[.func (.yield l) #[] #[]] 76) := ⟨_, rfl⟩
  rw [← hW1] at HBx HBB ⊢
  have hBB := HBB.out
  clear hW1 hB
  go_wp2_with fail
  refine (All_in none 0 0 W1).mono ?_
  rintro e W2 ⟨rfl, hW2⟩
  obtain ⟨A, hA⟩ : ∃ A, A = W1.heap.size := ⟨_, rfl⟩
  have hk := alloc_blk_new W1 (.cells #[.slice none 0 0] 23)
  have hb2 := (Below.refl _ W1).alloc (Nat.le_refl _) (.cells #[.slice none 0 0] 23)
  rw [← hW2] at hk hb2
  rw [← hA] at hk ⊢
  have HK2 := Lib.hid (cell_blk hk 0 (.slice none 0 0) rfl)
  have hAl : A < W2.heap.size := blk_lt hk
  have HB2 := Lib.hid (HBx.out.trans (hb2.mono HBx.out.size))
  clear hk hb2 hW2 hA hBB HBB HBx
  go_wp2_with fail
  refine (wpIn_wide (n := m)).1 ?_
  refine' wpIn_rangeFunc_ownF (α := Nat × Int) (encs := fun x => #[.int .i64 (x.1 : Int), .int .i64 x.2]) (F := Fence.wide) rfl (by omega) (gf := 41) (lb := #[.pointer (some ⟨A, 0, none⟩)]) rfl trivial (enters_of Try.func41 (by kernel_rfl) rfl)
    (none_stops (w := W2) (Kp := Below W2.heap.size) fun l W hW => All1_nil Fence.wide (m - 1) trivial rfl l A W ((hW.cell (p := ⟨A, 0, none⟩) hAl).trans HK2.out)) belowK_t (belowK_b (Nat.le_refl _)) (Below.refl _ _) (fun _ => rfl)
    (fun _ W' => Below W2.heap.size W2 W') (fun _ _ _ => False) (ownFrom_below (Nat.le_refl _) (Nat.le_refl _)) (fun _ _ _ _ _ hs _ _ => hs) (Below.refl _ _) _ ?assign ?body ?done ?stop
  case assign =>
    intro l x W K hK
    gi_wp2
    exact hK
  case body =>
    intro l pre x W hI hlt
    exact absurd hlt (by omega)
  case stop =>
    rintro D c pre W' _ h _ _
    exact h.elim
  case done =>
    rintro D ys W' hD rfl hI hKd
    go_wp2
    simp only [Exit.noGoto]
    refine ⟨by simp, .inl ⟨_, _, rfl, run_takeDeferred hKd, ?_⟩⟩
    have hb3 := HB2.out.trans (hI.mono HB2.out.size)
    exact ⟨_, results_none rfl _ _ _, ⟨_, rfl⟩, hb3.trans ((belowK_b (Nat.le_refl _) _ D _ (.deferred none) hD hKd rfl rfl).mono HB2.out.size)⟩
end Go.Proofs.Ythiajgkifoimcaa
