/-
  Len, Room, Clone, New, Peek.
-/
import Derived.Test.YtneeagabmdpjgaaC
namespace Go.Proofs.Ytneeagabmdpjgaa
open Go.RowKit
set_option linter.unusedVariables false
set_option linter.unusedSimpArgs false

set_option maxHeartbeats 800000 in
theorem Len_any (base p g : Nat) (m : Int) (sv : Value) (vs : List Int) (w : World) (h : QAt w base p sv g m vs) (hg : g ≤ vs.length) (hl : vs.length ≤ 4194304) :
    Calls Try.prog 38 #[.pointer (some ⟨p, 0, none⟩)] w fun e w' => e = .returned (.int .i64 ((vs.length - g : Nat) : Int)) ∧ ∃ q, w' = w.drewN q := by
  obtain ⟨ao, h1, h2, h3⟩ := left_any base p g m sv vs w h hg hl
  have HN := Lib.hid (none_q p w h.c3)
  have HL := Lib.hid h3
  clear h h1 h2 h3
  obtain ⟨n, hn⟩ : ∃ n, n = vs.length - g := ⟨_, rfl⟩
  rw [← hn] at HL ⊢
  have hn2 : n ≤ 4194304 := by omega
  clear hn hg hl
  go_enter Try.func38, Try.ntmps38
  go_wp2_with (first | (go_at_call 52; refine HN.out.mono ?_; rintro e w' ⟨rfl, rfl⟩) | (go_at_call 57; refine HL.out.mono ?_; rintro e w' ⟨rfl, q, rfl⟩))
  go_ret
  exact ⟨rfl, _, rfl⟩

set_option maxHeartbeats 800000 in
theorem Room_any (base p g : Nat) (m : Int) (sv : Value) (vs : List Int) (w : World) (h : QAt w base p sv g m vs) (hg : g ≤ vs.length) (hl : vs.length ≤ 4194304) (h0 : 0 ≤ m) (hm : m ≤ 1048576) :
    Calls Try.prog 39 #[.pointer (some ⟨p, 0, none⟩)] w fun e w' => e = .returned (.int .i64 (m - ((vs.length - g : Nat) : Int))) ∧ ∃ q, w' = w.drewN q := by
  have HN := Lib.hid (none_q p w h.c3)
  have HL := Lib.hid (fun k => Len_any base p g m sv vs (w.drewN k) (h.drewN k) hg hl)
  have c2 := h.c2
  clear h
  obtain ⟨n, hn⟩ : ∃ n, n = vs.length - g := ⟨_, rfl⟩
  rw [← hn] at HL ⊢
  have hn2 : n ≤ 4194304 := by omega
  clear hn hg hl
  go_enter Try.func39, Try.ntmps39
  go_wp2_with (first | (go_at_call 52; refine HN.out.mono ?_; rintro e w' ⟨rfl, rfl⟩))
  go_quiet ((go_at_call 38; exact Calls.quiet_of (HL.out _)))
  go_wp2
  go_ret
  exact ⟨rfl, _, rfl⟩

set_option maxHeartbeats 800000 in
theorem Clone_any (T : Nat → Prop) (ao : Option Addr) (n cap : Nat) (zs : List Int) (w : World) (h : Arg T w ao n zs) (hc : ao = none → n = 0 ∧ cap = 0) (hn : n ≤ 4194304) :
    Calls Try.prog 58 #[.slice ao n cap] w fun e w' => ∃ v, e = .returned v ∧ w'.ownsRow w.heap.size 5 1 v n (zs.map (.int .u8)) ∧ Below w.heap.size w w' ∧ (ao = none → v = .slice none 0 0) := by
  obtain ⟨i0, hi, hz0, hz1, hz2⟩ := info_parts Try.info5
  have hnil := fun (W : World) => Lib.run_eql_slice_nil (P := Try.prog) W 29 5 ao n cap 0 0 Try.underlying29
  cases ao with
  | none =>
    obtain ⟨rfl, rfl⟩ := hc rfl
    have hz : zs = [] := List.eq_nil_of_length_eq_zero h.1
    subst hz
    clear h
    go_enter Try.func58, Try.ntmps58
    go_wp2
    go_ret
    exact ⟨_, rfl, World.ownsRow_nil _ _ _ _, Below.refl _ _, rfl⟩
  | some ad =>
    have HR : Hid ((w.alloc (.cells #[] 5)).ownsRow w.heap.size 5 1 (.slice (some ⟨w.heap.size, 0, none⟩) 0 0) 0 []) := Lib.hid (World.ownsRow_lit w #[] 0 (Nat.le_refl _) (by simp) rfl)
    have HA := Lib.hid (h.below ((Below.refl _ w).alloc (Nat.le_refl _) (.cells #[] 5)))
    have hl := h.1
    clear h
    go_enter Try.func58, Try.ntmps58
    go_wp2_with (at_builtin; refine wpList_append_f _ rfl (.tmp 5) (.tmp 6) 29 rfl w.heap.size 5 i0 (.int .u8 0) 1 1 Try.underlying29 hi hz0 hz1 hz2 rfl (by decide) _ _ _ rfl HR.out (some ad) n cap (zs.map (.int .u8)) rfl (by simp; exact hl) (fun e => by cases e) HA.out.news (one_u8 zs) ?c3 ?c4 (by simp) ?_)
    case c3 => unfold maxLen; omega
    case c4 => omega
    intro v' w1 hown hg hf _
    have hb : Below w.heap.size w w1 := ((Below.refl _ w).alloc (Nat.le_refl _) (.cells #[] 5)).grown hg (by simp) (fun k e => by cases e; exact Nat.le_refl _)
    have HO := Lib.hid hown
    have HB := Lib.hid hb
    clear hown hg hf hb
    go_wp2
    go_ret
    exact ⟨_, rfl, by simpa using HO.out, HB.out, fun e => by cases e⟩

theorem New_bad (m : Int) (w : World) (h : m < 0 ∨ 1048576 < m) : Calls Try.prog 27 #[.int .i64 m] w fun e w' => e = .returned (.tuple #[.pointer none, .int .i64 2]) ∧ w = w' := by
  rcases h with h | h
  · have t1 : decide (m < 0) = true := by simpa using h
    go_enter Try.func27, Try.ntmps27
    go_wp2
    go_ret2
    exact ⟨rfl, rfl⟩
  · have t1 : decide (m < 0) = false := by simp; omega
    have t2 : decide (1048576 < m) = true := by simpa using h
    go_enter Try.func27, Try.ntmps27
    go_wp2
    go_ret2
    exact ⟨rfl, rfl⟩

theorem New_any (m : Int) (w : World) (h0 : 0 ≤ m) (h1 : m ≤ 1048576) : Calls Try.prog 27 #[.int .i64 m] w fun e w' => e = .returned (.tuple #[.pointer (some ⟨w.heap.size, 0, none⟩), .int .i64 0]) ∧
    QAt w' w.heap.size w.heap.size (.slice none 0 0) 0 m [] ∧ Below w.heap.size w w' := by
  have t1 : decide (m < 0) = false := by simp; omega
  have t2 : decide (1048576 < m) = false := by simp; omega
  have hb : Below w.heap.size w (w.alloc (.cells #[.slice none 0 0, .int .i64 0, .int .i64 m, .bool true] 93)) := (Below.refl _ w).alloc (Nat.le_refl _) _
  have hk := alloc_blk_new w (.cells #[.slice none 0 0, .int .i64 0, .int .i64 m, .bool true] 93)
  have HB := Lib.hid hb
  have HK := Lib.hid hk
  clear hb hk
  go_enter Try.func27, Try.ntmps27
  go_wp2
  go_ret2
  exact ⟨rfl, ⟨HK.out, World.ownsRow_nil _ _ _ _, (fun k e => by cases e), Nat.le_refl _⟩, HB.out⟩
end Go.Proofs.Ytneeagabmdpjgaa
