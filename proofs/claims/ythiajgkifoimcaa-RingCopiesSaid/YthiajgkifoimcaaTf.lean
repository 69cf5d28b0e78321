/-
  The ring: Copy.
-/
import Derived.Test.YthiajgkifoimcaaTe
namespace Go.Proofs.Ythiajgkifoimcaa
open Go.RowKit
set_option linter.unusedVariables false
set_option linter.unusedSimpArgs false

set_option maxHeartbeats 1600000 in
theorem Clone_row (base : Nat) (v : Value) (n : Nat) (vs : List Int) (w : World) (h : w.ownsRow base 3 1 v n (vs.map (.int .i64))) (hn : n ≤ 4096) :
    Calls Try.prog 36 #[v] w fun e w' => ∃ v', e = .returned v' ∧ w'.ownsRow w.heap.size 3 1 v' n (vs.map (.int .i64)) ∧ Below w.heap.size w w' := by
  obtain ⟨i0, hi0, hz0, hz1, hz2⟩ := info_parts Try.info3
  have hl : vs.length = n := by have := h.1; simpa using this
  have hh := h
  rcases h.2 with ⟨rfl, rfl⟩ | ⟨g, cap, cur, rfl, hb, hg, hnc, hcm, hcs, htk⟩
  · obtain rfl : vs = [] := List.eq_nil_of_length_eq_zero hl
    clear h hh
    have hnil := fun (W : World) => Lib.run_eql_slice_nil (P := Try.prog) W 23 3 none 0 0 0 0 Try.underlying23
    go_enter Try.func36, Try.ntmps36
    go_wp2
    go_ret
    exact ⟨_, rfl, World.ownsRow_nil _ _ _ _, Below.refl _ _⟩
  · have hR := (RL.row hh).below ((Below.refl _ w).alloc (Nat.le_refl _) (.cells #[] 3))
    have HRL := Lib.hid hR
    have HRw : Hid ((w.alloc (.cells #[] 3)).ownsRow w.heap.size 3 1 (.slice (some ⟨w.heap.size, 0, none⟩) 0 0) 0 []) := Lib.hid (World.ownsRow_lit w #[] 0 (Nat.le_refl _) (by simp) rfl)
    clear h hh hb hg hnc hcm hcs htk hR
    have hnil := fun (W : World) => Lib.run_eql_slice_nil (P := Try.prog) W 23 3 (some ⟨g, 0, none⟩) n cap 0 0 Try.underlying23
    go_enter Try.func36, Try.ntmps36
    go_wp2_with (at_builtin; refine wpList_append_f _ rfl (.tmp 5) (.tmp 6) 23 rfl w.heap.size 3 i0 (.int .i64 0) 1 8 Try.underlying23 hi0 hz0 hz1 hz2 rfl (by decide) _ _ _ rfl HRw.out (some ⟨g, 0, none⟩) n cap (vs.map (Value.int .i64)) rfl ?c1 (fun h => by cases h) HRL.out.news ?c2 ?c3 ?c4 ?c5 ?_)
    case c1 => simp; omega
    case c2 => intro u hu; obtain ⟨z, _, rfl⟩ := List.mem_map.1 hu; rfl
    case c3 => unfold maxLen; omega
    case c4 => omega
    case c5 => simp
    intro v2 w2 hown2 hg2 hf2 _
    have hg2' : (w.alloc (.cells #[] 3)).grownBy w2 (some w.heap.size) := hg2
    have HB2 := Lib.hid (((Below.refl _ w).alloc (Nat.le_refl _) (.cells #[] 3)).grown hg2' (by simp) (fun k e => by cases e; omega))
    have HO := Lib.hid hown2
    clear hown2 hg2 hg2' hf2 HRw HRL
    go_wp2
    go_ret
    exact ⟨_, rfl, by simpa using HO.out, HB2.out⟩

set_option maxHeartbeats 1600000 in
set_option maxRecDepth 100000 in
theorem Copy_ring (base p : Nat) (F m : Int) (sv : Value) (L : List Int) (w : World) (h : Ring w base p F m sv L) :
    Calls Try.prog 19 #[.pointer (some ⟨p, 0, none⟩)] w fun e w' => ∃ sv', e = .returned (.pointer (some ⟨w.heap.size, 0, none⟩)) ∧ Ring w' w.heap.size w.heap.size F m sv' L ∧ Below w.heap.size w w' := by
  obtain ⟨vs, hr, hl⟩ := h
  have hp := hr.lt
  have hm : (m == 0) = false := by have := hl.m1; simp; omega
  obtain ⟨N, hN⟩ : ∃ N, N = F + (L.length : Int) := ⟨_, rfl⟩
  rw [← hN] at hr
  have HN := Lib.hid (none_ring p m w hm hr.c3)
  have c0 := hr.c0
  have c1 := hr.c1
  have c2 := hr.c2
  have c3 := hr.c3
  have hle := hl.le
  have hm2 := hl.m2
  have hb1 : Below w.heap.size w (w.alloc (.cells #[.int .u64 F, .int .u64 N, sv, .int .i64 m] 58)) := (Below.refl _ _).alloc (Nat.le_refl _) _
  have HB1 := Lib.hid hb1
  have HC := Lib.hid (Clone_row base sv vs.length vs (w.alloc (.cells #[.int .u64 F, .int .u64 N, sv, .int .i64 m] 58)) (hr.row.alloc _) (by omega))
  have HK := Lib.hid (alloc_blk_new w (.cells #[.int .u64 F, .int .u64 N, sv, .int .i64 m] 58))
  have HLi := Lib.hid hl
  have HNN := Lib.hid hN
  obtain ⟨ao, cap, rfl⟩ := row_slice hr.row
  clear hr hl hm hN hb1
  go_enter Try.func19, Try.ntmps19
  go_wp2_with (go_at_call 24; refine HN.out.mono ?_; rintro e w' ⟨rfl, rfl⟩)
  refine HC.out.mono ?_
  rintro e w2 ⟨v', rfl, hown, hb2⟩
  obtain ⟨ao', cap', rfl⟩ := row_slice hown
  have K2 := (hb2.block w.heap.size (by simp)).trans HK.out
  have d2 := cell_blk K2 2 _ rfl
  have f2 := frozen_blk K2 2
  have hl2 := blk_lt K2
  have HK2 := Lib.hid K2
  have HO := Lib.hid hown
  have HB2 := Lib.hid (HB1.out.trans (hb2.mono (by simp)))
  clear hown hb2 K2 HC
  go_wp2_with fail
  go_ret
  have hlt := HO.out.lt
  refine ⟨.slice ao' vs.length cap', rfl, ⟨vs, ⟨?_, ?_, ?_, Nat.le_refl _⟩, HLi.out⟩, HB2.out.setCell (p := ⟨w.heap.size, 2, none⟩) (Nat.le_refl _) _⟩
  · rw [setCell_blk HK2.out, ← HNN.out]; rfl
  · have hm : Mod (fun k => k = w.heap.size) w2 (w2.setCell ⟨w.heap.size, 2, none⟩ (.slice ao' vs.length cap')) := (Mod.refl (fun k => k = w.heap.size) w2).setCell ⟨w.heap.size, 2, none⟩ (.inl rfl) _
    have h2 := hm.row HO.out (fun k hk e => by have := (hlt k hk).1; simp at this; omega)
    exact ⟨h2.1, h2.2.imp (fun h => h) (fun ⟨g, cap, cur, e, hb, r⟩ => ⟨g, cap, cur, e, Nat.le_trans (by simp) hb, r⟩)⟩
  · intro k hk e
    have := (hlt k hk).1
    simp at this
    omega
end Go.Proofs.Ythiajgkifoimcaa
