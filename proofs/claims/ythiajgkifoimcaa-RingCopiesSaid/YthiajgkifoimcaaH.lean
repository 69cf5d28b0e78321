import Derived.Test.YthiajgkifoimcaaG
namespace Go.Proofs.Ythiajgkifoimcaa
open Go.RowKit
set_option linter.unusedVariables false
set_option linter.unusedSimpArgs false

theorem RingAt.drewN {w : World} {base p : Nat} {F N m : Int} {sv : Value} {vs : List Int} (h : RingAt w base p F N m sv vs) (n : Nat) : RingAt (w.drewN n) base p F N m sv vs := ⟨h.blk, h.row, h.ne, h.lo⟩

/-- The values behind a put. -/
def putAt (vs : List Int) (i : Nat) (x : Int) : List Int := (growTo vs (i + 1)).set i x

set_option maxHeartbeats 400000 in
set_option maxRecDepth 100000 in
theorem Put_full (base p : Nat) (F N m val : Int) (sv : Value) (vs : List Int) (w : World) (h : RingAt w base p F N m sv vs) (h1 : 1 ≤ m) (hN : (N == 18446744073709551615) = true) :
    Calls Try.prog 10 #[.pointer (some ⟨p, 0, none⟩), .int .i64 val] w fun e w' => e = .returned (.tuple #[.int .u64 0, .int .i64 0, .bool false, .int .i64 111]) ∧ w = w' := by
  have hm : (m == 0) = false := by simp; omega
  have HN := Lib.hid (none_ring p m w hm h.c3)
  have HX := Lib.hid (next_any p N w h.c1)
  clear h hm
  go_enter Try.func10, Try.ntmps10
  go_wp2
  refine wp_scope_fwd 0 rfl ?_
  go_wp2_with (first | (go_at_call 24; refine HN.out.mono ?_; rintro e w' ⟨rfl, rfl⟩) | (go_at_call 25; refine HX.out.mono ?_; rintro e w' ⟨rfl, rfl⟩))
  refine wp_goto ?_
  refine ⟨rfl, ?_⟩
  go_wp2
  try rw [Exit.noGoto_ret]
  refine bodyPost_ret (results_tmp4 rfl _ _ _) rfl ?_
  exact ⟨rfl, rfl⟩

set_option maxHeartbeats 800000 in
set_option maxRecDepth 100000 in
/-- A put where there is room. -/
theorem Put_room (base p : Nat) (F N m val : Int) (sv : Value) (vs : List Int) (w : World) (h : RingAt w base p F N m sv vs) (hb : base ≤ w.heap.size) (h1 : 1 ≤ m) (h2 : m ≤ 4096) (h3 : (vs.length : Int) ≤ 4096) (ha : 0 ≤ F) (hFN : F ≤ N) (hN : N < 18446744073709551615)
    (hL : N - F < m) (i : Nat) (him : N % m = i) :
    Calls Try.prog 10 #[.pointer (some ⟨p, 0, none⟩), .int .i64 val] w fun e w' => e = .returned (.tuple #[.int .u64 N, .int .i64 0, .bool false, .int .i64 0]) ∧ ∃ sv',
      RingAt w' base p F (N + 1) m sv' (putAt vs i val) ∧ Step p sv sv' w w' := by
  have hm : (m == 0) = false := by simp; omega
  have hN1 : (N == 18446744073709551615) = false := by simp; omega
  have hL1 : (N - F == m) = false := by simp; omega
  have c3 := h.c3
  have HN := Lib.hid (none_ring p m w hm h.c3)
  have HX := Lib.hid (fun (w1 : World) (hr : RingAt w1 base p F N m sv vs) => next_any p N w1 hr.c1)
  have HL := Lib.hid (fun (w1 : World) (hr : RingAt w1 base p F N m sv vs) => calls_swap (Len_any base p F N m sv vs w1 hr h1 ha hFN (by omega) (by omega)))
  have HP := Lib.hid (fun (w1 : World) (hr : RingAt w1 base p F N m sv vs) (hw : base ≤ w1.heap.size) => place_any base p F N N m sv vs w1 hr hw h1 h2 h3 (by omega) (by omega) i him)
  have HR := Lib.hid h
  clear h hm him
  go_enter Try.func10, Try.ntmps10
  go_wp2
  refine wp_scope_straight ?_
  go_wp2_with (first | (go_at_call 24; refine HN.out.mono ?_; rintro e w' ⟨rfl, rfl⟩) | (go_at_call 25; refine (HX.out w HR.out).mono ?_; rintro e w' ⟨rfl, rfl⟩))
  go_quiet ((go_at_call 13; exact Calls.quiet_of_same (HL.out _ (HR.out.drewN _))))
  go_wp2_with (first | (go_at_call 25; refine (HX.out _ (HR.out.drewN _)).mono ?_; rintro e w' ⟨rfl, rfl⟩) | (go_at_call 26; refine (HP.out _ (HR.out.drewN _) hb).mono ?_; rintro e w1 ⟨q, cap, rfl, hr, hs⟩; obtain ⟨g1, g2, ⟨u, k1⟩, k2⟩ := hr.stored i val (by rw [growTo_len]; omega); have HS := Lib.hid (hs.trans g2); have HG := Lib.hid g1; clear hs g2 g1))
  have hgen : ∃ w2, w2 = w1.setCell ⟨q, i, none⟩ (.int .i64 val) := ⟨_, rfl⟩
  obtain ⟨w2, hw2⟩ := hgen
  rw [← hw2] at HG HS ⊢
  clear hw2 k1 k2 hr c3
  have HG1 := HG.out
  have k1 := HG1.c1
  have kf := HG1.fz 1
  have kl := HG1.lt
  clear HG1
  go_region
  all_goals go_wp2
  all_goals
    rw [Exit.noGoto_ret]
    refine bodyPost_ret (results_tmp4 rfl _ _ _) rfl ?_
    obtain ⟨g1, g2⟩ := HG.out.setN (N + 1)
    have g3 : Step p sv sv w (w.drewN nq) := ⟨(Mod.refl _ _).drewN nq, fun k hk => .inl hk⟩
    exact ⟨rfl, _, ⟨g1.blk, g1.row, g1.ne, g1.lo⟩, ⟨((g3.trans HS.out).trans g2).mod.drew, ((g3.trans HS.out).trans g2).fp⟩⟩
end Go.Proofs.Ythiajgkifoimcaa
