import Derived.Test.YthiajgkifoimcaaH
namespace Go.Proofs.Ythiajgkifoimcaa
open Go.RowKit
set_option linter.unusedVariables false
set_option linter.unusedSimpArgs false

theorem growTo_idem (vs : List Int) (n : Nat) : growTo (growTo vs n) n = growTo vs n := growTo_le _ _ (by rw [growTo_len]; omega)

set_option maxHeartbeats 800000 in
set_option maxRecDepth 100000 in
/-- A put where there is no room: the oldest one goes. -/
theorem Put_drop (base p : Nat) (F N m val : Int) (sv : Value) (vs : List Int) (w : World) (h : RingAt w base p F N m sv vs) (hb : base ≤ w.heap.size) (h1 : 1 ≤ m) (h2 : m ≤ 4096) (h3 : (vs.length : Int) ≤ 4096) (ha : 0 ≤ F) (hN : N < 18446744073709551615)
    (hL : N = F + m) (i : Nat) (him : N % m = i) :
    Calls Try.prog 10 #[.pointer (some ⟨p, 0, none⟩), .int .i64 val] w fun e w' => e = .returned (.tuple #[.int .u64 N, .int .i64 ((growTo vs (i + 1)).getD i 0), .bool true, .int .i64 0]) ∧ ∃ sv',
      RingAt w' base p (F + 1) (N + 1) m sv' (putAt vs i val) ∧ Step p sv sv' w w' := by
  have hm : (m == 0) = false := by simp; omega
  have hN1 : (N == 18446744073709551615) = false := by simp; omega
  have hL1 : (N - F == m) = true := by simp; omega
  have hFi : F % m = i := by rw [← him, hL]; simp
  have hlen : (growTo vs (i + 1)).length ≤ 4096 := by
    have := Int.emod_lt_of_pos N (show 0 < m by omega)
    rw [growTo_len]; omega
  have c3 := h.c3
  have HN := Lib.hid (none_ring p m w hm h.c3)
  have HX := Lib.hid (fun (w1 : World) (hr : RingAt w1 base p F N m sv vs) => next_any p N w1 hr.c1)
  have HX2 := Lib.hid (fun (w1 : World) (s1 : Value) (v1 : List Int) (hr : RingAt w1 base p (F + 1) N m s1 v1) => next_any p N w1 hr.c1)
  have HL := Lib.hid (fun (w1 : World) (hr : RingAt w1 base p F N m sv vs) => calls_swap (Len_any base p F N m sv vs w1 hr h1 ha (by omega) (by omega) (by omega)))
  have HD := Lib.hid (fun (w1 : World) (hr : RingAt w1 base p F N m sv vs) (hw : base ≤ w1.heap.size) => Drop_some base p F N m sv vs w1 hr hw h1 h2 h3 ha (by omega) (by omega) i hFi)
  have HP := Lib.hid (fun (w1 : World) (s1 : Value) (hr : RingAt w1 base p (F + 1) N m s1 (growTo vs (i + 1))) (hw : base ≤ w1.heap.size) => place_any base p (F + 1) N N m s1 (growTo vs (i + 1)) w1 hr hw h1 h2 (by omega) (by omega) (by omega) i him)
  have HR := Lib.hid h
  have HE := Lib.hid hlen
  have hN0 : 0 ≤ N := by omega
  clear h hm him hFi hL hlen
  go_enter Try.func10, Try.ntmps10
  go_wp2
  refine wp_scope_straight ?_
  go_wp2_with (first | (go_at_call 24; refine HN.out.mono ?_; rintro e w' ⟨rfl, rfl⟩) | (go_at_call 25; refine (HX.out w HR.out).mono ?_; rintro e w' ⟨rfl, rfl⟩))
  go_quiet ((go_at_call 13; exact Calls.quiet_of_same (HL.out _ (HR.out.drewN _))))
  go_wp2_with fail
  refine (HD.out _ (HR.out.drewN _) hb).mono ?_
  rintro e w0 ⟨rfl, s0, hr0, hs0⟩
  have hb0 : base ≤ w0.heap.size := Nat.le_trans hb hs0.mod.size
  have HR0 := Lib.hid hr0
  have HS0 := Lib.hid hs0
  clear hr0 hs0 c3
  have HXX := Lib.hid (HX2.out _ _ _ HR0.out)
  have HPP := Lib.hid (HP.out _ _ HR0.out hb0)
  clear HX HX2 HP HD HL HN
  go_wp2_with fail
  refine HXX.out.mono ?_
  rintro e w' ⟨rfl, rfl⟩
  go_wp2_with fail
  refine HPP.out.mono ?_
  rintro e w1 ⟨q, cap, rfl, hr, hs⟩
  rw [growTo_idem] at hr hs
  obtain ⟨g1, g2, ⟨u, k1⟩, k2⟩ := hr.stored i val (by rw [growTo_len]; omega)
  have HS := Lib.hid (hs.trans g2)
  have HG := Lib.hid g1
  clear hs g2 g1 hr
  go_wp2
  have hgen : ∃ w2, w2 = w1.setCell ⟨q, i, none⟩ (.int .i64 val) := ⟨_, rfl⟩
  obtain ⟨w2, hw2⟩ := hgen
  rw [← hw2] at HG HS ⊢
  clear hw2 k1 k2
  have HG1 := HG.out
  have k1 := HG1.c1
  have kf := HG1.fz 1
  have kl := HG1.lt
  clear HG1
  go_region
  all_goals go_wp2
  all_goals
    rw [Exit.noGoto_ret]
    refine bodyPost_ret (results_tmp4 rfl _ _ _) rfl ?_
    obtain ⟨g1, g2⟩ := HG.out.setN (N + 1)
    have g3 : Step p sv sv w (w.drewN nq) := ⟨(Mod.refl _ _).drewN nq, fun k hk => .inl hk⟩
    have g4 := ((g3.trans HS0.out).trans HS.out).trans g2
    exact ⟨rfl, _, ⟨g1.blk, g1.row, g1.ne, g1.lo⟩, ⟨g4.mod.drew, g4.fp⟩⟩
end Go.Proofs.Ythiajgkifoimcaa
