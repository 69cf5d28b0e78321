/-
  RingHolds, walked.
-/
import Derived.Test.YthiajgkifoimcaaM
namespace Go.Proofs.Ythiajgkifoimcaa
open Go.RowKit
set_option linter.unusedVariables false
set_option linter.unusedSimpArgs false

/-- A ring, and beside it a slice of all that was put in. -/
structure HR (w0 : World) (p : Nat) (most : Int) (A : List Int) (v9 : Value) (F : Int) (sv : Value) (L : List Int) (wr : World) : Prop where
  own : wr.ownsRow w0.heap.size 3 1 v9 A.length (A.map (.int .i64))
  ring : Ring wr w0.heap.size p F most sv L
  apart : ∀ k, v9.ownBlock = some k → ¬ FP p sv k
  bel : Below w0.heap.size w0 wr
theorem HR.ringStep {w0 : World} {p : Nat} {most F F' : Int} {A L L' : List Int} {v9 sv sv' : Value} {w w' : World} (h : HR w0 p most A v9 F sv L w) (hr : Ring w' w0.heap.size p F' most sv' L') (hs : Step p sv sv' w w') : HR w0 p most A v9 F' sv' L' w' := by
  refine ⟨hs.mod.row h.own h.apart, hr, fun k hk hf => ?_, h.ring.step hs h.bel (Nat.le_refl _)⟩
  rcases hs.fp k hf with h' | h'
  · exact h.apart k hk h'
  · have := (h.own.lt k hk).2; omega
theorem HR.push {w0 : World} {p : Nat} {most F : Int} {A L : List Int} {v9 v' sv : Value} {w w1 : World} {x : Obj} {z : Int} (h : HR w0 p most A v9 F sv L w)
    (hown : w1.ownsRow w0.heap.size 3 1 v' (A.length + 1) (A.map (.int .i64) ++ [.int .i64 z])) (hg : (w.alloc x).grownBy w1 v9.ownBlock)
    (hf : ∀ k, v'.ownBlock = some k → v9.ownBlock = some k ∨ w.heap.size + 1 ≤ k) : HR w0 p most (A ++ [z]) v' F sv L w1 := by
  have hm : Mod (fun k => v9.ownBlock = some k) w w1 := Mod.grown ((Mod.refl _ w).alloc x) hg (fun k hk => .inl hk)
  refine ⟨by simpa using hown, h.ring.mod hm (fun k hk e => h.apart k e hk), fun k hk hfp => ?_, ?_⟩
  · rcases hf k hk with h' | h'
    · exact h.apart k h' hfp
    · have := (h.ring.fplt hfp).2; omega
  · exact h.bel.trans ⟨hm.os, hm.tape, hm.output, hm.size, fun k hk => hm.block k (Nat.lt_of_lt_of_le hk h.bel.size) (fun e => by have := (h.own.lt k e).1; omega)⟩
theorem HR.cell {w0 : World} {p : Nat} {most F : Int} {A L : List Int} {v9 sv : Value} {w : World} (h : HR w0 p most A v9 F sv L w) (hA : 0 < A.length) :
    ∃ q cap, v9 = .slice (some ⟨q, 0, none⟩) A.length cap ∧ ∀ j, j < A.length → w.cell? ⟨q, j, none⟩ = some (.int .i64 (A.getD j 0)) := by
  obtain ⟨q, cap, cur, hv, hbq, hgq, hnc, hcm, hcs, htk⟩ := row_some h.own hA
  refine ⟨q, cap, hv, fun j hj => cell_blk hgq j _ ?_⟩
  have := congrArg (fun l => l[j]?) htk
  simp only [Nat.mul_one] at this
  rw [List.getElem?_take_of_lt (by omega)] at this
  simpa [List.getD, hj] using this

theorem puts (A : List Int) (z : Int) (nx : Nat) (h : nx ≤ A.length) : (A ++ [z]).drop nx = A.drop nx ++ [z] ∧ ∀ y L', A.drop nx = y :: L' → L' ++ [z] = (A ++ [z]).drop (nx + 1) ∧ (A ++ [z]).getD nx 0 = y := by
  refine ⟨by rw [List.drop_append_of_le_length h], fun y L' hy => ?_⟩
  have hlt : nx < A.length := by
    have := congrArg List.length hy; simp at this; omega
  have h2 := List.drop_eq_getElem_cons hlt
  rw [hy] at h2
  injection h2 with e1 e2
  refine ⟨by rw [List.drop_append_of_le_length (by omega), e2], by simp [List.getD, List.getElem?_append_left hlt, e1, hlt]⟩

theorem getD_drop (A : List Int) (n k : Nat) (h : n ≤ k) : (A.drop n).getD (k - n) 0 = A.getD k 0 := by
  simp only [List.getD, List.getElem?_drop]
  rw [show n + (k - n) = k by omega]
theorem drops (A : List Int) (n : Nat) (y : Int) (L : List Int) (h : A.drop n = y :: L) : L = A.drop (n + 1) ∧ A.getD n 0 = y := by
  have hlt : n < A.length := by
    have := congrArg List.length h; simp at this; omega
  have h2 := List.drop_eq_getElem_cons hlt
  rw [h] at h2
  injection h2 with e1 e2
  exact ⟨e2, by simp [List.getD, hlt, e1]⟩

set_option maxHeartbeats 6400000 in
set_option maxRecDepth 100000 in
theorem ringHolds_in (most first : Int) (ao : Option Addr) (n cap : Nat) (zs : List Int) (w : World) (hn : n ≤ 80) (h1 : 1 ≤ most) (h2 : most ≤ 4096) (hf : 0 ≤ first) (hf2 : first ≤ 18446744073709551615) (hz : n ≤ zs.length)
    (hao : 0 < n → ∃ b off, ao = some ⟨b, off, none⟩ ∧ b < w.heap.size ∧ ∀ j, j < n → w.cell? ⟨b, off + j, none⟩ = some (.int .i64 (zs.getD j 0))) :
    Calls Try.prog 3 #[.int .i64 most, .int .u64 first, .slice ao n cap] w (Yes w) := by
  obtain ⟨i0, hi, hz0, hz1, hz2⟩ := info_parts Try.info3
  have HNum := Lib.hid (fun (w1 : World) a => num_any a w1)
  have HW := Lib.hid works_true
  have HAO := Lib.hid hao
  clear hao
  have hd : decide (80 < n) = false := by simp; omega
  have hd2 : decide (most < 1) = false := by simp; omega
  have hd3 : decide (4096 < most) = false := by simp; omega
  go_enter Try.func3, Try.ntmps3
  go_wp2_with fail
  refine (New_ring w.heap.size most first w (Nat.le_refl _) h1 h2 hf hf2).mono ?_
  rintro e w0 ⟨rfl, hr0, hb0⟩
  have R0 := Lib.hid hr0
  have B0 := Lib.hid hb0
  clear hr0 hb0 hd hd2 hd3
  go_wp2_with (go_at_call 9; refine (HNum.out _ _).mono ?_; rintro e w' ⟨rfl, rfl⟩)
  go_loopg [9, 10, 11] n (fun gk v9 v10 v11 wr => ∃ nx i : Nat, ∃ sv, v10 = .int .i64 nx ∧ v11 = .int .i64 i ∧ i ≤ n ∧ gk = n - i ∧ nx ≤ i ∧ HR w w.heap.size most (zs.take i) v9 (first + nx) sv ((zs.take i).drop nx) wr)
  case atStart =>
    exact ⟨0, 0, _, rfl, rfl, by omega, rfl, by omega, World.ownsRow_nil _ _ _ _, by simpa using R0.out, fun k hk => by simp [Value.ownBlock] at hk, B0.out⟩
  case round =>
    obtain ⟨nx, i, sv, rfl, rfl, hin, hgk, hnx, hrel⟩ := hrel
    obtain ⟨A, hA⟩ : ∃ A, A = zs.take i := ⟨_, rfl⟩
    rw [← hA] at hrel
    have hAl : A.length = i := by rw [hA]; simp; omega
    have HA := Lib.hid hA
    have HAl := Lib.hid hAl
    have H := Lib.hid hrel
    have HG := Lib.hid hgk
    clear hrel hgk hA hAl
    by_cases hlt : i < n
    · obtain ⟨b, off, rfl, hbw, hcz⟩ := HAO.out (by omega)
      have hcw := hcz i hlt
      have hlen : (A.drop nx).length = i - nx := by simp [HAl.out]
      have hfi : (first + nx) + ((i - nx : Nat) : Int) = first + i := by omega
      have hb := H.out.bel.size
      have hring := H.out.ring
      have hB := hring.b
      obtain ⟨z, hzz⟩ : ∃ z, z = zs.getD i 0 := ⟨_, rfl⟩
      rw [← hzz] at hcw
      have hcell := (H.out.bel.cell (p := ⟨b, off + i, none⟩) hbw).trans hcw
      have HCW := Lib.hid hcw
      have HZ := Lib.hid hzz
      have HZ2 := Lib.hid (puts A z nx (by rw [HAl.out]; exact hnx))
      clear hzz hcz hcw
      rw [hlen, hfi] at hB
      have HL := Lib.hid hlen
      have HF := Lib.hid hfi
      clear hlen hfi
      by_cases hfull : first + i = 18446744073709551615
      · have HP := Lib.hid (Put_ring_full w.heap.size w.heap.size _ most z sv _ wr hring (by rw [HL.out]; have := HF.out; omega))
        have HN := Lib.hid (Next_ring w.heap.size w.heap.size _ most sv _ wr hring)
        rw [HL.out, HF.out, hfull] at HN
        clear hfull hring HF HL HZ2
        go_wp2_with (first | (go_at_call 10; refine HP.out.mono ?_; rintro e w' ⟨rfl, rfl⟩) | (go_at_call 9; refine (HNum.out _ _).mono ?_; rintro e w' ⟨rfl, rfl⟩) | (go_at_call 11; refine HN.out.mono ?_; rintro e w' ⟨rfl, rfl⟩) | (go_at_call 7; refine (HW.out _).mono ?_; rintro e w' ⟨rfl, hb⟩))
        go_ret
        exact ⟨rfl, H.out.bel.trans (hb.mono H.out.bel.size)⟩
      · by_cases hroom : ((i : Int) - nx) < most
        · have hP := Put_ring_room w.heap.size w.heap.size _ most z sv _ wr hring hb (by rw [HL.out]; have := HF.out; omega) (by rw [HL.out]; omega)
          rw [HL.out, HF.out] at hP
          have HP := Lib.hid hP
          clear hP hring
          go_wp2_with fail
          refine HP.out.mono ?_
          rintro e w1 ⟨rfl, sv1, hr1, hs1⟩
          obtain ⟨nx1, hnx1⟩ : ∃ nx1 : Nat, nx1 = nx := ⟨nx, rfl⟩
          rw [← HZ2.out.1, ← hnx1] at hr1
          have hslot : (nx : Int) = nx1 := by omega
          have HY := Lib.hid (True.intro)
          have hyl : (0 : Int) ≤ nx := by omega
          have H1 := Lib.hid (H.out.ringStep hr1 hs1)
          have hnx1le : nx1 ≤ i := by omega
          have HNX := Lib.hid hnx1
          have HSL := Lib.hid hslot
          have hcell1 := (H1.out.bel.cell (p := ⟨b, off + i, none⟩) hbw).trans HCW.out
          have hb1 := H1.out.bel.size
          have HO0 := H1.out.own
          rw [HAl.out] at HO0
          obtain ⟨ao9, cap9, rfl⟩ := row_slice HO0
          have HO := Lib.hid HO0
          clear HO0
          clear hr1 hs1 HP hcell hnx1 hslot HZ2
          go_wp2_with (first | (go_at_call 9; refine (HNum.out _ _).mono ?_; rintro e w' ⟨rfl, rfl⟩) | (at_builtin; refine wpList_append_f _ rfl (.tmp 66) (.tmp 71) 23 rfl w.heap.size 3 i0 (.int .i64 0) 1 8 Try.underlying23 hi hz0 hz1 hz2 rfl (by decide) _ _ _ rfl (HO.out.alloc _) (some ⟨w1.heap.size, 0, none⟩) 1 1 [.int .i64 z] rfl rfl (fun h => by cases h) ?c1R ?c2R ?c3R ?c4R ?c5R ?_))
          case c1R => rintro ad h j u hj; cases h; exact cell_one_new _ _ _ j u hj
          case c2R => intro u hu; simp at hu; subst hu; rfl
          case c3R => unfold maxLen; omega
          case c4R => omega
          case c5R => simp; omega
          intro v' w2 hown hg hfr _
          have hpush := H1.out.push (z := z) (v' := v') (w1 := w2) (by rw [HAl.out]; exact hown) hg hfr
          obtain ⟨q, capq, hv, hcells⟩ := hpush.cell (by simp)
          subst hv
          have H2 := Lib.hid hpush
          have hlA : (A ++ [z]).length = i + 1 := by simp [HAl.out]
          rw [hlA] at H2 hcells ⊢
          have HC := Lib.hid hcells
          have HLA := Lib.hid hlA
          clear hown hg hfr hpush hlA hcells H1 HO
          by_cases h5 : (i : Int) % 5 = 4
          · have h5b : ((i : Int) % 5 == 4) = true := by simpa using h5
            clear h5
            go_wp2_with fail
            rw [HSL.out]
            obtain ⟨y2, L2, hyL2⟩ : ∃ y2 L2, (A ++ [z]).drop nx1 = y2 :: L2 := by
              cases hc : (A ++ [z]).drop nx1 with
              | nil => have h9 := congrArg List.length hc; simp [HAl.out] at h9; omega
              | cons y L' => exact ⟨y, L', rfl⟩
            have hr2 := H2.out.ring
            rw [hyL2] at hr2
            obtain ⟨hz2, hz3⟩ := drops (A ++ [z]) nx1 y2 L2 hyL2
            have HD := Lib.hid (Drop_ring_some _ _ _ _ _ _ _ w2 hr2 H2.out.bel.size)
            rw [hz2] at HD
            have HZ3 := Lib.hid hz3
            clear hyL2 hr2 hz2 hz3
            refine HD.out.mono ?_
            rintro e w4 ⟨rfl, sv2, hr3, hs3⟩
            obtain ⟨nx2, hnx2⟩ : ∃ nx2 : Nat, nx2 = nx1 + 1 := ⟨_, rfl⟩
            rw [← hnx2, show first + (nx1 : Int) + 1 = first + (nx2 : Int) by omega] at hr3
            have h4 := H2.out.ringStep hr3 hs3
            obtain ⟨q4, capq4, hv4, hcells4⟩ := h4.cell (by simp)
            have hq4 : q = q4 := by
              injection hv4 with e1 e2 e3
              injection e1 with e1
              injection e1 with e1
            subst hq4
            have kall4 : w4.cell? ⟨q, nx1, none⟩ = some (.int .i64 y2) := by rw [hcells4 nx1 (by rw [HLA.out]; omega), HZ3.out]
            have H4 := Lib.hid h4
            have hnx2le : nx2 ≤ i + 1 := by omega
            have hs2 : (nx1 : Int) + 1 = nx2 := by omega
            have hlt1 : (nx1 : Int) < i + 1 := by omega
            have HS2 := Lib.hid hs2
            clear hr3 hs3 h4 hv4 hcells4 hnx2 hs2
            go_wp2_with fail
            rw [HS2.out]
            have hring4 := H4.out.ring
            have hB4 := hring4.b
            have hl4 : ((A ++ [z]).drop nx2).length = i + 1 - nx2 := by simp [HAl.out]
            obtain ⟨D, hD⟩ : ∃ D : Int, D = (i : Int) + 1 - nx2 := ⟨_, rfl⟩
            obtain ⟨F2, hF2⟩ : ∃ F2 : Int, F2 = first + nx2 := ⟨_, rfl⟩
            obtain ⟨N2, hN2⟩ : ∃ N2 : Int, N2 = F2 + ((A ++ [z]).drop nx2).length := ⟨_, rfl⟩
            have HLn := Lib.hid (Len_ring _ _ _ _ _ _ w4 hring4)
            have HNx := Lib.hid (Next_ring _ _ _ _ _ _ w4 hring4)
            have HFi := Lib.hid (First_ring _ _ _ _ _ _ w4 hring4)
            rw [← hF2] at HFi HNx
            rw [← hN2] at HNx
            rw [show ((((A ++ [z]).drop nx2).length : Nat) : Int) = D by rw [hl4, hD]; omega] at HLn
            have b1 : 0 ≤ D := by omega
            have b2 : 0 ≤ F2 := by omega
            have b3 : N2 ≤ 18446744073709551615 := by omega
            have b4 : F2 ≤ N2 := by omega
            have b5 : D ≤ 4096 := by omega
            have t1 : (D != (i : Int) + 1 - nx2) = false := by simp [hD]
            have t2 : decide (most < D) = false := by simp; omega
            have t3 : (N2 - F2 != D) = false := by simp; omega
            clear hring4 hB4 hl4 hD hF2 hN2
            go_wp2_with (first | (go_at_call 13; refine HLn.out.mono ?_; rintro e w' ⟨rfl, rfl⟩) | (go_at_call 11; refine HNx.out.mono ?_; rintro e w' ⟨rfl, rfl⟩) | (go_at_call 14; refine HFi.out.mono ?_; rintro e w' ⟨rfl, rfl⟩))
            clear t1 t2 t3 b1 b2 b3 b4 b5
            go_loopg [18] (i + 1 - nx2) (fun g2 v18 wr2 => ∃ k : Nat, ∃ sv, v18 = .int .i64 k ∧ k ≤ i + 1 ∧ g2 = i + 1 - k ∧ nx2 ≤ k ∧ HR w w.heap.size most (A ++ [z]) (.slice (some ⟨q, 0, none⟩) (i + 1) capq) (first + nx2) sv ((A ++ [z]).drop nx2) wr2)
            case atStart => exact ⟨nx2, _, rfl, by omega, rfl, by omega, H4.out⟩
            case round =>
              obtain ⟨k, sv3, rfl, hk, hg2, hnk, hrel2⟩ := hrel
              have H5 := Lib.hid hrel2
              have HG2 := Lib.hid hg2
              clear hrel2 hg2
              by_cases hkl : k < i + 1
              · have hkb : first + (k : Int) ≤ 18446744073709551615 := by omega
                have hG := Get_ring_in _ _ _ _ _ _ wr H5.out.ring H5.out.bel.size (first + k) (k - nx2) (by simp [HAl.out]; omega) (by omega)
                rw [getD_drop _ _ _ hnk] at hG
                obtain ⟨zk, hzk⟩ : ∃ zk, zk = (A ++ [z]).getD k 0 := ⟨_, rfl⟩
                rw [← hzk] at hG
                have HGG := Lib.hid hG
                have HZK := Lib.hid hzk
                clear hG hzk
                go_wp2_with fail
                refine HGG.out.mono ?_
                rintro e w5 ⟨rfl, sv5, hr5, hs5⟩
                have h6 := H5.out.ringStep hr5 hs5
                obtain ⟨q6, capq6, hv6, hcells6⟩ := h6.cell (by simp)
                have hq6 : q = q6 := by
                  injection hv6 with e1 e2 e3
                  injection e1 with e1
                  injection e1 with e1
                subst hq6
                have kall6 : w5.cell? ⟨q, k, none⟩ = some (.int .i64 zk) := by rw [hcells6 k (by rw [HLA.out]; omega), HZK.out]
                have H6 := Lib.hid h6
                have hkl2 : (k : Int) < i + 1 := by omega
                clear hr5 hs5 h6 hv6 hcells6
                go_wp2
                go_roundg (i + 1 - (k + 1))
                case measure => have := HG2.out; omega
                case rel => exact ⟨k + 1, sv5, by go_num, by omega, rfl, by omega, H6.out⟩
              · have hkl2 : ¬ (k : Int) < i + 1 := by omega
                go_wp2
                go_roundg (n - (i + 1))
                case measure => have := HG.out; omega
                case rel =>
                  have htk : zs.take (i + 1) = A ++ [z] := by
                    rw [HZ.out, HA.out, List.take_succ_eq_append_getElem (by omega)]
                    simp [List.getD, show i < zs.length by omega]
                  exact ⟨nx2, i + 1, sv3, rfl, by go_num, by omega, rfl, by omega, by rw [htk]; exact H5.out⟩
          · have h5b : ((i : Int) % 5 == 4) = false := by simpa using h5
            clear h5
            go_wp2_with fail
            rw [HSL.out]
            obtain ⟨nx2, hnx2⟩ : ∃ nx2 : Nat, nx2 = nx1 := ⟨_, rfl⟩
            have hnx2le : nx2 ≤ i + 1 := by omega
            rw [← hnx2] at H2 ⊢
            have H4 := H2
            obtain ⟨w4, hw4⟩ : ∃ w4, w4 = w2 := ⟨_, rfl⟩
            rw [← hw4] at H4 ⊢
            clear hnx2 hw4
            have hring4 := H4.out.ring
            have hB4 := hring4.b
            have hl4 : ((A ++ [z]).drop nx2).length = i + 1 - nx2 := by simp [HAl.out]
            obtain ⟨D, hD⟩ : ∃ D : Int, D = (i : Int) + 1 - nx2 := ⟨_, rfl⟩
            obtain ⟨F2, hF2⟩ : ∃ F2 : Int, F2 = first + nx2 := ⟨_, rfl⟩
            obtain ⟨N2, hN2⟩ : ∃ N2 : Int, N2 = F2 + ((A ++ [z]).drop nx2).length := ⟨_, rfl⟩
            have HLn := Lib.hid (Len_ring _ _ _ _ _ _ w4 hring4)
            have HNx := Lib.hid (Next_ring _ _ _ _ _ _ w4 hring4)
            have HFi := Lib.hid (First_ring _ _ _ _ _ _ w4 hring4)
            rw [← hF2] at HFi HNx
            rw [← hN2] at HNx
            rw [show ((((A ++ [z]).drop nx2).length : Nat) : Int) = D by rw [hl4, hD]; omega] at HLn
            have b1 : 0 ≤ D := by omega
            have b2 : 0 ≤ F2 := by omega
            have b3 : N2 ≤ 18446744073709551615 := by omega
            have b4 : F2 ≤ N2 := by omega
            have b5 : D ≤ 4096 := by omega
            have t1 : (D != (i : Int) + 1 - nx2) = false := by simp [hD]
            have t2 : decide (most < D) = false := by simp; omega
            have t3 : (N2 - F2 != D) = false := by simp; omega
            clear hring4 hB4 hl4 hD hF2 hN2
            go_wp2_with (first | (go_at_call 13; refine HLn.out.mono ?_; rintro e w' ⟨rfl, rfl⟩) | (go_at_call 11; refine HNx.out.mono ?_; rintro e w' ⟨rfl, rfl⟩) | (go_at_call 14; refine HFi.out.mono ?_; rintro e w' ⟨rfl, rfl⟩))
            clear t1 t2 t3 b1 b2 b3 b4 b5
            go_loopg [18] (i + 1 - nx2) (fun g2 v18 wr2 => ∃ k : Nat, ∃ sv, v18 = .int .i64 k ∧ k ≤ i + 1 ∧ g2 = i + 1 - k ∧ nx2 ≤ k ∧ HR w w.heap.size most (A ++ [z]) (.slice (some ⟨q, 0, none⟩) (i + 1) capq) (first + nx2) sv ((A ++ [z]).drop nx2) wr2)
            case atStart => exact ⟨nx2, _, rfl, by omega, rfl, by omega, H4.out⟩
            case round =>
              obtain ⟨k, sv3, rfl, hk, hg2, hnk, hrel2⟩ := hrel
              have H5 := Lib.hid hrel2
              have HG2 := Lib.hid hg2
              clear hrel2 hg2
              by_cases hkl : k < i + 1
              · have hkb : first + (k : Int) ≤ 18446744073709551615 := by omega
                have hG := Get_ring_in _ _ _ _ _ _ wr H5.out.ring H5.out.bel.size (first + k) (k - nx2) (by simp [HAl.out]; omega) (by omega)
                rw [getD_drop _ _ _ hnk] at hG
                obtain ⟨zk, hzk⟩ : ∃ zk, zk = (A ++ [z]).getD k 0 := ⟨_, rfl⟩
                rw [← hzk] at hG
                have HGG := Lib.hid hG
                have HZK := Lib.hid hzk
                clear hG hzk
                go_wp2_with fail
                refine HGG.out.mono ?_
                rintro e w5 ⟨rfl, sv5, hr5, hs5⟩
                have h6 := H5.out.ringStep hr5 hs5
                obtain ⟨q6, capq6, hv6, hcells6⟩ := h6.cell (by simp)
                have hq6 : q = q6 := by
                  injection hv6 with e1 e2 e3
                  injection e1 with e1
                  injection e1 with e1
                subst hq6
                have kall6 : w5.cell? ⟨q, k, none⟩ = some (.int .i64 zk) := by rw [hcells6 k (by rw [HLA.out]; omega), HZK.out]
                have H6 := Lib.hid h6
                have hkl2 : (k : Int) < i + 1 := by omega
                clear hr5 hs5 h6 hv6 hcells6
                go_wp2
                go_roundg (i + 1 - (k + 1))
                case measure => have := HG2.out; omega
                case rel => exact ⟨k + 1, sv5, by go_num, by omega, rfl, by omega, H6.out⟩
              · have hkl2 : ¬ (k : Int) < i + 1 := by omega
                go_wp2
                go_roundg (n - (i + 1))
                case measure => have := HG.out; omega
                case rel =>
                  have htk : zs.take (i + 1) = A ++ [z] := by
                    rw [HZ.out, HA.out, List.take_succ_eq_append_getElem (by omega)]
                    simp [List.getD, show i < zs.length by omega]
                  exact ⟨nx2, i + 1, sv3, rfl, by go_num, by omega, rfl, by omega, by rw [htk]; exact H5.out⟩
        · obtain ⟨y, L', hyL⟩ : ∃ y L', A.drop nx = y :: L' := by
            cases hc : A.drop nx with
            | nil => rw [hc] at HL; have := HL.out; simp at this; omega
            | cons y L' => exact ⟨y, L', rfl⟩
          have HYL := Lib.hid hyL
          rw [hyL] at hring
          have hl' := HL.out
          rw [hyL] at hl'
          have hP := Put_ring_drop w.heap.size w.heap.size _ most z y sv L' wr hring hb (by rw [hl']; have := HF.out; omega) (by rw [hl']; omega)
          rw [hl', HF.out] at hP
          have HP := Lib.hid hP
          clear hP hring hl' hyL
          go_wp2_with fail
          refine HP.out.mono ?_
          rintro e w1 ⟨rfl, sv1, hr1, hs1⟩
          obtain ⟨nx1, hnx1⟩ : ∃ nx1 : Nat, nx1 = nx + 1 := ⟨nx + 1, rfl⟩
          obtain ⟨hy1, hy2⟩ := HZ2.out.2 y L' HYL.out
          rw [hy1, ← hnx1, show first + (nx : Int) + 1 = first + (nx1 : Int) by omega] at hr1
          have hslot : (nx : Int) + 1 = nx1 := by omega
          have HY := Lib.hid hy2
          have hyl : (nx : Int) < i + 1 := by have := HYL.out; have h9 := congrArg List.length this; simp at h9; have := HAl.out; omega
          clear hy1 hy2
          have H1 := Lib.hid (H.out.ringStep hr1 hs1)
          have hnx1le : nx1 ≤ i := by omega
          have HNX := Lib.hid hnx1
          have HSL := Lib.hid hslot
          have hcell1 := (H1.out.bel.cell (p := ⟨b, off + i, none⟩) hbw).trans HCW.out
          have hb1 := H1.out.bel.size
          have HO0 := H1.out.own
          rw [HAl.out] at HO0
          obtain ⟨ao9, cap9, rfl⟩ := row_slice HO0
          have HO := Lib.hid HO0
          clear HO0
          clear hr1 hs1 HP hcell hnx1 hslot HZ2
          go_wp2_with (first | (go_at_call 9; refine (HNum.out _ _).mono ?_; rintro e w' ⟨rfl, rfl⟩) | (at_builtin; refine wpList_append_f _ rfl (.tmp 66) (.tmp 71) 23 rfl w.heap.size 3 i0 (.int .i64 0) 1 8 Try.underlying23 hi hz0 hz1 hz2 rfl (by decide) _ _ _ rfl (HO.out.alloc _) (some ⟨w1.heap.size, 0, none⟩) 1 1 [.int .i64 z] rfl rfl (fun h => by cases h) ?c1D ?c2D ?c3D ?c4D ?c5D ?_))
          case c1D => rintro ad h j u hj; cases h; exact cell_one_new _ _ _ j u hj
          case c2D => intro u hu; simp at hu; subst hu; rfl
          case c3D => unfold maxLen; omega
          case c4D => omega
          case c5D => simp; omega
          intro v' w2 hown hg hfr _
          have hpush := H1.out.push (z := z) (v' := v') (w1 := w2) (by rw [HAl.out]; exact hown) hg hfr
          obtain ⟨q, capq, hv, hcells⟩ := hpush.cell (by simp)
          subst hv
          have H2 := Lib.hid hpush
          have hlA : (A ++ [z]).length = i + 1 := by simp [HAl.out]
          rw [hlA] at H2 hcells ⊢
          have HC := Lib.hid hcells
          have HLA := Lib.hid hlA
          clear hown hg hfr hpush hlA hcells H1 HO
          have kall : w2.cell? ⟨q, nx, none⟩ = some (.int .i64 y) := by rw [HC.out nx (by omega), HY.out]
          by_cases h5 : (i : Int) % 5 = 4
          · have h5b : ((i : Int) % 5 == 4) = true := by simpa using h5
            clear h5
            go_wp2_with fail
            rw [HSL.out]
            obtain ⟨y2, L2, hyL2⟩ : ∃ y2 L2, (A ++ [z]).drop nx1 = y2 :: L2 := by
              cases hc : (A ++ [z]).drop nx1 with
              | nil => have h9 := congrArg List.length hc; simp [HAl.out] at h9; omega
              | cons y L' => exact ⟨y, L', rfl⟩
            have hr2 := H2.out.ring
            rw [hyL2] at hr2
            obtain ⟨hz2, hz3⟩ := drops (A ++ [z]) nx1 y2 L2 hyL2
            have HD := Lib.hid (Drop_ring_some _ _ _ _ _ _ _ w2 hr2 H2.out.bel.size)
            rw [hz2] at HD
            have HZ3 := Lib.hid hz3
            clear hyL2 hr2 hz2 hz3
            refine HD.out.mono ?_
            rintro e w4 ⟨rfl, sv2, hr3, hs3⟩
            obtain ⟨nx2, hnx2⟩ : ∃ nx2 : Nat, nx2 = nx1 + 1 := ⟨_, rfl⟩
            rw [← hnx2, show first + (nx1 : Int) + 1 = first + (nx2 : Int) by omega] at hr3
            have h4 := H2.out.ringStep hr3 hs3
            obtain ⟨q4, capq4, hv4, hcells4⟩ := h4.cell (by simp)
            have hq4 : q = q4 := by
              injection hv4 with e1 e2 e3
              injection e1 with e1
              injection e1 with e1
            subst hq4
            have kall4 : w4.cell? ⟨q, nx1, none⟩ = some (.int .i64 y2) := by rw [hcells4 nx1 (by rw [HLA.out]; omega), HZ3.out]
            have H4 := Lib.hid h4
            have hnx2le : nx2 ≤ i + 1 := by omega
            have hs2 : (nx1 : Int) + 1 = nx2 := by omega
            have hlt1 : (nx1 : Int) < i + 1 := by omega
            have HS2 := Lib.hid hs2
            clear hr3 hs3 h4 hv4 hcells4 hnx2 hs2
            go_wp2_with fail
            rw [HS2.out]
            have hring4 := H4.out.ring
            have hB4 := hring4.b
            have hl4 : ((A ++ [z]).drop nx2).length = i + 1 - nx2 := by simp [HAl.out]
            obtain ⟨D, hD⟩ : ∃ D : Int, D = (i : Int) + 1 - nx2 := ⟨_, rfl⟩
            obtain ⟨F2, hF2⟩ : ∃ F2 : Int, F2 = first + nx2 := ⟨_, rfl⟩
            obtain ⟨N2, hN2⟩ : ∃ N2 : Int, N2 = F2 + ((A ++ [z]).drop nx2).length := ⟨_, rfl⟩
            have HLn := Lib.hid (Len_ring _ _ _ _ _ _ w4 hring4)
            have HNx := Lib.hid (Next_ring _ _ _ _ _ _ w4 hring4)
            have HFi := Lib.hid (First_ring _ _ _ _ _ _ w4 hring4)
            rw [← hF2] at HFi HNx
            rw [← hN2] at HNx
            rw [show ((((A ++ [z]).drop nx2).length : Nat) : Int) = D by rw [hl4, hD]; omega] at HLn
            have b1 : 0 ≤ D := by omega
            have b2 : 0 ≤ F2 := by omega
            have b3 : N2 ≤ 18446744073709551615 := by omega
            have b4 : F2 ≤ N2 := by omega
            have b5 : D ≤ 4096 := by omega
            have t1 : (D != (i : Int) + 1 - nx2) = false := by simp [hD]
            have t2 : decide (most < D) = false := by simp; omega
            have t3 : (N2 - F2 != D) = false := by simp; omega
            clear hring4 hB4 hl4 hD hF2 hN2
            go_wp2_with (first | (go_at_call 13; refine HLn.out.mono ?_; rintro e w' ⟨rfl, rfl⟩) | (go_at_call 11; refine HNx.out.mono ?_; rintro e w' ⟨rfl, rfl⟩) | (go_at_call 14; refine HFi.out.mono ?_; rintro e w' ⟨rfl, rfl⟩))
            clear t1 t2 t3 b1 b2 b3 b4 b5
            go_loopg [18] (i + 1 - nx2) (fun g2 v18 wr2 => ∃ k : Nat, ∃ sv, v18 = .int .i64 k ∧ k ≤ i + 1 ∧ g2 = i + 1 - k ∧ nx2 ≤ k ∧ HR w w.heap.size most (A ++ [z]) (.slice (some ⟨q, 0, none⟩) (i + 1) capq) (first + nx2) sv ((A ++ [z]).drop nx2) wr2)
            case atStart => exact ⟨nx2, _, rfl, by omega, rfl, by omega, H4.out⟩
            case round =>
              obtain ⟨k, sv3, rfl, hk, hg2, hnk, hrel2⟩ := hrel
              have H5 := Lib.hid hrel2
              have HG2 := Lib.hid hg2
              clear hrel2 hg2
              by_cases hkl : k < i + 1
              · have hkb : first + (k : Int) ≤ 18446744073709551615 := by omega
                have hG := Get_ring_in _ _ _ _ _ _ wr H5.out.ring H5.out.bel.size (first + k) (k - nx2) (by simp [HAl.out]; omega) (by omega)
                rw [getD_drop _ _ _ hnk] at hG
                obtain ⟨zk, hzk⟩ : ∃ zk, zk = (A ++ [z]).getD k 0 := ⟨_, rfl⟩
                rw [← hzk] at hG
                have HGG := Lib.hid hG
                have HZK := Lib.hid hzk
                clear hG hzk
                go_wp2_with fail
                refine HGG.out.mono ?_
                rintro e w5 ⟨rfl, sv5, hr5, hs5⟩
                have h6 := H5.out.ringStep hr5 hs5
                obtain ⟨q6, capq6, hv6, hcells6⟩ := h6.cell (by simp)
                have hq6 : q = q6 := by
                  injection hv6 with e1 e2 e3
                  injection e1 with e1
                  injection e1 with e1
                subst hq6
                have kall6 : w5.cell? ⟨q, k, none⟩ = some (.int .i64 zk) := by rw [hcells6 k (by rw [HLA.out]; omega), HZK.out]
                have H6 := Lib.hid h6
                have hkl2 : (k : Int) < i + 1 := by omega
                clear hr5 hs5 h6 hv6 hcells6
                go_wp2
                go_roundg (i + 1 - (k + 1))
                case measure => have := HG2.out; omega
                case rel => exact ⟨k + 1, sv5, by go_num, by omega, rfl, by omega, H6.out⟩
              · have hkl2 : ¬ (k : Int) < i + 1 := by omega
                go_wp2
                go_roundg (n - (i + 1))
                case measure => have := HG.out; omega
                case rel =>
                  have htk : zs.take (i + 1) = A ++ [z] := by
                    rw [HZ.out, HA.out, List.take_succ_eq_append_getElem (by omega)]
                    simp [List.getD, show i < zs.length by omega]
                  exact ⟨nx2, i + 1, sv3, rfl, by go_num, by omega, rfl, by omega, by rw [htk]; exact H5.out⟩
          · have h5b : ((i : Int) % 5 == 4) = false := by simpa using h5
            clear h5
            go_wp2_with fail
            rw [HSL.out]
            obtain ⟨nx2, hnx2⟩ : ∃ nx2 : Nat, nx2 = nx1 := ⟨_, rfl⟩
            have hnx2le : nx2 ≤ i + 1 := by omega
            rw [← hnx2] at H2 ⊢
            have H4 := H2
            obtain ⟨w4, hw4⟩ : ∃ w4, w4 = w2 := ⟨_, rfl⟩
            rw [← hw4] at H4 ⊢
            clear hnx2 hw4
            have hring4 := H4.out.ring
            have hB4 := hring4.b
            have hl4 : ((A ++ [z]).drop nx2).length = i + 1 - nx2 := by simp [HAl.out]
            obtain ⟨D, hD⟩ : ∃ D : Int, D = (i : Int) + 1 - nx2 := ⟨_, rfl⟩
            obtain ⟨F2, hF2⟩ : ∃ F2 : Int, F2 = first + nx2 := ⟨_, rfl⟩
            obtain ⟨N2, hN2⟩ : ∃ N2 : Int, N2 = F2 + ((A ++ [z]).drop nx2).length := ⟨_, rfl⟩
            have HLn := Lib.hid (Len_ring _ _ _ _ _ _ w4 hring4)
            have HNx := Lib.hid (Next_ring _ _ _ _ _ _ w4 hring4)
            have HFi := Lib.hid (First_ring _ _ _ _ _ _ w4 hring4)
            rw [← hF2] at HFi HNx
            rw [← hN2] at HNx
            rw [show ((((A ++ [z]).drop nx2).length : Nat) : Int) = D by rw [hl4, hD]; omega] at HLn
            have b1 : 0 ≤ D := by omega
            have b2 : 0 ≤ F2 := by omega
            have b3 : N2 ≤ 18446744073709551615 := by omega
            have b4 : F2 ≤ N2 := by omega
            have b5 : D ≤ 4096 := by omega
            have t1 : (D != (i : Int) + 1 - nx2) = false := by simp [hD]
            have t2 : decide (most < D) = false := by simp; omega
            have t3 : (N2 - F2 != D) = false := by simp; omega
            clear hring4 hB4 hl4 hD hF2 hN2
            go_wp2_with (first | (go_at_call 13; refine HLn.out.mono ?_; rintro e w' ⟨rfl, rfl⟩) | (go_at_call 11; refine HNx.out.mono ?_; rintro e w' ⟨rfl, rfl⟩) | (go_at_call 14; refine HFi.out.mono ?_; rintro e w' ⟨rfl, rfl⟩))
            clear t1 t2 t3 b1 b2 b3 b4 b5
            go_loopg [18] (i + 1 - nx2) (fun g2 v18 wr2 => ∃ k : Nat, ∃ sv, v18 = .int .i64 k ∧ k ≤ i + 1 ∧ g2 = i + 1 - k ∧ nx2 ≤ k ∧ HR w w.heap.size most (A ++ [z]) (.slice (some ⟨q, 0, none⟩) (i + 1) capq) (first + nx2) sv ((A ++ [z]).drop nx2) wr2)
            case atStart => exact ⟨nx2, _, rfl, by omega, rfl, by omega, H4.out⟩
            case round =>
              obtain ⟨k, sv3, rfl, hk, hg2, hnk, hrel2⟩ := hrel
              have H5 := Lib.hid hrel2
              have HG2 := Lib.hid hg2
              clear hrel2 hg2
              by_cases hkl : k < i + 1
              · have hkb : first + (k : Int) ≤ 18446744073709551615 := by omega
                have hG := Get_ring_in _ _ _ _ _ _ wr H5.out.ring H5.out.bel.size (first + k) (k - nx2) (by simp [HAl.out]; omega) (by omega)
                rw [getD_drop _ _ _ hnk] at hG
                obtain ⟨zk, hzk⟩ : ∃ zk, zk = (A ++ [z]).getD k 0 := ⟨_, rfl⟩
                rw [← hzk] at hG
                have HGG := Lib.hid hG
                have HZK := Lib.hid hzk
                clear hG hzk
                go_wp2_with fail
                refine HGG.out.mono ?_
                rintro e w5 ⟨rfl, sv5, hr5, hs5⟩
                have h6 := H5.out.ringStep hr5 hs5
                obtain ⟨q6, capq6, hv6, hcells6⟩ := h6.cell (by simp)
                have hq6 : q = q6 := by
                  injection hv6 with e1 e2 e3
                  injection e1 with e1
                  injection e1 with e1
                subst hq6
                have kall6 : w5.cell? ⟨q, k, none⟩ = some (.int .i64 zk) := by rw [hcells6 k (by rw [HLA.out]; omega), HZK.out]
                have H6 := Lib.hid h6
                have hkl2 : (k : Int) < i + 1 := by omega
                clear hr5 hs5 h6 hv6 hcells6
                go_wp2
                go_roundg (i + 1 - (k + 1))
                case measure => have := HG2.out; omega
                case rel => exact ⟨k + 1, sv5, by go_num, by omega, rfl, by omega, H6.out⟩
              · have hkl2 : ¬ (k : Int) < i + 1 := by omega
                go_wp2
                go_roundg (n - (i + 1))
                case measure => have := HG.out; omega
                case rel =>
                  have htk : zs.take (i + 1) = A ++ [z] := by
                    rw [HZ.out, HA.out, List.take_succ_eq_append_getElem (by omega)]
                    simp [List.getD, show i < zs.length by omega]
                  exact ⟨nx2, i + 1, sv3, rfl, by go_num, by omega, rfl, by omega, by rw [htk]; exact H5.out⟩
    · go_wp2_with (go_at_call 7; refine (HW.out _).mono ?_; rintro e w' ⟨rfl, hb⟩)
      go_ret
      exact ⟨rfl, H.out.bel.trans (hb.mono H.out.bel.size)⟩
end Go.Proofs.Ythiajgkifoimcaa
