/-
  UtfWrites, walked.
-/
import Derived.Test.YtplpgjcdoodmlaaSv
import Derived.Deep.RegionHeld3
import Derived.Deep.CutBlock
namespace Go.Proofs.Ytplpgjcdoodmlaa
open Go.RowKit
set_option linter.unusedVariables false
set_option linter.unusedSimpArgs false

/-- A piece that came in. -/
structure BV where
  a : Option Addr
  c : Nat
  xs : List Int
def BV.nul : BV := ⟨none, 0, []⟩
structure BV.Ok (w : World) (z : BV) : Prop where
  arg : Arg (fun k => k < w.heap.size) w z.a z.xs.length z.xs
  nn : z.a = none → z.xs.length = 0 ∧ z.c = 0
  by_ : Byt z.xs
/-- Pieces that came in. -/
def Pcs (w : World) (ao : Option Addr) (n : Nat) (ls : List BV) : Prop :=
  n ≤ maxLen ∧ n ≤ ls.length ∧ (0 < n → ∃ b off, ao = some ⟨b, off, none⟩ ∧ b < w.heap.size ∧ ∀ j, j < n → ∃ z, z = ls.getD j BV.nul ∧ w.cell? ⟨b, off + j, none⟩ = some (.slice z.a z.xs.length z.c) ∧ z.Ok w)

set_option maxHeartbeats 12800000 in
set_option maxRecDepth 100000 in
theorem writes_any (lo : Option Addr) (n cap : Nat) (ls : List BV) (zero : Bool) (w : World) (h : Pcs w lo n ls) :
    Calls Try.prog 7 #[.slice lo n cap, .bool zero] w fun e w' => e = .returned (.bool true) ∧ Below w.heap.size w w' := by
  obtain ⟨i0, hi0, hz0, hz1, hz2⟩ := info_parts Try.info5
  have HWk := Lib.hid works_true
  have HNum := Lib.hid num_any
  have hnm := h.1
  unfold maxLen at hnm
  by_cases hbig : 30 < n
  · have d1 : decide (30 < n) = true := by simpa using hbig
    have d2 : decide ((30 : Int) < n) = true := by simp; omega
    clear h hbig
    go_enter Try.func7, Try.ntmps7
    go_wp2_with (go_at_call 8; fail)
    refine (HWk.out _).mono ?_
    rintro e w1 ⟨rfl, hb⟩
    have HB := Lib.hid hb
    clear hb
    go_wp2
    go_ret
    exact ⟨rfl, HB.out⟩
  have hn30 : n ≤ 30 := by omega
  have d1 : decide (30 < n) = false := by simp; omega
  have d2 : decide ((30 : Int) < n) = false := by simp; omega
  have HL := Lib.hid h.2.2
  have HNew := Lib.hid (New_ds w w (Below.refl _ _))
  clear h hbig hnm
  go_enter Try.func7, Try.ntmps7
  go_wp2_with (go_at_call 18; fail)
  refine HNew.out.mono ?_
  rintro e w1 ⟨D0, rfl, hq, hb1, _⟩
  obtain ⟨P, hP⟩ : ∃ P, P = w1.heap.size := ⟨_, rfl⟩
  obtain ⟨w2, hw2⟩ : ∃ W, W = w1.alloc (.cells #[.slice none 0 0] 50) := ⟨_, rfl⟩
  have hb2 : Below w1.heap.size w1 w2 := by rw [hw2]; exact (Below.refl _ w1).alloc (Nat.le_refl _) _
  have k2 : w2.heap[P]? = some (.cells #[.slice none 0 0] 50 (0, 0)) := by rw [hw2, hP]; exact alloc_blk_new _ _
  have HW0 : Hid (Wt w P (More (fun k => w.heap.size ≤ k ∧ k < w.heap.size) w1 w2) D0 [] none 0 w2) := Lib.hid ⟨hq.grow hb2, .inr ⟨by omega, blk_lt k2⟩, fun k hk => by
      have hs := hb1.size
      rcases hk with hk | hk
      · omega
      · omega, k2, ⟨rfl, fun h => by simp at h⟩, fun _ => ⟨rfl, rfl⟩⟩
  have EP := Lib.hid hP
  have E2 := Lib.hid hw2
  clear hq hb1 hP hw2 hb2 k2 HNew
  go_wp2_with fail
  rw [← EP.out, ← E2.out]
  go_loopg [5, 7] n (fun gk v5 v7 wr => ∃ (i D : Nat) (K : Nat → Prop) (zs : List Int) (a : Option Addr) (c' : Nat), v5 = .pointer (some ⟨D, 0, none⟩) ∧ v7 = .int .i64 (i : Nat) ∧ i ≤ n ∧ gk = n - i ∧ Wt w P K D zs a c' wr)
  case atStart => exact ⟨0, D0, _, [], none, 0, rfl, rfl, by omega, rfl, HW0.out⟩
  case round =>
    obtain ⟨i, D, K, zs, a, c', rfl, rfl, hin, hgk, hwt⟩ := hrel
    have HG := Lib.hid hgk
    have HT := Lib.hid hwt
    clear hgk hwt HW0
    by_cases hlt : i < n
    · have l1 : decide (i < n) = true := by simpa using hlt
      have l2 : decide ((i : Int) < n) = true := by simpa using hlt
      obtain ⟨lb, loff, rfl, hlb, hlc⟩ := HL.out (by omega)
      obtain ⟨z, hz, zc, zok⟩ := hlc i hlt
      have HLc : Hid (∀ W, Below w.heap.size w W → W.cell? ⟨lb, loff + i, none⟩ = some (.slice z.a z.xs.length z.c) ∧ lb < W.heap.size) := Lib.hid fun W hW => ⟨(hW.cell (p := ⟨lb, loff + i, none⟩) hlb).trans zc, Nat.lt_of_lt_of_le hlb hW.size⟩
      have HOk := Lib.hid zok
      obtain ⟨m, hm⟩ : ∃ m, m = z.xs.length := ⟨_, rfl⟩
      rw [← hm] at HLc
      have HM := Lib.hid hm
      clear hlc hz zc zok hm hlb
      obtain ⟨y1, y2⟩ := HLc.out wr HT.out.ds.below
      by_cases hm60 : 60 < m
      · have e1 : decide (60 < m) = true := by simpa using hm60
        have e2 : decide ((60 : Int) < m) = true := by simp; omega
        have hbw := Lib.hid HT.out.ds.below
        clear hm60
        go_wp2_with (go_at_call 8; fail)
        refine (HWk.out _).mono ?_
        rintro e w3 ⟨rfl, hb3⟩
        have HB3 := Lib.hid (hbw.out.trans (hb3.mono hbw.out.size))
        clear hb3
        go_wp2
        go_ret
        exact ⟨rfl, HB3.out⟩
      have e1 : decide (60 < m) = false := by simp; omega
      have e2 : decide ((60 : Int) < m) = false := by simp; omega
      obtain ⟨b7, hb7⟩ : ∃ b7, ((i : Int) % 7 == 6) = b7 := ⟨_, rfl⟩
      have hm60' : m ≤ 60 := by omega
      clear hm60
      go_upto_if 45 with fail
      clear hb7 y1 y2
      go_cut [8, 9, 10, 11] from 46 to 64 (fun v8 v9 v10 v11 wx => ∃ (K' : Nat → Prop) (zs' : List Int) (a' : Option Addr) (c2 : Nat), Wt w P K' D zs' a' c2 wx)
      case first =>
        cases b7 with
        | false =>
          go_wp2
          go_meet
          exact ⟨K, zs, a, c', HT.out⟩
        | true =>
          have hl3 := HT.out.ds.l3
          obtain ⟨L, hL⟩ : ∃ L, L = zs.length := ⟨_, rfl⟩
          have c0 := cell_blk HT.out.box 0 _ rfl
          have lP := blk_lt HT.out.box
          rw [← hL] at c0 hl3
          have HLL := Lib.hid hL
          have HRE := Lib.hid (refEnd_any a L c' wr (by omega))
          obtain ⟨X, hX⟩ : ∃ X, X = strOfNums (if L = 0 then [] else bytesL 65533) := ⟨_, rfl⟩
          have HXz : Hid (strOfNums (if zs = [] then [] else bytesL 65533) = X) := Lib.hid (by
            rw [hX, hL]
            by_cases h0 : zs = []
            · subst h0; rfl
            · rw [if_neg h0, if_neg (fun e => h0 (List.eq_nil_of_length_eq_zero e))])
          rw [← hX] at HRE
          clear hL hX
          go_wp2_with (go_at_call 23; fail)
          refine HRE.out.mono ?_
          rintro e w3 ⟨rfl, hb3⟩
          have h3 := HT.out.grow hb3
          obtain ⟨Q, hQ⟩ : ∃ Q, Q = w3.heap.size := ⟨_, rfl⟩
          obtain ⟨w4, hw4⟩ : ∃ W, W = w3.alloc (.cells #[.slice none 0 0] 50) := ⟨_, rfl⟩
          have hb4 : Below w3.heap.size w3 w4 := by rw [hw4]; exact (Below.refl _ w3).alloc (Nat.le_refl _) _
          have k4 : w4.heap[Q]? = some (.cells #[.slice none 0 0] 50 (0, 0)) := by rw [hw4, hQ]; exact alloc_blk_new _ _
          have h4 := h3.grow hb4
          have hQK : More (More K wr w3) w3 w4 Q := .inr ⟨by omega, blk_lt k4⟩
          have HEn := Lib.hid h4.ds.end_
          rw [HXz.out] at HEn
          have H4 := Lib.hid h4
          have K4 := Lib.hid k4
          have EQ := Lib.hid hQ
          have E4 := Lib.hid hw4
          have HQK := Lib.hid hQK
          clear hb3 h3 hQ hw4 hb4 k4 h4 hQK HRE c0 lP
          go_wp2_with (go_at_call 22; fail)
          rw [← EQ.out, ← E4.out]
          refine HEn.out.mono ?_
          rintro e w5 ⟨rfl, hds5, hm5⟩
          obtain ⟨hbx, _⟩ := H4.out.own hds5 hm5
          have hnD := H4.out.ds.nk
          have k5 := (hm5.block Q (blk_lt K4.out) (fun e => hnD (e ▸ HQK.out))).trans K4.out
          have q1 := cell_blk k5 0 (.slice none 0 0) rfl
          have q2 := blk_lt k5
          have q3 := cell_blk hbx 0 _ rfl
          have q4 := frozen_blk hbx 0
          have q5 := blk_lt hbx
          have H6 := Lib.hid (hds5.put (a2 := none) (c2 := 0) H4.out.kp H4.out.klo hbx ⟨rfl, fun h => by simp at h⟩ (fun _ => ⟨rfl, rfl⟩))
          clear hds5 hm5 hbx k5 HEn
          go_wp2_with (go_at_call 20; refine (HNum.out _ _).mono ?_; rintro e w' ⟨rfl, rfl⟩)
          go_meet
          exact ⟨_, _, _, _, H6.out⟩
      case rest =>
        obtain ⟨K', zs', a', c2, hwt⟩ := hcut
        have HT2 := Lib.hid hwt
        clear hwt HT
        obtain ⟨b5, hb5⟩ : ∃ b5, ((i : Int) % 5 == 4) = b5 := ⟨_, rfl⟩
        go_upto_if 67 with fail
        clear hb5
        go_cut [5, 12] from 68 to 73 (fun v5 v12 wx => ∃ (D' : Nat) (K2 : Nat → Prop), v5 = .pointer (some ⟨D', 0, none⟩) ∧ Wt w P K2 D' zs' a' c2 wx)
        case first =>
          cases b5 with
          | false =>
            go_wp2
            go_meet
            exact ⟨D, K', rfl, HT2.out⟩
          | true =>
            have HCp := Lib.hid HT2.out.ds.copy
            go_wp2_with (go_at_call 24; fail)
            refine HCp.out.mono ?_
            rintro e w3 ⟨D2, rfl, hds3, hb3⟩
            have hbx := HT2.out.box
            have hT2 := HT2.out
            have hPl := blk_lt hbx
            have hPlo := hT2.klo P hT2.kp
            have hDlt := hT2.ds.lt
            have hDlo := hT2.ds.lo
            have h3 : Wt w P (fun k => w.heap.size ≤ k ∧ k < wc.heap.size) D2 zs' a' c2 w3 := ⟨hds3, ⟨hPlo, hPl⟩, fun k hk => hk.1, (hb3.block _ hPl).trans hbx,
              (hT2.arg.mono (U := fun k => (w.heap.size ≤ k ∧ k < wc.heap.size) ∧ k ≠ P) (fun k h1 h2 => ⟨⟨hT2.klo k h2.1, h1⟩, h2.2⟩)).below hb3, hT2.nn⟩
            have hold := hT2.ds.grow hb3
            have HWl := Lib.hid (hold.write_lay [130] 1 (0, 0) rfl (byt_dec rfl) (by decide) _ rfl _ rfl _ rfl)
            have H3 := Lib.hid h3
            have HND : Hid (P ≠ D ∧ (∀ k, K' k → k ≠ D)) := Lib.hid ⟨fun e => hT2.ds.nk (e ▸ hT2.kp), fun k hk e => hT2.ds.nk (e ▸ hk)⟩
            have HDl : Hid (w.heap.size ≤ D ∧ D < wc.heap.size) := Lib.hid ⟨hDlo, hDlt⟩
            have HAr : Hid (Arg (fun k => ((w.heap.size ≤ k ∧ k < wc.heap.size) ∧ k ≠ P) ∧ k ≠ D) w3 a' zs'.length zs') := Lib.hid ((hT2.arg.mono (U := fun k => ((w.heap.size ≤ k ∧ k < wc.heap.size) ∧ k ≠ P) ∧ k ≠ D) (fun k h1 h2 => ⟨⟨⟨hT2.klo k h2.1, h1⟩, h2.2⟩, HND.out.2 k h2.1⟩)).below hb3)
            clear hds3 hb3 hbx hT2 hPl hPlo hDlt hDlo h3 hold HCp
            go_wp2_with (go_at_call 19; fail)
            refine HWl.out.mono ?_
            rintro e w4 ⟨rfl, _, hm4⟩
            have h4 : Wt w P (More (fun k => w.heap.size ≤ k ∧ k < wc.heap.size) w3 w4) D2 zs' a' c2 w4 := ⟨H3.out.ds.turn (hm4.mono fun k _ e => e ▸ HDl.out) (fun k hk => hk.1), .inl H3.out.kp, fun k hk => by
                rcases hk with hk | hk
                · exact hk.1
                · have := H3.out.ds.below.size; omega, (hm4.block _ (blk_lt H3.out.box) HND.out.1).trans H3.out.box,
              ((HAr.out.mod hm4 (fun k hk => hk.2)).mono fun k _ hk => ⟨.inl hk.1.1, hk.1.2⟩), H3.out.nn⟩
            have H4 := Lib.hid h4
            clear h4 hm4 HWl
            go_wp2
            go_meet
            exact ⟨D2, _, rfl, H4.out⟩
        case rest =>
          obtain ⟨D', K2, rfl, hwt⟩ := hcut
          obtain ⟨wa, hwa⟩ : ∃ W, W = wc := ⟨_, rfl⟩
          subst hwa
          have HT3 := Lib.hid hwt
          clear hwt HT2
          have hl3 := HT3.out.ds.l3
          obtain ⟨X, hX⟩ : ∃ X, X = strOfNums (enc (pts (zs' ++ z.xs))) := ⟨_, rfl⟩
          obtain ⟨WT, hWT⟩ : ∃ WT, WT = wts (zs' ++ z.xs) := ⟨_, rfl⟩
          obtain ⟨WL, hWL⟩ : ∃ WL, WL = WT.length := ⟨_, rfl⟩
          obtain ⟨L, hL⟩ : ∃ L, L = zs'.length := ⟨_, rfl⟩
          have HRW : Hid (∀ W, Below wa.heap.size wa W → Calls Try.prog 25 #[.agg #[.slice a' L c2], .slice z.a m z.c] W fun e w' => ∃ (a2 : Option Addr) (c3 : Nat), e = .returned (.tuple #[.agg #[.slice a2 WL c3], .string X]) ∧ Arg (fun k => W.heap.size ≤ k) w' a2 WL WT ∧ (a2 = none → WL = 0 ∧ c3 = 0) ∧ Below W.heap.size W w') := Lib.hid fun W hW => by
            have hA := HT3.out.arg.below hW
            have hB := HOk.out.arg.below (HT3.out.ds.below.trans (hW.mono HT3.out.ds.below.size))
            have hm := HM.out
            rw [← hL] at hA
            rw [← hm] at hB
            refine (refWrite_any a' L c2 zs' z.a m z.c z.xs W hA (by rw [hL]; exact HT3.out.nn) hB (by rw [hm]; exact HOk.out.nn) HT3.out.ds.by_ HOk.out.by_ (by omega)).mono ?_
            rintro e w' ⟨a, n', c', rfl, h1, h2, h3⟩
            have hn' : n' = WL := by rw [hWL, hWT]; exact h1.1.symm
            rw [hn'] at h1 h2 ⊢
            exact ⟨a, c', by rw [hX], by rw [hWT]; exact h1, h2, h3⟩
          have HCP : Hid (∀ W, Below wa.heap.size wa W → W.cell? ⟨P, 0, none⟩ = some (.slice a' L c2)) := Lib.hid fun W hW => by
            have := cell_blk ((hW.block _ (blk_lt HT3.out.box)).trans HT3.out.box) 0 _ rfl
            rw [← hL] at this
            exact this
          have HCL : Hid (∀ W, Below wa.heap.size wa W → W.cell? ⟨lb, loff + i, none⟩ = some (.slice z.a m z.c)) := Lib.hid fun W hW => (HLc.out W (HT3.out.ds.below.trans (hW.mono HT3.out.ds.below.size))).1
          have HXe := Lib.hid hX
          have HWT := Lib.hid hWT
          have HWL := Lib.hid hWL
          have HLe := Lib.hid hL
          clear hX hWT hWL hL
          go_upto_region 19 with fail
          go_cut [13, 14] from 74 to 82 (fun v13 v14 wx => ∃ (P3 : Nat) (a2 : Option Addr) (c3 : Nat), v13 = .pointer (some ⟨P3, 0, none⟩) ∧ v14 = .string X ∧ wx.heap[P3]? = some (.cells #[.slice a2 WL c3] 50 (0, 0)) ∧ Arg (fun k => wa.heap.size ≤ k ∧ k ≠ P3) wx a2 WL WT ∧ (a2 = none → WL = 0 ∧ c3 = 0) ∧ wa.heap.size ≤ P3 ∧ Below wa.heap.size wa wx)
          case first =>
            refine wp_region_held_drew (S := fun W => Below wa.heap.size wa W) (by kernel_rfl) (Below.drewN' wa 1) (fun hHeld => ?_)
            generalize wa.drew = wd at hHeld ⊢
            refine' wpAnyH_take (i := 0) (oi := { dst := some 75, op := Op.load 50 (Operand.tmp 6), type := 50, pos := "law.go:106", after := #[], guard := none }) (v := ?v1) rfl (by kernel_rfl) (by kernel_rfl) (by kernel_rfl) (fun _ _ _ h => h) (.inl ⟨by first | rfl | simp [Region.wanted, yielded], ?hy1⟩) (by assumption) ?rest1
            case hy1 => (intro W hW; have f1 := HCP.out _ hW; have f2 := HCL.out _ hW; go_simp; try with_reducible rfl)
            simp only [Act.put, List.setIfInBounds_toArray, List.set_cons_zero, List.set_cons_succ]
            refine' wpAnyH_take (i := 1) (oi := { dst := some 76, op := Op.move (Operand.tmp 0), type := 48, pos := "law.go:106", after := #[], guard := none }) (v := ?v2) rfl (by kernel_rfl) (by kernel_rfl) (by kernel_rfl) (fun _ _ _ h => h) (.inl ⟨by first | rfl | simp [Region.wanted, yielded], ?hy2⟩) (by assumption) ?rest2
            case hy2 => (intro W hW; have f1 := HCP.out _ hW; have f2 := HCL.out _ hW; go_simp; try with_reducible rfl)
            simp only [Act.put, List.setIfInBounds_toArray, List.set_cons_zero, List.set_cons_succ]
            refine' wpAnyH_take (i := 2) (oi := { dst := some 77, op := Op.move (Operand.tmp 7), type := 3, pos := "law.go:106", after := #[], guard := none }) (v := ?v3) rfl (by kernel_rfl) (by kernel_rfl) (by kernel_rfl) (fun _ _ _ h => h) (.inl ⟨by first | rfl | simp [Region.wanted, yielded], ?hy3⟩) (by assumption) ?rest3
            case hy3 => (intro W hW; have f1 := HCP.out _ hW; have f2 := HCL.out _ hW; go_simp; try with_reducible rfl)
            simp only [Act.put, List.setIfInBounds_toArray, List.set_cons_zero, List.set_cons_succ]
            refine' wpAnyH_take (i := 3) (oi := { dst := some 78, op := Op.indexAddr 48 (Operand.tmp 76) (Operand.tmp 77), type := 0, pos := "law.go:106", after := #[{ on := 1, ground := Ground.data }, { on := 2, ground := Ground.data }], guard := none }) (v := ?v4) rfl (by kernel_rfl) (by kernel_rfl) (by kernel_rfl) (fun _ _ _ h => h) (.inl ⟨by first | rfl | simp [Region.wanted, yielded], ?hy4⟩) (by assumption) ?rest4
            case hy4 => (intro W hW; have f1 := HCP.out _ hW; have f2 := HCL.out _ hW; go_simp; try with_reducible rfl)
            simp only [Act.put, List.setIfInBounds_toArray, List.set_cons_zero, List.set_cons_succ]
            refine' wpAnyH_take (i := 4) (oi := { dst := some 79, op := Op.load 25 (Operand.tmp 78), type := 25, pos := "law.go:106", after := #[{ on := 3, ground := Ground.data }], guard := none }) (v := ?v5) rfl (by kernel_rfl) (by kernel_rfl) (by kernel_rfl) (fun _ _ _ h => h) (.inl ⟨by first | rfl | simp [Region.wanted, yielded], ?hy5⟩) (by assumption) ?rest5
            case hy5 => (intro W hW; have f1 := HCP.out _ hW; have f2 := HCL.out _ hW; go_simp; try with_reducible rfl)
            simp only [Act.put, List.setIfInBounds_toArray, List.set_cons_zero, List.set_cons_succ]
            refine wpAnyH_ready (rs := [5, 9]) (by kernel_rfl) (by simp) ?_
            refine AllReadyH.cons (o := { dst := some 80, op := Op.call { callee := Callee.value (Operand.func 25), args := #[Operand.tmp 75, Operand.tmp 79], argTypes := #[50, 25] }, type := 51, pos := "law.go:106", after := #[{ on := 0, ground := Ground.data }, { on := 4, ground := Ground.data }], guard := none }) rfl (fun K hK => ?_) (AllReadyH.cons (o := { dst := some 13, op := Op.alloc 50, type := 0, pos := "law.go:106", after := #[], guard := none }) rfl (fun K hK => ?_) (AllReadyH.nil))
            · try simp only [List.getElem_toArray, List.getElem_cons_succ, List.getElem_cons_zero]
              go_simp
              refine (HRW.out _ (by assumption)).mono ?_
              rintro e w4 ⟨a2, c3, rfl, hA4, hn4, hb4⟩
              have HB4 := hHeld.trans (hb4.mono hHeld.size)
              have hs4 := hHeld.size
              refine hK.out _ _ (by assumption) (fun hHeld => ?_)
              clear hK K
              try simp only [Act.put, List.setIfInBounds_toArray, List.set_cons_zero, List.set_cons_succ]
              refine' wpAnyH_take (i := 6) (oi := { dst := some 74, op := Op.move (Operand.tmp 80), type := 51, pos := "law.go:106", after := #[{ on := 5, ground := Ground.data }], guard := none }) (v := ?v6) rfl (by kernel_rfl) (by kernel_rfl) (by kernel_rfl) (fun _ _ _ h => h) (.inl ⟨by first | rfl | simp [Region.wanted, yielded], ?hy6⟩) (by assumption) ?rest6
              case hy6 => (intro W hW; have f1 := HCP.out _ hW; have f2 := HCL.out _ hW; go_simp; try with_reducible rfl)
              simp only [Act.put, List.setIfInBounds_toArray, List.set_cons_zero, List.set_cons_succ]
              refine' wpAnyH_take (i := 7) (oi := { dst := some 81, op := Op.extract (Operand.tmp 74) 0, type := 50, pos := "law.go:106", after := #[{ on := 6, ground := Ground.data }], guard := none }) (v := ?v7) rfl (by kernel_rfl) (by kernel_rfl) (by kernel_rfl) (fun _ _ _ h => h) (.inl ⟨by first | rfl | simp [Region.wanted, yielded], ?hy7⟩) (by assumption) ?rest7
              case hy7 => (intro W hW; have f1 := HCP.out _ hW; have f2 := HCL.out _ hW; go_simp; try with_reducible rfl)
              simp only [Act.put, List.setIfInBounds_toArray, List.set_cons_zero, List.set_cons_succ]
              refine' wpAnyH_take (i := 8) (oi := { dst := some 82, op := Op.extract (Operand.tmp 74) 1, type := 9, pos := "law.go:106", after := #[{ on := 6, ground := Ground.data }, { on := 10, ground := Ground.gcOnly Departure.lateStores }], guard := none }) (v := ?v8) rfl (by kernel_rfl) (by kernel_rfl) (by kernel_rfl) (fun _ _ _ h => h) (.inl ⟨by first | rfl | simp [Region.wanted, yielded], ?hy8⟩) (by assumption) ?rest8
              case hy8 => (intro W hW; have f1 := HCP.out _ hW; have f2 := HCL.out _ hW; go_simp; try with_reducible rfl)
              simp only [Act.put, List.setIfInBounds_toArray, List.set_cons_zero, List.set_cons_succ]
              refine wpAnyH_ready (rs := [9]) (by kernel_rfl) (by simp) ?_
              refine AllReadyH.cons (o := { dst := some 13, op := Op.alloc 50, type := 0, pos := "law.go:106", after := #[], guard := none }) rfl (fun K hK => ?_) (AllReadyH.nil)
              try simp only [List.getElem_toArray, List.getElem_cons_succ, List.getElem_cons_zero]
              go_simp
              obtain ⟨w5, hw5⟩ : ∃ W, W = w4.alloc (.cells #[.slice none 0 0] 50) := ⟨_, rfl⟩
              obtain ⟨P3, hP3⟩ : ∃ P3, P3 = w4.heap.size := ⟨_, rfl⟩
              have hb5 : Below w4.heap.size w4 w5 := by rw [hw5]; exact (Below.refl _ w4).alloc (Nat.le_refl _) _
              have k5 : w5.heap[P3]? = some (.cells #[.slice none 0 0] 50 (0, 0)) := by rw [hw5, hP3]; exact alloc_blk_new _ _
              have s5 : w5.heap.size = P3 + 1 := by rw [hw5, hP3]; simp
              have HB5 := hHeld.trans (hb5.mono hHeld.size)
              have hle : wa.heap.size ≤ P3 := by have := hHeld.size; omega
              rw [← hw5, ← hP3]
              have k6 := k5
              have hAx : Arg (fun k => wa.heap.size ≤ k ∧ k ≠ P3) w5 a2 WL WT := (hA4.mono (U := fun k => wa.heap.size ≤ k ∧ k ≠ P3) (fun k h1 h => ⟨by omega, by omega⟩)).below hb5
              clear hw5 hP3
              refine hK.out _ _ (by assumption) (fun hHeld => ?_)
              clear hK K
              try simp only [Act.put, List.setIfInBounds_toArray, List.set_cons_zero, List.set_cons_succ]
              refine wpAnyH_ready (rs := [10]) (by kernel_rfl) (by simp) ?_
              refine AllReadyH.cons (o := { dst := none, op := Op.store 50 (Operand.tmp 13) (Operand.tmp 81), type := 0, pos := "law.go:106", after := #[{ on := 9, ground := Ground.data }, { on := 7, ground := Ground.data }, { on := 5, ground := Ground.chain }, { on := 0, ground := Ground.phase }, { on := 1, ground := Ground.phase }, { on := 2, ground := Ground.phase }, { on := 3, ground := Ground.phase }, { on := 4, ground := Ground.phase }, { on := 5, ground := Ground.phase }, { on := 6, ground := Ground.phase }, { on := 7, ground := Ground.phase }, { on := 8, ground := Ground.textOnly Departure.lateStores }, { on := 9, ground := Ground.phase }], guard := none }) rfl (fun K hK => ?_) (AllReadyH.nil)
              try simp only [List.getElem_toArray, List.getElem_cons_succ, List.getElem_cons_zero]
              have q1 := cell_blk k6 0 (.slice none 0 0) rfl
              have q2 := frozen_blk k6 0
              have q3 := blk_lt k6
              go_simp
              have k7 := setCell_blk k6 0 (.slice a2 WL c3)
              have hAy := hAx.mod ((Mod.refl (fun k => k = P3) _).setCell ⟨P3, 0, none⟩ (.inl rfl) (.slice a2 WL c3)) (fun k hk => hk.2)
              have HB7 := hHeld.setCell (p := ⟨P3, 0, none⟩) hle (.slice a2 WL c3)
              refine hK.out _ _ (by assumption) (fun hHeld => ?_)
              clear hK K
              try simp only [Act.put, List.setIfInBounds_toArray, List.set_cons_zero, List.set_cons_succ]
              refine' wpAnyH_take (i := 11) (oi := { dst := some 14, op := Op.assign (Operand.tmp 82), type := 9, pos := "law.go:106", after := #[{ on := 8, ground := Ground.data }, { on := 10, ground := Ground.chain }, { on := 0, ground := Ground.phase }, { on := 1, ground := Ground.phase }, { on := 2, ground := Ground.phase }, { on := 3, ground := Ground.phase }, { on := 4, ground := Ground.phase }, { on := 5, ground := Ground.phase }, { on := 6, ground := Ground.phase }, { on := 7, ground := Ground.phase }, { on := 8, ground := Ground.phase }, { on := 9, ground := Ground.phase }, { on := 10, ground := Ground.phase }], guard := none }) (v := ?v9) rfl (by kernel_rfl) (by kernel_rfl) (by kernel_rfl) (fun _ _ _ h => h) (.inl ⟨by first | rfl | simp [Region.wanted, yielded], ?hy9⟩) (by assumption) ?rest9
              case hy9 => (intro W hW; have f1 := HCP.out _ hW; have f2 := HCL.out _ hW; go_simp; try with_reducible rfl)
              simp only [Act.put, List.setIfInBounds_toArray, List.set_cons_zero, List.set_cons_succ]
              refine wpAnyH_done (by kernel_rfl) ?_ _
              go_wp2
              go_meet
              exact ⟨P3, a2, c3, rfl, rfl, k7, hAy, hn4, hle, HB7⟩
            · try simp only [List.getElem_toArray, List.getElem_cons_succ, List.getElem_cons_zero]
              go_simp
              obtain ⟨w5, hw5⟩ : ∃ W, W = wd.alloc (.cells #[.slice none 0 0] 50) := ⟨_, rfl⟩
              obtain ⟨P3, hP3⟩ : ∃ P3, P3 = wd.heap.size := ⟨_, rfl⟩
              have hb5 : Below wd.heap.size wd w5 := by rw [hw5]; exact (Below.refl _ wd).alloc (Nat.le_refl _) _
              have k5 : w5.heap[P3]? = some (.cells #[.slice none 0 0] 50 (0, 0)) := by rw [hw5, hP3]; exact alloc_blk_new _ _
              have s5 : w5.heap.size = P3 + 1 := by rw [hw5, hP3]; simp
              have HB5 := hHeld.trans (hb5.mono hHeld.size)
              have hle : wa.heap.size ≤ P3 := by have := hHeld.size; omega
              rw [← hw5, ← hP3]
              clear hw5 hP3
              refine hK.out _ _ (by assumption) (fun hHeld => ?_)
              clear hK K
              try simp only [Act.put, List.setIfInBounds_toArray, List.set_cons_zero, List.set_cons_succ]
              refine wpAnyH_ready (rs := [5]) (by kernel_rfl) (by simp) ?_
              refine AllReadyH.cons (o := { dst := some 80, op := Op.call { callee := Callee.value (Operand.func 25), args := #[Operand.tmp 75, Operand.tmp 79], argTypes := #[50, 25] }, type := 51, pos := "law.go:106", after := #[{ on := 0, ground := Ground.data }, { on := 4, ground := Ground.data }], guard := none }) rfl (fun K hK => ?_) (AllReadyH.nil)
              try simp only [List.getElem_toArray, List.getElem_cons_succ, List.getElem_cons_zero]
              go_simp
              refine (HRW.out _ (by assumption)).mono ?_
              rintro e w4 ⟨a2, c3, rfl, hA4, hn4, hb4⟩
              have HB4 := hHeld.trans (hb4.mono hHeld.size)
              have hs4 := hHeld.size
              have k6 := (hb4.block P3 (blk_lt k5)).trans k5
              have hAx : Arg (fun k => wa.heap.size ≤ k ∧ k ≠ P3) w4 a2 WL WT := hA4.mono (fun k _ h => ⟨by omega, by omega⟩)
              refine hK.out _ _ (by assumption) (fun hHeld => ?_)
              clear hK K
              try simp only [Act.put, List.setIfInBounds_toArray, List.set_cons_zero, List.set_cons_succ]
              refine' wpAnyH_take (i := 6) (oi := { dst := some 74, op := Op.move (Operand.tmp 80), type := 51, pos := "law.go:106", after := #[{ on := 5, ground := Ground.data }], guard := none }) (v := ?v10) rfl (by kernel_rfl) (by kernel_rfl) (by kernel_rfl) (fun _ _ _ h => h) (.inl ⟨by first | rfl | simp [Region.wanted, yielded], ?hy10⟩) (by assumption) ?rest10
              case hy10 => (intro W hW; have f1 := HCP.out _ hW; have f2 := HCL.out _ hW; go_simp; try with_reducible rfl)
              simp only [Act.put, List.setIfInBounds_toArray, List.set_cons_zero, List.set_cons_succ]
              refine' wpAnyH_take (i := 7) (oi := { dst := some 81, op := Op.extract (Operand.tmp 74) 0, type := 50, pos := "law.go:106", after := #[{ on := 6, ground := Ground.data }], guard := none }) (v := ?v11) rfl (by kernel_rfl) (by kernel_rfl) (by kernel_rfl) (fun _ _ _ h => h) (.inl ⟨by first | rfl | simp [Region.wanted, yielded], ?hy11⟩) (by assumption) ?rest11
              case hy11 => (intro W hW; have f1 := HCP.out _ hW; have f2 := HCL.out _ hW; go_simp; try with_reducible rfl)
              simp only [Act.put, List.setIfInBounds_toArray, List.set_cons_zero, List.set_cons_succ]
              refine' wpAnyH_take (i := 8) (oi := { dst := some 82, op := Op.extract (Operand.tmp 74) 1, type := 9, pos := "law.go:106", after := #[{ on := 6, ground := Ground.data }, { on := 10, ground := Ground.gcOnly Departure.lateStores }], guard := none }) (v := ?v12) rfl (by kernel_rfl) (by kernel_rfl) (by kernel_rfl) (fun _ _ _ h => h) (.inl ⟨by first | rfl | simp [Region.wanted, yielded], ?hy12⟩) (by assumption) ?rest12
              case hy12 => (intro W hW; have f1 := HCP.out _ hW; have f2 := HCL.out _ hW; go_simp; try with_reducible rfl)
              simp only [Act.put, List.setIfInBounds_toArray, List.set_cons_zero, List.set_cons_succ]
              refine wpAnyH_ready (rs := [10]) (by kernel_rfl) (by simp) ?_
              refine AllReadyH.cons (o := { dst := none, op := Op.store 50 (Operand.tmp 13) (Operand.tmp 81), type := 0, pos := "law.go:106", after := #[{ on := 9, ground := Ground.data }, { on := 7, ground := Ground.data }, { on := 5, ground := Ground.chain }, { on := 0, ground := Ground.phase }, { on := 1, ground := Ground.phase }, { on := 2, ground := Ground.phase }, { on := 3, ground := Ground.phase }, { on := 4, ground := Ground.phase }, { on := 5, ground := Ground.phase }, { on := 6, ground := Ground.phase }, { on := 7, ground := Ground.phase }, { on := 8, ground := Ground.textOnly Departure.lateStores }, { on := 9, ground := Ground.phase }], guard := none }) rfl (fun K hK => ?_) (AllReadyH.nil)
              try simp only [List.getElem_toArray, List.getElem_cons_succ, List.getElem_cons_zero]
              have q1 := cell_blk k6 0 (.slice none 0 0) rfl
              have q2 := frozen_blk k6 0
              have q3 := blk_lt k6
              go_simp
              have k7 := setCell_blk k6 0 (.slice a2 WL c3)
              have hAy := hAx.mod ((Mod.refl (fun k => k = P3) _).setCell ⟨P3, 0, none⟩ (.inl rfl) (.slice a2 WL c3)) (fun k hk => hk.2)
              have HB7 := hHeld.setCell (p := ⟨P3, 0, none⟩) hle (.slice a2 WL c3)
              refine hK.out _ _ (by assumption) (fun hHeld => ?_)
              clear hK K
              try simp only [Act.put, List.setIfInBounds_toArray, List.set_cons_zero, List.set_cons_succ]
              refine' wpAnyH_take (i := 11) (oi := { dst := some 14, op := Op.assign (Operand.tmp 82), type := 9, pos := "law.go:106", after := #[{ on := 8, ground := Ground.data }, { on := 10, ground := Ground.chain }, { on := 0, ground := Ground.phase }, { on := 1, ground := Ground.phase }, { on := 2, ground := Ground.phase }, { on := 3, ground := Ground.phase }, { on := 4, ground := Ground.phase }, { on := 5, ground := Ground.phase }, { on := 6, ground := Ground.phase }, { on := 7, ground := Ground.phase }, { on := 8, ground := Ground.phase }, { on := 9, ground := Ground.phase }, { on := 10, ground := Ground.phase }], guard := none }) (v := ?v13) rfl (by kernel_rfl) (by kernel_rfl) (by kernel_rfl) (fun _ _ _ h => h) (.inl ⟨by first | rfl | simp [Region.wanted, yielded], ?hy13⟩) (by assumption) ?rest13
              case hy13 => (intro W hW; have f1 := HCP.out _ hW; have f2 := HCL.out _ hW; go_simp; try with_reducible rfl)
              simp only [Act.put, List.setIfInBounds_toArray, List.set_cons_zero, List.set_cons_succ]
              refine wpAnyH_done (by kernel_rfl) ?_ _
              go_wp2
              go_meet
              exact ⟨P3, a2, c3, rfl, rfl, k7, hAy, hn4, hle, HB7⟩
          case rest =>
            obtain ⟨P3, a2, c3, rfl, rfl, k3, hA3, hn3, hP3, hb⟩ := hcut
            obtain ⟨wb, hwb⟩ : ∃ W, W = wc := ⟨_, rfl⟩
            subst hwb
            have HT4 := Lib.hid (HT3.out.grow hb)
            have HSab : Hid (wa.heap.size ≤ wb.heap.size) := Lib.hid hb.size
            have HPa : Hid (P < wa.heap.size) := Lib.hid (blk_lt HT3.out.box)
            have K3 := Lib.hid k3
            have HA3 : Hid (Arg (fun k => (wa.heap.size ≤ k ∧ k < wb.heap.size) ∧ k ≠ P3) wb a2 WL WT) := Lib.hid (hA3.mono fun k h1 h2 => ⟨⟨h2.1, h1⟩, h2.2⟩)
            have HKP3 : Hid (More K2 wa wb P3) := Lib.hid (.inr ⟨hP3, blk_lt k3⟩)
            have HN3 := Lib.hid hn3
            obtain ⟨w0, hw0⟩ : ∃ W, W = wb.alloc (.cells #[] 5) := ⟨_, rfl⟩
            have HR0 : Hid (w0.ownsRow wb.heap.size 5 1 (.slice (some ⟨wb.heap.size, 0, none⟩) 0 0) 0 []) := Lib.hid (by rw [hw0]; exact World.ownsRow_lit wb #[] 0 (Nat.le_refl _) (by simp) rfl)
            have hb0 : Below wb.heap.size wb w0 := by rw [hw0]; exact (Below.refl _ wb).alloc (Nat.le_refl _) _
            have HB0 := Lib.hid hb0
            have hbw0 := HT4.out.ds.below.trans (hb0.mono HT4.out.ds.below.size)
            obtain ⟨y1, y2⟩ := HLc.out (wb.alloc (.cells #[] 5)) (by rw [← hw0]; exact hbw0)
            obtain ⟨y3, y4⟩ := HLc.out wb HT4.out.ds.below
            have HA0 : Hid (Arg (fun k => k < w.heap.size) w0 z.a m z.xs) := Lib.hid (by have := HOk.out.arg.below hbw0; rw [← HM.out] at this; exact this)
            have HNn : Hid (z.a = none → m = 0 ∧ z.c = 0) := Lib.hid (by rw [HM.out]; exact HOk.out.nn)
            have HZL : Hid (z.xs.length = m) := Lib.hid HM.out.symm
            have E0 := Lib.hid hw0
            clear k3 hA3 hn3 hP3 hb hw0 hb0 hbw0 HT3 HRW HCP HCL
            go_wp2_with (at_builtin; go_loud (rw [← E0.out]); go_loud (refine wpList_append_f _ rfl (.tmp 83) (.tmp 87) 25 rfl wb.heap.size 5 i0 (.int .u8 0) 1 1 Try.underlying25 hi0 hz0 hz1 hz2 rfl (by decide) _ _ _ rfl HR0.out z.a m z.c (z.xs.map (.int .u8)) rfl (by simpa using HZL.out) HNn.out HA0.out.news (one_u8 _) ?c3 ?c4 HB0.out.size ?_))
            case c3 => unfold maxLen; omega
            case c4 => omega
            intro v1 w1 hown hg hf _
            have hb1 : Below wb.heap.size wb w1 := HB0.out.grown hg HB0.out.size (fun k e => by cases e; exact Nat.le_refl _)
            try rw [Nat.zero_add, List.nil_append] at hown
            obtain ⟨ga, gc, rfl⟩ := row_slice hown
            obtain ⟨_, hAc, hnc⟩ := row_arg hown
            rw [HZL.out] at hAc hnc
            have h5 := HT4.out.grow hb1
            have HW := Lib.hid (h5.ds.write ga m gc hAc hnc HOk.out.by_ (by omega))
            rw [← HWT.out, ← HXe.out] at HW
            have H5 := Lib.hid h5
            have HR1 := Lib.hid hown
            have HB1 := Lib.hid hb1
            clear h5 hown hg hf hb1 hAc hnc HR0 HB0 HA0 HNn HT4 y1 y2 y3 y4
            go_wp2_with (go_at_call 19; fail)
            refine HW.out.mono ?_
            rintro e w2 ⟨rfl, hds2, hm2⟩
            have hnD := H5.out.ds.nk
            have hk3 := (hm2.block P3 (blk_lt ((HB1.out.block P3 (blk_lt K3.out)).trans K3.out)) (fun e => hnD (e ▸ .inl HKP3.out))).trans ((HB1.out.block P3 (blk_lt K3.out)).trans K3.out)
            have hA2 := (HA3.out.below HB1.out).mod hm2 (fun k hk e => hnD (e ▸ .inl (.inr hk.1)))
            have hbx := (H5.out.own hds2 hm2).1
            have hr2 := hm2.row HR1.out (fun k hk e => hnD (e ▸ .inr (HR1.out.lt k hk)))
            obtain ⟨w3, hw3⟩ : ∃ W, W = w2.setCell ⟨P, 0, none⟩ (.slice a2 WL c3) := ⟨_, rfl⟩
            have hm3 : Mod (fun k => k = P) w2 w3 := by rw [hw3]; exact (Mod.refl (fun k => k = P) w2).setCell ⟨P, 0, none⟩ (.inl rfl) _
            have hbx3 : w3.heap[P]? = some (.cells #[.slice a2 WL c3] 50 (0, 0)) := by rw [hw3]; exact setCell_blk hbx 0 _
            have hA33 := hA2.mod hm3 (fun k hk e => by have := HPa.out; omega)
            have hPb : P < wb.heap.size := by
              rcases Nat.lt_or_ge P wb.heap.size with h | h
              · exact h
              · have := HPa.out; have := HKP3.out; have := HSab.out; omega
            have hr3 := hm3.row hr2 (fun k hk e => by have := (HR1.out.lt k hk).1; omega)
            have HDS2 := Lib.hid hds2
            have HM3 := Lib.hid hm3
            have HBx3 := Lib.hid hbx3
            have HA33 := Lib.hid hA33
            have HR3 := Lib.hid hr3
            have E3 := Lib.hid hw3
            have HRl : Hid (∀ x, (Value.slice ga m gc).ownBlock = some x → wb.heap.size ≤ x ∧ x < w1.heap.size) := Lib.hid fun k hk => HR1.out.lt k hk
            have HS12 : Hid (w1.heap.size ≤ w2.heap.size) := Lib.hid hm2.size
            have HPb := Lib.hid hPb
            have c3' := cell_blk hk3 0 (.slice a2 WL c3) rfl
            have c3l := blk_lt hk3
            have cP := cell_blk hbx 0 _ rfl
            have cPf := frozen_blk hbx 0
            have cPl := blk_lt hbx
            clear hds2 hm2 hk3 hA2 hbx hr2 hw3 hm3 hbx3 hA33 hr3 hPb HW HR1 K3 HA3 hnD
            go_wp2_with fail
            rw [← E3.out]
            clear c3' c3l cP cPf cPl
            go_loopg [18] m (fun gk v18 wx => ∃ k : Nat, v18 = .int .i64 k ∧ k ≤ m ∧ gk = m - k ∧ (∃ ys : List Int, ys.length = m ∧ wx.ownsRow wb.heap.size 5 1 (.slice ga m gc) m (ys.map (.int .u8))) ∧ Mod (fun x => (Value.slice ga m gc).ownBlock = some x) w3 wx)
            case atStart => exact ⟨0, rfl, by omega, rfl, ⟨z.xs, HZL.out, HR3.out⟩, Mod.refl _ _⟩
            case round =>
              obtain ⟨k, rfl, hkm, hgk2, ⟨ys, hyl, hrow⟩, hmod⟩ := hrel
              have HG2 := Lib.hid hgk2
              have HROW := Lib.hid hrow
              have HMOD := Lib.hid hmod
              clear hgk2 hrow hmod
              by_cases hkl : k < m
              · obtain ⟨g, cap', cur, e, hgb, hgg, _⟩ := row_some HROW.out (by omega)
                cases e
                obtain ⟨y, hy⟩ : ∃ y, ys[k]? = some y := ⟨ys[k], by simp [show k < ys.length by omega]⟩
                have hck : wr.cell? ⟨g, k, none⟩ = some (.int .u8 y) := by rw [HROW.out.cellAt k (by omega), List.getElem?_map, hy]; rfl
                have hfk := HROW.out.frozenAt k
                have hkl2 : (k : Int) < m := by omega
                have HGB := Lib.hid hgb
                clear hgg hgb hy
                go_wp2_with fail
                obtain ⟨y', hy'⟩ : ∃ y', y' = (y + 1) % 256 := ⟨_, rfl⟩
                rw [← hy']
                have hst := HROW.out.stored k (.int .u8 y')
                have hst1 : (wr.setCell ⟨g, k, none⟩ (.int .u8 y')).ownsRow wb.heap.size 5 1 (.slice (some ⟨g, 0, none⟩) m gc) m ((ys.set k y').map (.int .u8)) := by rw [List.map_set]; exact hst.1
                have hm2 := HMOD.out.setCell ⟨g, k, none⟩ (.inl rfl) (.int .u8 y')
                go_roundg (m - (k + 1))
                case measure => have := HG2.out; omega
                case rel => exact ⟨k + 1, by go_num, by omega, rfl, ⟨ys.set k y', by simpa using hyl, hst1⟩, hm2⟩
              · obtain rfl : m = k := by omega
                have hRl := HRl.out
                have hPa := HPa.out
                have hPb := HPb.out
                have hmm : Mod (fun k => More (More K2 wa wb) wb w1 k) w2 wr := (HM3.out.mono (T := fun k => More (More K2 wa wb) wb w1 k) (fun k _ e => e ▸ H5.out.kp)).trans HMOD.out (fun k _ e => .inr (hRl k e))
                have h6 := HDS2.out.turn hmm H5.out.klo
                have hbx6 := (HMOD.out.block P (blk_lt HBx3.out) (fun e => by have := (hRl P e).1; omega)).trans HBx3.out
                have hA6 := HA33.out.mod HMOD.out (fun k hk e => by have := (hRl k e).1; omega)
                have h7 : Wt w P (More (More (More K2 wa wb) wb w1) w2 wr) D' WT a2 c3 wr := ⟨h6, .inl H5.out.kp, fun k hk => by
                  rcases hk with hk | hk
                  · exact H5.out.klo k hk
                  · have := HDS2.out.below.size; omega, by rw [← HWL.out]; exact hbx6, by rw [← HWL.out]; exact hA6.mono (fun k _ hk => ⟨.inl (.inl (.inr hk.1)), by omega⟩), by rw [← HWL.out]; exact HN3.out⟩
                obtain ⟨Y, hY⟩ : ∃ Y, Y = strOfNums WT := ⟨_, rfl⟩
                have HWa : Hid (∀ W, Below wr.heap.size wr W → Calls Try.prog 21 #[.pointer (some ⟨D', 0, none⟩)] W fun e w' => ∃ (a9 : Option Addr) (c9 : Nat), e = .returned (.slice a9 WL c9) ∧ (convert 25 9 (.slice a9 WL c9)).run Try.prog w' = .ok (.string Y) w' ∧ Below W.heap.size W w') := Lib.hid fun W hW => by
                  refine (h6.grow hW).waits.mono ?_
                  rintro e w' ⟨a9, c9, rfl, hr9, hb9⟩
                  obtain ⟨_, hA9, hn9⟩ := row_arg hr9
                  rw [HWL.out, hY]
                  exact ⟨a9, c9, rfl, conv_any c9 hA9 hn9, hb9⟩
                have HCP2 : Hid (∀ W, Below wr.heap.size wr W → W.cell? ⟨P, 0, none⟩ = some (.slice a2 WL c3)) := Lib.hid fun W hW => cell_blk ((hW.block _ (blk_lt hbx6)).trans hbx6) 0 _ rfl
                have HCv2 : Hid (∀ W, Below wr.heap.size wr W → (convert 25 9 (.slice a2 WL c3)).run Try.prog W = .ok (.string Y) W) := Lib.hid fun W hW => by
                  have h1 := hA6.below hW
                  have h2 := HN3.out
                  rw [HWL.out] at h1 h2 ⊢
                  rw [hY]
                  exact conv_any c3 h1 h2
                have H7 := Lib.hid h7
                clear hmm h6 hbx6 hA6 h7 hY hRl HDS2 HM3 HBx3 HA33 HR3 HROW HMOD HRl H5 HB1
                go_wp2_with fail
                refine wp_region_held_drew (S := fun W => Below wr.heap.size wr W) (by kernel_rfl) (Below.drewN' wr 1) (fun hHeld => ?_)
                generalize wr.drew = wd at hHeld ⊢
                refine' wpAnyH_take (i := 0) (oi := { dst := some 108, op := Op.move (Operand.tmp 14), type := 9, pos := "law.go:113", after := #[], guard := none }) (v := ?v1001) rfl (by kernel_rfl) (by kernel_rfl) (by kernel_rfl) (fun _ _ _ h => h) (.inl ⟨by first | rfl | simp [Region.wanted, yielded], ?hy1001⟩) (by assumption) ?rest1001
                case hy1001 => (intro W hW; have f1 := HCP2.out _ hW; have f2 := HCv2.out _ hW; go_simp; try with_reducible rfl)
                simp only [Act.put, List.setIfInBounds_toArray, List.set_cons_zero, List.set_cons_succ]
                refine' wpAnyH_take (i := 1) (oi := { dst := some 109, op := Op.move (Operand.tmp 16), type := 9, pos := "law.go:113", after := #[], guard := none }) (v := ?v1002) rfl (by kernel_rfl) (by kernel_rfl) (by kernel_rfl) (fun _ _ _ h => h) (.inl ⟨by first | rfl | simp [Region.wanted, yielded], ?hy1002⟩) (by assumption) ?rest1002
                case hy1002 => (intro W hW; have f1 := HCP2.out _ hW; have f2 := HCv2.out _ hW; go_simp; try with_reducible rfl)
                simp only [Act.put, List.setIfInBounds_toArray, List.set_cons_zero, List.set_cons_succ]
                refine' wpAnyH_take (i := 2) (oi := { dst := some 110, op := Op.binOp BinOp.neq 9 (Operand.tmp 108) (Operand.tmp 109) 9, type := 4, pos := "law.go:113", after := #[{ on := 0, ground := Ground.data }, { on := 1, ground := Ground.data }], guard := none }) (v := ?v1003) rfl (by kernel_rfl) (by kernel_rfl) (by kernel_rfl) (fun _ _ _ h => h) (.inl ⟨by first | rfl | simp [Region.wanted, yielded], ?hy1003⟩) (by assumption) ?rest1003
                case hy1003 => (intro W hW; have f1 := HCP2.out _ hW; have f2 := HCv2.out _ hW; go_simp; try with_reducible rfl)
                simp only [Act.put, List.setIfInBounds_toArray, List.set_cons_zero, List.set_cons_succ]
                refine' wpAnyH_take (i := 3) (oi := { dst := some 111, op := Op.move (Operand.tmp 110), type := 4, pos := "law.go:113", after := #[{ on := 2, ground := Ground.data }], guard := none }) (v := ?v1004) rfl (by kernel_rfl) (by kernel_rfl) (by kernel_rfl) (fun _ _ _ h => h) (.inl ⟨by first | rfl | simp [Region.wanted, yielded], ?hy1004⟩) (by assumption) ?rest1004
                case hy1004 => (intro W hW; have f1 := HCP2.out _ hW; have f2 := HCv2.out _ hW; go_simp; try with_reducible rfl)
                simp only [Act.put, List.setIfInBounds_toArray, List.set_cons_zero, List.set_cons_succ]
                refine' wpAnyH_take (i := 4) (oi := { dst := some 112, op := Op.move (Operand.tmp 17), type := 41, pos := "law.go:113", after := #[{ on := 3, ground := Ground.guard }], guard := some (3, false) }) (v := ?v1005) rfl (by kernel_rfl) (by kernel_rfl) (by kernel_rfl) (fun _ _ _ h => h) (.inl ⟨by first | rfl | simp [Region.wanted, yielded], ?hy1005⟩) (by assumption) ?rest1005
                case hy1005 => (intro W hW; have f1 := HCP2.out _ hW; have f2 := HCv2.out _ hW; go_simp; try with_reducible rfl)
                simp only [Act.put, List.setIfInBounds_toArray, List.set_cons_zero, List.set_cons_succ]
                refine wpAnyH_ready (rs := [5]) (by kernel_rfl) (by simp) ?_
                refine AllReadyH.cons (o := { dst := some 113, op := Op.call { callee := Callee.value (Operand.func 20), args := #[Operand.tmp 112], argTypes := #[41] }, type := 3, pos := "law.go:113", after := #[{ on := 4, ground := Ground.data }, { on := 3, ground := Ground.chain }, { on := 3, ground := Ground.guard }], guard := some (3, false) }) rfl (fun K hK => ?_) (AllReadyH.nil)
                try simp only [List.getElem_toArray, List.getElem_cons_succ, List.getElem_cons_zero]
                go_simp
                refine (HNum.out _ _).mono ?_
                rintro e w8 ⟨rfl, rfl⟩
                refine hK.out _ _ (by assumption) (fun hHeld => ?_)
                clear hK K
                try simp only [Act.put, List.setIfInBounds_toArray, List.set_cons_zero, List.set_cons_succ]
                refine' wpAnyH_take (i := 6) (oi := { dst := some 114, op := Op.binOp BinOp.neq 3 (Operand.tmp 113) (Operand.const (Value.int IntKind.i64 0)) 3, type := 4, pos := "law.go:113", after := #[{ on := 5, ground := Ground.data }, { on := 3, ground := Ground.guard }], guard := some (3, false) }) (v := ?v1006) rfl (by kernel_rfl) (by kernel_rfl) (by kernel_rfl) (fun _ _ _ h => h) (.inl ⟨by first | rfl | simp [Region.wanted, yielded], ?hy1006⟩) (by assumption) ?rest1006
                case hy1006 => (intro W hW; have f1 := HCP2.out _ hW; have f2 := HCv2.out _ hW; go_simp; try with_reducible rfl)
                simp only [Act.put, List.setIfInBounds_toArray, List.set_cons_zero, List.set_cons_succ]
                refine' wpAnyH_take (i := 7) (oi := { dst := some 115, op := Op.pick (Operand.tmp 111) (Operand.const (Value.bool true)) (Operand.tmp 114), type := 4, pos := "law.go:113", after := #[{ on := 3, ground := Ground.data }, { on := 6, ground := Ground.data }], guard := none }) (v := ?v1007) rfl (by kernel_rfl) (by kernel_rfl) (by kernel_rfl) (fun _ _ _ h => h) (.inl ⟨by first | rfl | simp [Region.wanted, yielded], ?hy1007⟩) (by assumption) ?rest1007
                case hy1007 => (intro W hW; have f1 := HCP2.out _ hW; have f2 := HCv2.out _ hW; go_simp; try with_reducible rfl)
                simp only [Act.put, List.setIfInBounds_toArray, List.set_cons_zero, List.set_cons_succ]
                refine' wpAnyH_take (i := 8) (oi := { dst := some 116, op := Op.move (Operand.tmp 115), type := 4, pos := "law.go:113", after := #[{ on := 7, ground := Ground.data }, { on := 5, ground := Ground.chain }], guard := none }) (v := ?v1008) rfl (by kernel_rfl) (by kernel_rfl) (by kernel_rfl) (fun _ _ _ h => h) (.inl ⟨by first | rfl | simp [Region.wanted, yielded], ?hy1008⟩) (by assumption) ?rest1008
                case hy1008 => (intro W hW; have f1 := HCP2.out _ hW; have f2 := HCv2.out _ hW; go_simp; try with_reducible rfl)
                simp only [Act.put, List.setIfInBounds_toArray, List.set_cons_zero, List.set_cons_succ]
                refine' wpAnyH_take (i := 9) (oi := { dst := some 117, op := Op.move (Operand.tmp 5), type := 39, pos := "law.go:113", after := #[{ on := 8, ground := Ground.guard }], guard := some (8, false) }) (v := ?v1009) rfl (by kernel_rfl) (by kernel_rfl) (by kernel_rfl) (fun _ _ _ h => h) (.inl ⟨by first | rfl | simp [Region.wanted, yielded], ?hy1009⟩) (by assumption) ?rest1009
                case hy1009 => (intro W hW; have f1 := HCP2.out _ hW; have f2 := HCv2.out _ hW; go_simp; try with_reducible rfl)
                simp only [Act.put, List.setIfInBounds_toArray, List.set_cons_zero, List.set_cons_succ]
                refine' wpAnyH_take (i := 12) (oi := { dst := some 120, op := Op.fieldAddr 50 (Operand.tmp 6) 0, type := 0, pos := "law.go:113", after := #[{ on := 8, ground := Ground.guard }], guard := some (8, false) }) (v := ?v1010) rfl (by kernel_rfl) (by kernel_rfl) (by kernel_rfl) (fun _ _ _ h => h) (.inl ⟨by first | rfl | simp [Region.wanted, yielded], ?hy1010⟩) (by assumption) ?rest1010
                case hy1010 => (intro W hW; have f1 := HCP2.out _ hW; have f2 := HCv2.out _ hW; go_simp; try with_reducible rfl)
                simp only [Act.put, List.setIfInBounds_toArray, List.set_cons_zero, List.set_cons_succ]
                refine' wpAnyH_take (i := 13) (oi := { dst := some 121, op := Op.load 25 (Operand.tmp 120), type := 25, pos := "law.go:113", after := #[{ on := 12, ground := Ground.data }, { on := 8, ground := Ground.guard }], guard := some (8, false) }) (v := ?v1011) rfl (by kernel_rfl) (by kernel_rfl) (by kernel_rfl) (fun _ _ _ h => h) (.inl ⟨by first | rfl | simp [Region.wanted, yielded], ?hy1011⟩) (by assumption) ?rest1011
                case hy1011 => (intro W hW; have f1 := HCP2.out _ hW; have f2 := HCv2.out _ hW; go_simp; try with_reducible rfl)
                simp only [Act.put, List.setIfInBounds_toArray, List.set_cons_zero, List.set_cons_succ]
                refine' wpAnyH_take (i := 14) (oi := { dst := some 122, op := Op.convert 25 9 (Operand.tmp 121), type := 9, pos := "law.go:113", after := #[{ on := 13, ground := Ground.data }, { on := 8, ground := Ground.guard }], guard := some (8, false) }) (v := ?v1012) rfl (by kernel_rfl) (by kernel_rfl) (by kernel_rfl) (fun _ _ _ h => h) (.inl ⟨by first | rfl | simp [Region.wanted, yielded], ?hy1012⟩) (by assumption) ?rest1012
                case hy1012 => (intro W hW; have f1 := HCP2.out _ hW; have f2 := HCv2.out _ hW; go_simp; try with_reducible rfl)
                simp only [Act.put, List.setIfInBounds_toArray, List.set_cons_zero, List.set_cons_succ]
                refine wpAnyH_ready (rs := [10]) (by kernel_rfl) (by simp) ?_
                refine AllReadyH.cons (o := { dst := some 118, op := Op.call { callee := Callee.value (Operand.func 21), args := #[Operand.tmp 117], argTypes := #[39] }, type := 25, pos := "law.go:113", after := #[{ on := 9, ground := Ground.data }, { on := 8, ground := Ground.chain }, { on := 8, ground := Ground.guard }], guard := some (8, false) }) rfl (fun K hK => ?_) (AllReadyH.nil)
                try simp only [List.getElem_toArray, List.getElem_cons_succ, List.getElem_cons_zero]
                go_simp
                refine (HWa.out _ (by assumption)).mono ?_
                rintro e w9 ⟨a9, c9, rfl, t9, hb9⟩
                have HB9 := hHeld.trans (hb9.mono hHeld.size)
                refine hK.out _ _ (by assumption) (fun hHeld => ?_)
                clear hK K
                try simp only [Act.put, List.setIfInBounds_toArray, List.set_cons_zero, List.set_cons_succ]
                refine wpAnyH_ready (rs := [11]) (by kernel_rfl) (by simp) ?_
                refine AllReadyH.cons (o := { dst := some 119, op := Op.convert 25 9 (Operand.tmp 118), type := 9, pos := "law.go:113", after := #[{ on := 10, ground := Ground.data }, { on := 8, ground := Ground.guard }], guard := some (8, false) }) rfl (fun K hK => ?_) (AllReadyH.nil)
                try simp only [List.getElem_toArray, List.getElem_cons_succ, List.getElem_cons_zero]
                go_simp
                refine hK.out _ _ (by assumption) (fun hHeld => ?_)
                clear hK K
                try simp only [Act.put, List.setIfInBounds_toArray, List.set_cons_zero, List.set_cons_succ]
                refine' wpAnyH_take (i := 15) (oi := { dst := some 123, op := Op.binOp BinOp.neq 9 (Operand.tmp 119) (Operand.tmp 122) 9, type := 4, pos := "law.go:113", after := #[{ on := 11, ground := Ground.data }, { on := 14, ground := Ground.data }, { on := 8, ground := Ground.guard }], guard := some (8, false) }) (v := ?v1013) rfl (by kernel_rfl) (by kernel_rfl) (by kernel_rfl) (fun _ _ _ h => h) (.inl ⟨by first | rfl | simp [Region.wanted, yielded], ?hy1013⟩) (by assumption) ?rest1013
                case hy1013 => (intro W hW; have f1 := HCP2.out _ hW; have f2 := HCv2.out _ hW; go_simp; try with_reducible rfl)
                simp only [Act.put, List.setIfInBounds_toArray, List.set_cons_zero, List.set_cons_succ]
                refine' wpAnyH_take (i := 16) (oi := { dst := some 124, op := Op.pick (Operand.tmp 116) (Operand.const (Value.bool true)) (Operand.tmp 123), type := 4, pos := "law.go:113", after := #[{ on := 8, ground := Ground.data }, { on := 15, ground := Ground.data }], guard := none }) (v := ?v1014) rfl (by kernel_rfl) (by kernel_rfl) (by kernel_rfl) (fun _ _ _ h => h) (.inl ⟨by first | rfl | simp [Region.wanted, yielded], ?hy1014⟩) (by assumption) ?rest1014
                case hy1014 => (intro W hW; have f1 := HCP2.out _ hW; have f2 := HCv2.out _ hW; go_simp; try with_reducible rfl)
                simp only [Act.put, List.setIfInBounds_toArray, List.set_cons_zero, List.set_cons_succ]
                refine wpAnyH_done (by kernel_rfl) ?_ _
                go_wp2
                go_roundg (n - (i + 1))
                case measure => have := HG.out; omega
                case rel => exact ⟨i + 1, D', _, WT, a2, c3, rfl, by go_num, by omega, rfl, H7.out.grow HB9⟩
    · obtain rfl : i = n := by omega
      have HB := Lib.hid HT.out.ds.below
      clear HT HG
      go_upto_if 125 with fail
      go_cut [19] from 125 to 127 (fun v19 wx => ∃ ax : Option Addr, v19 = .pointer ax ∧ NoD wx ax ∧ Below w.heap.size w wx)
      case first =>
        cases zero with
        | false =>
          go_wp2
          go_meet
          exact ⟨none, rfl, .inl rfl, HB.out⟩
        | true =>
          go_wp2
          go_meet
          exact ⟨_, rfl, .inr ⟨wr.heap.size, rfl, by simp, cell_blk (alloc_blk_new wr _) 1 (.bool false) rfl⟩, HB.out.alloc HB.out.size _⟩
      case rest =>
        obtain ⟨ax, rfl, hno, hbc⟩ := hcut
        have HBc := Lib.hid hbc
        have H1 := Lib.hid (Write_no ax none 0 0 wc hno)
        have H2 := Lib.hid (End_no ax wc hno)
        have H3 := Lib.hid (Waits_no ax wc hno)
        have H4 := Lib.hid (Copy_no ax wc hno)
        clear hno hbc HB
        go_wp2_with (first
          | (go_at_call 19; refine H1.out.mono ?_; rintro e w' ⟨rfl, rfl⟩)
          | (go_at_call 22; refine H2.out.mono ?_; rintro e w' ⟨rfl, rfl⟩)
          | (go_at_call 21; refine H3.out.mono ?_; rintro e w' ⟨rfl, rfl⟩)
          | (go_at_call 24; refine H4.out.mono ?_; rintro e w' ⟨rfl, rfl⟩)
          | (go_at_call 20; refine (HNum.out _ _).mono ?_; rintro e w' ⟨rfl, rfl⟩)
          | (go_at_call 8; fail))
        refine (HWk.out _).mono ?_
        rintro e w9 ⟨rfl, hb9⟩
        have HB9 := Lib.hid (HBc.out.trans (hb9.mono HBc.out.size))
        clear hb9
        go_wp2
        go_ret
        exact ⟨rfl, HB9.out⟩
end Go.Proofs.Ytplpgjcdoodmlaa
