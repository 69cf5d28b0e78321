/-
  LinesWrite, walked.
-/
import Derived.Test.YtfkfooclapogjaaXb
import Derived.Test.YtfkfooclapogjaaXc
import Derived.Deep.RegionHeld3
import Derived.Deep.CutBlock
import Derived.Lib.SlBytesConst
namespace Go.Proofs.Ytfkfooclapogjaa
open Go.RowKit
set_option linter.unusedVariables false
set_option linter.unusedSimpArgs false

/-- A piece that came in. -/
structure BV where
  a : Option Addr
  c : Nat
  xs : List Int
def BV.nul : BV := ⟨none, 0, []⟩
structure BV.Ok (w : World) (z : BV) : Prop where
  arg : Arg (fun k => k < w.heap.size) w z.a z.xs.length z.xs
  nn : z.a = none → z.xs.length = 0 ∧ z.c = 0
  by_ : Byt z.xs
/-- Pieces that came in. -/
def Pcs (w : World) (ao : Option Addr) (n : Nat) (ls : List BV) : Prop :=
  n ≤ maxLen ∧ n ≤ ls.length ∧ (0 < n → ∃ b off, ao = some ⟨b, off, none⟩ ∧ b < w.heap.size ∧ ∀ j, j < n → ∃ z, z = ls.getD j BV.nul ∧ w.cell? ⟨b, off + j, none⟩ = some (.slice z.a z.xs.length z.c) ∧ z.Ok w)
/-- What the law wants, in memory, beside the splitter. -/
structure Lt (w : World) (P : Nat) (K : Nat → Prop) (p D most : Nat) (zs : List Int) (s : Ss) (R : List Int) (a : Option Addr) (c : Nat) (wr : World) : Prop where
  ls : LS w K p D most zs s wr
  kp : K P
  klo : ∀ k, K k → w.heap.size ≤ k
  box : wr.heap[P]? = some (.cells #[.slice a zs.length c, .int .i64 most, .string (strOfNums R), .bool s.2.1, .bool s.2.2] 48 (0, 0))
  rt : RT most s.1 R
  arg : Arg (fun k => K k ∧ k ≠ P) wr a zs.length zs
  nn : a = none → zs.length = 0 ∧ c = 0
theorem Lt.grow {w wr w' : World} {P p D most : Nat} {K : Nat → Prop} {zs R : List Int} {s : Ss} {a : Option Addr} {c : Nat} (h : Lt w P K p D most zs s R a c wr) (hb : Below wr.heap.size wr w') : Lt w P (More K wr w') p D most zs s R a c w' :=
  ⟨h.ls.grow hb, .inl h.kp, fun k hk => by
    rcases hk with hk | hk
    · exact h.klo k hk
    · have := h.ls.below.size; omega, (hb.block P (blk_lt h.box)).trans h.box, h.rt, (h.arg.below hb).mono (fun k _ e => ⟨.inl e.1, e.2⟩), h.nn⟩
/-- What stays while the splitter moves. -/
theorem Lt.stay {w wr w' : World} {P p D most : Nat} {K : Nat → Prop} {zs R : List Int} {s : Ss} {a : Option Addr} {c : Nat} (h : Lt w P K p D most zs s R a c wr) (hm : Mod (fun k => k = p ∨ k = D) wr w') :
    w'.heap[P]? = some (.cells #[.slice a zs.length c, .int .i64 most, .string (strOfNums R), .bool s.2.1, .bool s.2.2] 48 (0, 0)) ∧ Arg (fun k => K k ∧ k ≠ P) w' a zs.length zs := by
  have hp := h.ls.kp
  have hD := h.ls.kD
  have hk : ∀ k, K k → ¬ (k = p ∨ k = D) := fun k hk e => by
    rcases e with rfl | rfl
    · exact hp hk
    · exact hD hk
  exact ⟨(hm.block P (blk_lt h.box) (hk P h.kp)).trans h.box, (h.arg.mod hm (fun k e => hk k e.1))⟩
/-- Five cells laid. -/
def lay5 (W : World) (P : Nat) (u0 u1 u2 u3 u4 : Value) : World := ((((W.setCell ⟨P, 0, none⟩ u0).setCell ⟨P, 1, none⟩ u1).setCell ⟨P, 2, none⟩ u2).setCell ⟨P, 3, none⟩ u3).setCell ⟨P, 4, none⟩ u4
theorem lay5_mod (W : World) (P : Nat) (u0 u1 u2 u3 u4 : Value) : Mod (fun k => k = P) W (lay5 W P u0 u1 u2 u3 u4) :=
  (((((Mod.refl (fun k => k = P) W).setCell ⟨P, 0, none⟩ (.inl rfl) _).setCell ⟨P, 1, none⟩ (.inl rfl) _).setCell ⟨P, 2, none⟩ (.inl rfl) _).setCell ⟨P, 3, none⟩ (.inl rfl) _).setCell ⟨P, 4, none⟩ (.inl rfl) _
theorem lay5_blk {W : World} {P : Nat} {v0 v1 v2 v3 v4 : Value} {ty : TypeId} (h : W.heap[P]? = some (.cells #[v0, v1, v2, v3, v4] ty (0, 0))) (u0 u1 u2 u3 u4 : Value) : (lay5 W P u0 u1 u2 u3 u4).heap[P]? = some (.cells #[u0, u1, u2, u3, u4] ty (0, 0)) :=
  setCell_blk (setCell_blk (setCell_blk (setCell_blk (setCell_blk h 0 u0) 1 u1) 2 u2) 3 u3) 4 u4
attribute [local go_sem high] neq35 eql35

set_option maxHeartbeats 25600000 in
set_option maxRecDepth 100000 in
theorem writes_any (mz : Int) (lo : Option Addr) (n cap : Nat) (ls : List BV) (zero : Bool) (w : World) (h : Pcs w lo n ls) :
    Calls Try.prog 5 #[.int .i64 mz, .slice lo n cap, .bool zero] w fun e w' => e = .returned (.bool true) ∧ Below w.heap.size w w' := by
  obtain ⟨i0, hi0, hz0, hz1, hz2⟩ := info_parts Try.info35
  have HWk := Lib.hid works_true
  have HNum := Lib.hid num_any
  have hnm := h.1
  unfold maxLen at hnm
  by_cases hbig : 30 < n
  · have d1 : decide (30 < n) = true := by simpa using hbig
    have d2 : decide ((30 : Int) < n) = true := by simp; omega
    clear h hbig
    go_enter Try.func5, Try.ntmps5
    go_wp2_with (go_at_call 6; fail)
    refine (HWk.out _).mono ?_
    rintro e w1 ⟨rfl, hb⟩
    have HB := Lib.hid hb
    clear hb
    go_wp2
    go_ret
    exact ⟨rfl, HB.out⟩
  have hn30 : n ≤ 30 := by omega
  have d1 : decide (30 < n) = false := by simp; omega
  have d2 : decide ((30 : Int) < n) = false := by simp; omega
  have HL := Lib.hid h.2.2
  by_cases hmz : mz < 1 ∨ 65536 < mz
  · have HNew := Lib.hid (New_bad mz w hmz)
    have HRef := Lib.hid (refNew_bad mz w hmz)
    unfold rsV at HRef
    clear h hbig hmz hnm
    go_enter Try.func5, Try.ntmps5
    go_wp2_with (first | (go_at_call 7; refine HNew.out.mono ?_; rintro e w' ⟨rfl, rfl⟩) | (go_at_call 15; fail))
    refine HRef.out.mono ?_
    rintro e w1 ⟨rfl, hb1⟩
    have HB1 := Lib.hid (fun o => (hb1.alloc hb1.size o : Below w.heap.size w (w1.alloc o)))
    clear hb1 HNew HRef
    go_wp2_with (go_at_call 9; refine (HNum.out _ _).mono ?_; rintro e w' ⟨rfl, rfl⟩)
    go_loopg [7, 11] 1 (fun gk v7 v11 wr => v7 = .pointer none ∧ v11 = .int .i64 0 ∧ Below w.heap.size w wr)
    case atStart => exact ⟨rfl, rfl, HB1.out _⟩
    case round =>
      obtain ⟨rfl, rfl, hbw⟩ := hrel
      have HB := Lib.hid hbw
      clear hbw HB1
      obtain ⟨b0, hb0⟩ : ∃ b, decide (0 < n) = b := ⟨_, rfl⟩
      have hb0' : decide ((0 : Int) < n) = b0 := by rw [← hb0]; simp
      have HB00 := Lib.hid (And.intro hb0 hb0')
      cases b0 with
      | false =>
        have hn0 : n = 0 := by simpa using hb0
        subst hn0
        clear hb0 hb0' HB00
        go_upto_if 119 with fail
        go_cut [17] from 119 to 121 (fun v17 wx => ∃ ax : Option Addr, v17 = .pointer ax ∧ NoS wx (.pointer ax) ∧ Below w.heap.size w wx)
        case first =>
          cases zero with
          | false =>
            go_wp2
            go_meet
            exact ⟨none, rfl, .inl rfl, HB.out⟩
          | true =>
            go_wp2
            go_meet
            exact ⟨_, rfl, .inr ⟨wr.heap.size, rfl, cell_blk (alloc_blk_new wr _) 1 (.int .i64 0) rfl, by simp⟩, HB.out.alloc HB.out.size _⟩
        case rest =>
          obtain ⟨ax, rfl, hno, hbc⟩ := hcut
          have HBc := Lib.hid hbc
          have H1 := Lib.hid (Write_no (.pointer ax) (.slice none 0 0) wc hno)
          have H2 := Lib.hid (Reset_no (.pointer ax) wc hno)
          have H3 := Lib.hid (Waits_no (.pointer ax) wc hno)
          have HNo := Lib.hid hno
          have el : lvEq ⟨#[]⟩ ⟨#[]⟩ false false = true := by decide +kernel
          clear hno hbc HB
          go_wp2_with (first
            | (go_at_call 8; refine H1.out.mono ?_; rintro e w' ⟨rfl, rfl⟩)
            | (go_at_call 16; refine H2.out.mono ?_; rintro e w' ⟨rfl, rfl⟩)
            | (go_at_call 9; refine (HNum.out _ _).mono ?_; rintro e w' ⟨rfl, rfl⟩)
            | (go_at_call 19; fail))
          refine H3.out.mono ?_
          rintro e w5 ⟨rfl, hb5⟩
          have H4 := Lib.hid (Copy_no (.pointer ax) w5 (HNo.out.below hb5))
          have HB5 := Lib.hid (HBc.out.trans (hb5.mono HBc.out.size))
          clear hb5 H1 H2 H3 HNo
          go_wp2_with (first
            | (go_at_call 17; refine H4.out.mono ?_; rintro e w' ⟨rfl, rfl⟩)
            | (go_at_call 6; fail))
          refine (HWk.out _).mono ?_
          rintro e w9 ⟨rfl, hb9⟩
          have HB9 := Lib.hid (HB5.out.trans (hb9.mono HB5.out.size))
          clear hb9
          go_wp2
          go_ret
          exact ⟨rfl, HB9.out⟩
      | true =>
        clear HB00
        go_upto_if 119 with fail
        go_cut [17] from 119 to 121 (fun v17 wx => ∃ ax : Option Addr, v17 = .pointer ax ∧ NoS wx (.pointer ax) ∧ Below w.heap.size w wx)
        case first =>
          cases zero with
          | false =>
            go_wp2
            go_meet
            exact ⟨none, rfl, .inl rfl, HB.out⟩
          | true =>
            go_wp2
            go_meet
            exact ⟨_, rfl, .inr ⟨wr.heap.size, rfl, cell_blk (alloc_blk_new wr _) 1 (.int .i64 0) rfl, by simp⟩, HB.out.alloc HB.out.size _⟩
        case rest =>
          obtain ⟨ax, rfl, hno, hbc⟩ := hcut
          have HBc := Lib.hid hbc
          have H1 := Lib.hid (Write_no (.pointer ax) (.slice none 0 0) wc hno)
          have H2 := Lib.hid (Reset_no (.pointer ax) wc hno)
          have H3 := Lib.hid (Waits_no (.pointer ax) wc hno)
          have HNo := Lib.hid hno
          have el : lvEq ⟨#[]⟩ ⟨#[]⟩ false false = true := by decide +kernel
          clear hno hbc HB
          go_wp2_with (first
            | (go_at_call 8; refine H1.out.mono ?_; rintro e w' ⟨rfl, rfl⟩)
            | (go_at_call 16; refine H2.out.mono ?_; rintro e w' ⟨rfl, rfl⟩)
            | (go_at_call 9; refine (HNum.out _ _).mono ?_; rintro e w' ⟨rfl, rfl⟩)
            | (go_at_call 19; fail))
          refine H3.out.mono ?_
          rintro e w5 ⟨rfl, hb5⟩
          have H4 := Lib.hid (Copy_no (.pointer ax) w5 (HNo.out.below hb5))
          have HB5 := Lib.hid (HBc.out.trans (hb5.mono HBc.out.size))
          clear hb5 H1 H2 H3 HNo
          go_wp2_with (first
            | (go_at_call 17; refine H4.out.mono ?_; rintro e w' ⟨rfl, rfl⟩)
            | (go_at_call 6; fail))
          refine (HWk.out _).mono ?_
          rintro e w9 ⟨rfl, hb9⟩
          have HB9 := Lib.hid (HB5.out.trans (hb9.mono HB5.out.size))
          clear hb9
          go_wp2
          go_ret
          exact ⟨rfl, HB9.out⟩
  obtain ⟨most, rfl⟩ : ∃ m : Nat, mz = m := ⟨mz.toNat, by omega⟩
  have hm0 : 1 ≤ most := by omega
  have hm1 : most ≤ 65536 := by omega
  have HNew := Lib.hid (New_ls most w w hm0 hm1 (Below.refl _ _))
  have HRef := Lib.hid (fun W => refNew_any most W hm0 hm1)
  unfold rsV at HRef
  clear h hbig hnm hmz
  go_enter Try.func5, Try.ntmps5
  go_wp2_with (go_at_call 7; fail)
  refine HNew.out.mono ?_
  rintro e w1 ⟨p0, D0, rfl, hq, hb1, _, _⟩
  have HQ1 := Lib.hid hq
  have HB1 := Lib.hid hb1
  clear hq hb1 HNew
  go_wp2_with (go_at_call 15; fail)
  refine (HRef.out _).mono ?_
  rintro e w2 ⟨rfl, hb2⟩
  obtain ⟨P, hP⟩ : ∃ P, P = w2.heap.size := ⟨_, rfl⟩
  obtain ⟨w3, hw3⟩ : ∃ W, W = w2.alloc (.cells #[.slice none 0 0, .int .i64 most, .string ⟨#[]⟩, .bool false, .bool false] 48) := ⟨_, rfl⟩
  have hb3 : Below w1.heap.size w1 w3 := by rw [hw3]; exact hb2.trans (((Below.refl _ w2).alloc (Nat.le_refl _) _).mono hb2.size)
  have k3 : w3.heap[P]? = some (.cells #[.slice none 0 0, .int .i64 most, .string ⟨#[]⟩, .bool false, .bool false] 48 (0, 0)) := by rw [hw3, hP]; exact alloc_blk_new _ _
  have HW0 : Hid (Lt w P (More (fun k => w.heap.size ≤ k ∧ k < w.heap.size) w1 w3) p0 D0 most [] ([], false, false) [] none 0 w3) := Lib.hid ⟨HQ1.out.grow hb3, .inr ⟨by have := hb2.size; omega, blk_lt k3⟩, fun k hk => by
      have hs := HB1.out.size
      rcases hk with hk | hk
      · omega
      · omega, k3, RT.nil most, ⟨rfl, fun h => by simp at h⟩, fun _ => ⟨rfl, rfl⟩⟩
  have EP := Lib.hid hP
  have E3 := Lib.hid hw3
  clear hP hw3 hb3 k3 hb2 HQ1 HB1
  go_wp2_with (go_at_call 9; refine (HNum.out _ _).mono ?_; rintro e w' ⟨rfl, rfl⟩)
  rw [← EP.out, ← E3.out]
  go_loopg [7, 11] n (fun gk v7 v11 wr => ∃ (i p D : Nat) (K : Nat → Prop) (zs : List Int) (s : Ss) (R : List Int) (a : Option Addr) (c' : Nat), v7 = .pointer (some ⟨p, 0, none⟩) ∧ v11 = .int .i64 (i : Nat) ∧ i ≤ n ∧ gk = n - i ∧ Lt w P K p D most zs s R a c' wr)
  case atStart => exact ⟨0, p0, D0, _, [], ([], false, false), [], none, 0, rfl, rfl, by omega, rfl, HW0.out⟩
  case round =>
    obtain ⟨i, p, D, K, zs, s, R, a, c', rfl, rfl, hin, hgk, hwt⟩ := hrel
    have HG := Lib.hid hgk
    have HT := Lib.hid hwt
    clear hgk hwt HW0
    by_cases hlt : i < n
    · have l1 : decide (i < n) = true := by simpa using hlt
      have l2 : decide ((i : Int) < n) = true := by simpa using hlt
      obtain ⟨lb, loff, rfl, hlb, hlc⟩ := HL.out (by omega)
      obtain ⟨z, hz, zc, zok⟩ := hlc i hlt
      have HLc : Hid (∀ W, Below w.heap.size w W → W.cell? ⟨lb, loff + i, none⟩ = some (.slice z.a z.xs.length z.c) ∧ lb < W.heap.size) := Lib.hid fun W hW => ⟨(hW.cell (p := ⟨lb, loff + i, none⟩) hlb).trans zc, Nat.lt_of_lt_of_le hlb hW.size⟩
      have HOk := Lib.hid zok
      obtain ⟨m, hm⟩ : ∃ m, m = z.xs.length := ⟨_, rfl⟩
      rw [← hm] at HLc
      have HM := Lib.hid hm
      clear hlc hz zc zok hm hlb
      obtain ⟨y1, y2⟩ := HLc.out wr HT.out.ls.below
      by_cases hm60 : 60 < m
      · have e1 : decide (60 < m) = true := by simpa using hm60
        have e2 : decide ((60 : Int) < m) = true := by simp; omega
        have hbw := Lib.hid HT.out.ls.below
        clear hm60
        go_wp2_with (go_at_call 6; fail)
        refine (HWk.out _).mono ?_
        rintro e w3 ⟨rfl, hb3⟩
        have HB3 := Lib.hid (hbw.out.trans (hb3.mono hbw.out.size))
        clear hb3
        go_wp2
        go_ret
        exact ⟨rfl, HB3.out⟩
      have e1 : decide (60 < m) = false := by simp; omega
      have e2 : decide ((60 : Int) < m) = false := by simp; omega
      obtain ⟨b9, hb9⟩ : ∃ b9, ((i : Int) % 9 == 8) = b9 := ⟨_, rfl⟩
      have hm60' : m ≤ 60 := by omega
      clear hm60
      go_upto_if 64 with fail
      clear hb9 y1 y2
      go_cut [7] from 65 to 73 (fun v7 wx => v7 = .pointer (some ⟨p, 0, none⟩) ∧ ∃ (K' : Nat → Prop) (zs' : List Int) (s' : Ss) (R' : List Int) (a' : Option Addr) (c2 : Nat), Lt w P K' p D most zs' s' R' a' c2 wx)
      case first =>
        cases b9 with
        | false =>
          go_wp2
          go_meet
          exact ⟨rfl, K, zs, s, R, a, c', HT.out⟩
        | true =>
          go_wp2_with (go_at_call 15; fail)
          refine (HRef.out _).mono ?_
          rintro e w4 ⟨rfl, hb4⟩
          have h4 := HT.out.grow hb4
          have hk4 := h4.box
          have q0 := cell_blk hk4 0 _ rfl
          have q1 := cell_blk hk4 1 _ rfl
          have q2 := cell_blk hk4 2 _ rfl
          have q3 := cell_blk hk4 3 _ rfl
          have q4 := cell_blk hk4 4 _ rfl
          have ff := fun q => frozen_blk hk4 q
          have f0 := ff 0
          have f1 := ff 1
          have f2 := ff 2
          have f3 := ff 3
          have f4 := ff 4
          have ql := blk_lt hk4
          obtain ⟨w5, hw5⟩ : ∃ W, W = lay5 w4 P (.slice none 0 0) (.int .i64 most) (.string ⟨#[]⟩) (.bool false) (.bool false) := ⟨_, rfl⟩
          have hm5 : Mod (fun k => k = P) w4 w5 := by rw [hw5]; exact lay5_mod _ _ _ _ _ _ _
          have k5 : w5.heap[P]? = some (.cells #[.slice none 0 0, .int .i64 most, .string ⟨#[]⟩, .bool false, .bool false] 48 (0, 0)) := by rw [hw5]; exact lay5_blk hk4 _ _ _ _ _
          have hls5 := h4.ls.turn (hm5.mono (T := More K wr w4) (fun k _ e => e ▸ h4.kp)) h4.klo
          have HRs := Lib.hid (Reset_ls hls5)
          have H4 := Lib.hid h4
          have K5 := Lib.hid k5
          have E5 := Lib.hid hw5
          have HLS5 := Lib.hid hls5
          unfold lay5 at E5
          clear hb4 h4 hk4 ff hw5 hm5 k5 hls5
          go_wp2_with (go_at_call 16; fail)
          rw [← E5.out]
          refine HRs.out.mono ?_
          rintro e w6 ⟨rfl, hls6, hm6⟩
          have hkP : More (More K wr w4) w4 w5 P := .inl H4.out.kp
          have k6 := (hm6.block P (blk_lt K5.out) (fun e => by
            rcases e with e | e
            · exact HLS5.out.kp (e ▸ hkP)
            · exact HLS5.out.kD (e ▸ hkP))).trans K5.out
          have H6 : Hid (Lt w P (More (More K wr w4) w4 w5) p D most [] ([], false, false) [] none 0 w6) := Lib.hid ⟨hls6, hkP, fun k hk => by
            rcases hk with hk | hk
            · exact H4.out.klo k hk
            · have := H4.out.ls.below.size; omega, k6, RT.nil most, ⟨rfl, fun h => by simp at h⟩, fun _ => ⟨rfl, rfl⟩⟩
          clear hls6 hm6 hkP k6 HRs
          go_wp2_with (go_at_call 9; refine (HNum.out _ _).mono ?_; rintro e w' ⟨rfl, rfl⟩)
          go_meet
          exact ⟨rfl, _, _, _, _, _, _, H6.out⟩
      case rest =>
        obtain ⟨rfl, K', zs', s', R', a', c2, hwt⟩ := hcut
        have HT2 := Lib.hid hwt
        clear hwt HT
        obtain ⟨b5, hb5⟩ : ∃ b5, ((i : Int) % 5 == 4) = b5 := ⟨_, rfl⟩
        go_upto_if 76 with fail
        clear hb5
        go_cut [7, 12] from 77 to 83 (fun v7 v12 wx => ∃ (p' D' : Nat) (K2 : Nat → Prop), v7 = .pointer (some ⟨p', 0, none⟩) ∧ Lt w P K2 p' D' most zs' s' R' a' c2 wx)
        case first =>
          cases b5 with
          | false =>
            go_wp2
            go_meet
            exact ⟨p, D, K', rfl, HT2.out⟩
          | true =>
            have HCp := Lib.hid (Copy_ls HT2.out.ls)
            go_wp2_with (go_at_call 17; fail)
            refine HCp.out.mono ?_
            rintro e w3 ⟨p2, D2, rfl, hls3, hb3, _, _⟩
            have hT2 := HT2.out
            have hbx := hT2.box
            have hPl := blk_lt hbx
            have hPlo := hT2.klo P hT2.kp
            have hplt := hT2.ls.lt
            have hplo := hT2.ls.lo
            have hDlt := hT2.ls.lt2
            have hDlo := hT2.ls.lo2
            have hold := hT2.grow hb3
            have HWl := Lib.hid (hold.ls.write_lay [120, 10, 13] 3 (3, 4) rfl (byt_dec rfl) (by decide) _ rfl _ rfl _ rfl _ rfl _ rfl)
            have HOLD := Lib.hid hold
            have HLS3 := Lib.hid hls3
            have HPD : Hid ((w.heap.size ≤ p ∧ p < wc.heap.size) ∧ (w.heap.size ≤ D ∧ D < wc.heap.size) ∧ (w.heap.size ≤ P ∧ P < wc.heap.size)) := Lib.hid ⟨⟨hplo, hplt⟩, ⟨hDlo, hDlt⟩, ⟨hPlo, hPl⟩⟩
            have HAr : Hid (Arg (fun k => ((w.heap.size ≤ k ∧ k < wc.heap.size) ∧ k ≠ P) ∧ ¬ (k = p ∨ k = D)) w3 a' zs'.length zs') := Lib.hid ((hT2.arg.mono (U := fun k => ((w.heap.size ≤ k ∧ k < wc.heap.size) ∧ k ≠ P) ∧ ¬ (k = p ∨ k = D)) (fun k h1 h2 => ⟨⟨⟨hT2.klo k h2.1, h1⟩, h2.2⟩, fun e => by
              rcases e with e | e
              · exact hT2.ls.kp (e ▸ h2.1)
              · exact hT2.ls.kD (e ▸ h2.1)⟩)).below hb3)
            clear hls3 hb3 hbx hT2 hPl hPlo hplt hplo hDlt hDlo hold HCp
            have kc := fun (W : World) (C : Array Value) (n c : Nat) => Lib.run_convert_bytes_const (P := Try.prog) W 22 5 C n c Try.underlying22 Try.underlying5
            go_wp2_with (go_at_call 8; fail)
            refine HWl.out.mono ?_
            rintro e w4 ⟨ra4, rc4, rfl, _, _, hm4⟩
            have hls4 := HLS3.out.turn (hm4.mono (T := fun k => w.heap.size ≤ k ∧ k < wc.heap.size) fun k _ e => by
              have := HPD.out
              rcases e with rfl | rfl
              · exact this.1
              · exact this.2.1) (fun k hk => hk.1)
            have h4 : Lt w P (More (fun k => w.heap.size ≤ k ∧ k < wc.heap.size) w3 w4) p2 D2 most zs' s' R' a' c2 w4 := ⟨hls4, .inl HPD.out.2.2, fun k hk => by
                rcases hk with hk | hk
                · exact hk.1
                · have := HLS3.out.below.size; omega, (HOLD.out.stay hm4).1, HOLD.out.rt,
              ((HAr.out.mod hm4 (fun k hk => hk.2)).mono fun k _ hk => ⟨.inl hk.1.1, hk.1.2⟩), HOLD.out.nn⟩
            have H4 := Lib.hid h4
            clear h4 hls4 hm4 HWl HOLD HLS3 HAr
            go_wp2
            go_meet
            exact ⟨p2, D2, _, rfl, H4.out⟩
        case rest =>
          obtain ⟨p', D', K2, rfl, hwt⟩ := hcut
          obtain ⟨wa, hwa⟩ : ∃ W, W = wc := ⟨_, rfl⟩
          subst hwa
          have HT3 := Lib.hid hwt
          clear hwt HT2
          have hl3 := HT3.out.ls.l3
          obtain ⟨L0, bg, cr⟩ := s'
          obtain ⟨⟨Ls, L2, bg2, cr2⟩, hrun⟩ : ∃ x, runP (L0, bg, cr) (pts (zs' ++ z.xs)) = x := ⟨_, rfl⟩
          obtain ⟨RS, hRS⟩ : ∃ x, x = strOfNums R' := ⟨_, rfl⟩
          obtain ⟨WT, hWT⟩ : ∃ WT, WT = wts (zs' ++ z.xs) := ⟨_, rfl⟩
          obtain ⟨WL, hWL⟩ : ∃ WL, WL = WT.length := ⟨_, rfl⟩
          obtain ⟨L, hL⟩ : ∃ L, L = zs'.length := ⟨_, rfl⟩
          obtain ⟨NL, hNL⟩ : ∃ x, x = Ls.length := ⟨_, rfl⟩
          have hNL6 : NL ≤ 1000 := by
            have h1 := lines_few (pts (zs' ++ z.xs)) (L0, bg, cr)
            rw [hrun] at h1
            have h2 := pts_len (zs' ++ z.xs)
            rw [List.length_append] at h2
            have := HM.out
            simp only at h1
            omega
          obtain ⟨VS, hVS⟩ : ∃ x, x = Ls.map (toldL most) := ⟨_, rfl⟩
          have HRW : Hid (∀ W, Below wa.heap.size wa W → Calls Try.prog 18 #[.agg #[.slice a' L c2, .int .i64 most, .string RS, .bool bg, .bool cr], .slice z.a m z.c] W fun e w' => ∃ (a2 : Option Addr) (c3 : Nat) (R3 : List Int) (RS3 : ByteArray) (ra : Option Addr) (rc : Nat), e = .returned (.tuple #[.agg #[.slice a2 WL c3, .int .i64 most, .string RS3, .bool bg2, .bool cr2], .slice ra NL rc]) ∧ RS3 = strOfNums R3 ∧ Arg (fun k => W.heap.size ≤ k) w' a2 WL WT ∧ (a2 = none → WL = 0 ∧ c3 = 0) ∧ RT most L2 R3 ∧ w'.ownsRow W.heap.size 35 2 (.slice ra NL rc) NL (lvs VS) ∧ Below W.heap.size W w') := Lib.hid fun W hW => by
            have hA := HT3.out.arg.below hW
            have hB := HOk.out.arg.below (HT3.out.ls.below.trans (hW.mono HT3.out.ls.below.size))
            have hm := HM.out
            rw [← hL] at hA
            rw [← hm] at hB
            have hc := HT3.out.ls.bc
            rw [hRS]
            refine (refWrite_ls a' L c2 zs' most L0 R' bg cr z.a m z.c z.xs W hA (by rw [hL]; exact HT3.out.nn) hB (by rw [hm]; exact HOk.out.nn) HT3.out.ls.byt HOk.out.by_ (by omega) (by omega) HT3.out.rt hc hm1 Ls L2 bg2 cr2 hrun).mono ?_
            rintro e w' ⟨a, n', c', R3, ra, rc, rfl, h1, h2, h3, h4, h5⟩
            have hn' : n' = WL := by rw [hWL, hWT]; exact h1.1.symm
            rw [hn'] at h1 h2 ⊢
            exact ⟨a, c', R3, _, ra, rc, by unfold rsV; rw [hNL], rfl, by rw [hWT]; exact h1, h2, h3, by rw [hNL, hVS]; exact h4, h5⟩
          have HCP : Hid (∀ W, Below wa.heap.size wa W → W.cell? ⟨P, 0, none⟩ = some (.slice a' L c2) ∧ W.cell? ⟨P, 1, none⟩ = some (.int .i64 most) ∧ W.cell? ⟨P, 2, none⟩ = some (.string RS) ∧ W.cell? ⟨P, 3, none⟩ = some (.bool bg) ∧ W.cell? ⟨P, 4, none⟩ = some (.bool cr)) := Lib.hid fun W hW => by
            have k := (hW.block _ (blk_lt HT3.out.box)).trans HT3.out.box
            rw [← hL, ← hRS] at k
            exact ⟨cell_blk k 0 _ rfl, cell_blk k 1 _ rfl, cell_blk k 2 _ rfl, cell_blk k 3 _ rfl, cell_blk k 4 _ rfl⟩
          have HCL : Hid (∀ W, Below wa.heap.size wa W → W.cell? ⟨lb, loff + i, none⟩ = some (.slice z.a m z.c)) := Lib.hid fun W hW => (HLc.out W (HT3.out.ls.below.trans (hW.mono HT3.out.ls.below.size))).1
          have HRUN := Lib.hid hrun
          have HRSe := Lib.hid hRS
          have HWT := Lib.hid hWT
          have HWL := Lib.hid hWL
          have HLe := Lib.hid hL
          have HNL := Lib.hid hNL
          have HVS := Lib.hid hVS
          clear hrun hRS hWT hWL hL hNL hVS
          go_upto_region 20 with fail
          go_cut [13, 14] from 84 to 92 (fun v13 v14 wx => ∃ (P3 : Nat) (a2 : Option Addr) (c3 : Nat) (R3 : List Int) (RS3 : ByteArray) (ra : Option Addr) (rc : Nat), v13 = .pointer (some ⟨P3, 0, none⟩) ∧ v14 = .slice ra NL rc ∧ RS3 = strOfNums R3 ∧ wx.heap[P3]? = some (.cells #[.slice a2 WL c3, .int .i64 most, .string RS3, .bool bg2, .bool cr2] 48 (0, 0)) ∧ Arg (fun k => wa.heap.size ≤ k ∧ k ≠ P3) wx a2 WL WT ∧ (a2 = none → WL = 0 ∧ c3 = 0) ∧ RT most L2 R3 ∧ LRowS (fun k => k < wa.heap.size ∨ k = P3) wx ra NL VS ∧ wa.heap.size ≤ P3 ∧ Below wa.heap.size wa wx)
          case first =>
            refine wp_region_held_drew (S := fun W => Below wa.heap.size wa W) (by kernel_rfl) (Below.drewN' wa 1) (fun hHeld => ?_)
            generalize wa.drew = wd at hHeld ⊢
            refine' wpAnyH_take (i := 0) (oi := { dst := some 85, op := Op.load 48 (Operand.tmp 9), type := 48, pos := "law.go:89", after := #[], guard := none }) (v := ?v1) rfl (by kernel_rfl) (by kernel_rfl) (by kernel_rfl) (fun _ _ _ h => h) (.inl ⟨by first | rfl | simp [Region.wanted, yielded], ?hy1⟩) (by assumption) ?rest1
            case hy1 => (intro W hW; obtain ⟨f1, f2, f3, f4, f5⟩ := HCP.out _ hW; have f6 := HCL.out _ hW; go_simp; try with_reducible rfl)
            simp only [Act.put, List.setIfInBounds_toArray, List.set_cons_zero, List.set_cons_succ]
            refine' wpAnyH_take (i := 1) (oi := { dst := some 86, op := Op.move (Operand.tmp 1), type := 44, pos := "law.go:89", after := #[], guard := none }) (v := ?v2) rfl (by kernel_rfl) (by kernel_rfl) (by kernel_rfl) (fun _ _ _ h => h) (.inl ⟨by first | rfl | simp [Region.wanted, yielded], ?hy2⟩) (by assumption) ?rest2
            case hy2 => (intro W hW; obtain ⟨f1, f2, f3, f4, f5⟩ := HCP.out _ hW; have f6 := HCL.out _ hW; go_simp; try with_reducible rfl)
            simp only [Act.put, List.setIfInBounds_toArray, List.set_cons_zero, List.set_cons_succ]
            refine' wpAnyH_take (i := 2) (oi := { dst := some 87, op := Op.move (Operand.tmp 11), type := 3, pos := "law.go:89", after := #[], guard := none }) (v := ?v3) rfl (by kernel_rfl) (by kernel_rfl) (by kernel_rfl) (fun _ _ _ h => h) (.inl ⟨by first | rfl | simp [Region.wanted, yielded], ?hy3⟩) (by assumption) ?rest3
            case hy3 => (intro W hW; obtain ⟨f1, f2, f3, f4, f5⟩ := HCP.out _ hW; have f6 := HCL.out _ hW; go_simp; try with_reducible rfl)
            simp only [Act.put, List.setIfInBounds_toArray, List.set_cons_zero, List.set_cons_succ]
            refine' wpAnyH_take (i := 3) (oi := { dst := some 88, op := Op.indexAddr 44 (Operand.tmp 86) (Operand.tmp 87), type := 0, pos := "law.go:89", after := #[{ on := 1, ground := Ground.data }, { on := 2, ground := Ground.data }], guard := none }) (v := ?v4) rfl (by kernel_rfl) (by kernel_rfl) (by kernel_rfl) (fun _ _ _ h => h) (.inl ⟨by first | rfl | simp [Region.wanted, yielded], ?hy4⟩) (by assumption) ?rest4
            case hy4 => (intro W hW; obtain ⟨f1, f2, f3, f4, f5⟩ := HCP.out _ hW; have f6 := HCL.out _ hW; go_simp; try with_reducible rfl)
            simp only [Act.put, List.setIfInBounds_toArray, List.set_cons_zero, List.set_cons_succ]
            refine' wpAnyH_take (i := 4) (oi := { dst := some 89, op := Op.load 22 (Operand.tmp 88), type := 22, pos := "law.go:89", after := #[{ on := 3, ground := Ground.data }], guard := none }) (v := ?v5) rfl (by kernel_rfl) (by kernel_rfl) (by kernel_rfl) (fun _ _ _ h => h) (.inl ⟨by first | rfl | simp [Region.wanted, yielded], ?hy5⟩) (by assumption) ?rest5
            case hy5 => (intro W hW; obtain ⟨f1, f2, f3, f4, f5⟩ := HCP.out _ hW; have f6 := HCL.out _ hW; go_simp; try with_reducible rfl)
            simp only [Act.put, List.setIfInBounds_toArray, List.set_cons_zero, List.set_cons_succ]
            refine wpAnyH_ready (rs := [5, 9]) (by kernel_rfl) (by simp) ?_
            refine AllReadyH.cons (o := { dst := some 90, op := Op.call { callee := Callee.value (Operand.func 18), args := #[Operand.tmp 85, Operand.tmp 89], argTypes := #[48, 22] }, type := 53, pos := "law.go:89", after := #[{ on := 0, ground := Ground.data }, { on := 4, ground := Ground.data }], guard := none }) rfl (fun K hK => ?_) (AllReadyH.cons (o := { dst := some 13, op := Op.alloc 48, type := 0, pos := "law.go:89", after := #[], guard := none }) rfl (fun K hK => ?_) (AllReadyH.nil))
            · try simp only [List.getElem_toArray, List.getElem_cons_succ, List.getElem_cons_zero]
              go_simp
              refine (HRW.out _ hHeld).mono ?_
              rintro e w4 ⟨a2, c3, R3, RS3, ra, rc, rfl, hRS3, hA4, hn4, hRT4, hrow4, hb4⟩
              have HRS3 := Lib.hid hRS3
              clear hRS3
              have HB4 := hHeld.trans (hb4.mono hHeld.size)
              have hs4 := hHeld.size
              refine hK.out _ _ HB4 (fun hHeld => ?_)
              clear hK K
              try simp only [Act.put, List.setIfInBounds_toArray, List.set_cons_zero, List.set_cons_succ]
              refine' wpAnyH_take (i := 6) (oi := { dst := some 84, op := Op.move (Operand.tmp 90), type := 53, pos := "law.go:89", after := #[{ on := 5, ground := Ground.data }], guard := none }) (v := ?v6) rfl (by kernel_rfl) (by kernel_rfl) (by kernel_rfl) (fun _ _ _ h => h) (.inl ⟨by first | rfl | simp [Region.wanted, yielded], ?hy6⟩) (by assumption) ?rest6
              case hy6 => (intro W hW; obtain ⟨f1, f2, f3, f4, f5⟩ := HCP.out _ hW; have f6 := HCL.out _ hW; go_simp; try with_reducible rfl)
              simp only [Act.put, List.setIfInBounds_toArray, List.set_cons_zero, List.set_cons_succ]
              refine' wpAnyH_take (i := 7) (oi := { dst := some 91, op := Op.extract (Operand.tmp 84) 0, type := 48, pos := "law.go:89", after := #[{ on := 6, ground := Ground.data }], guard := none }) (v := ?v7) rfl (by kernel_rfl) (by kernel_rfl) (by kernel_rfl) (fun _ _ _ h => h) (.inl ⟨by first | rfl | simp [Region.wanted, yielded], ?hy7⟩) (by assumption) ?rest7
              case hy7 => (intro W hW; obtain ⟨f1, f2, f3, f4, f5⟩ := HCP.out _ hW; have f6 := HCL.out _ hW; go_simp; try with_reducible rfl)
              simp only [Act.put, List.setIfInBounds_toArray, List.set_cons_zero, List.set_cons_succ]
              refine' wpAnyH_take (i := 8) (oi := { dst := some 92, op := Op.extract (Operand.tmp 84) 1, type := 28, pos := "law.go:89", after := #[{ on := 6, ground := Ground.data }, { on := 10, ground := Ground.gcOnly Departure.lateStores }], guard := none }) (v := ?v8) rfl (by kernel_rfl) (by kernel_rfl) (by kernel_rfl) (fun _ _ _ h => h) (.inl ⟨by first | rfl | simp [Region.wanted, yielded], ?hy8⟩) (by assumption) ?rest8
              case hy8 => (intro W hW; obtain ⟨f1, f2, f3, f4, f5⟩ := HCP.out _ hW; have f6 := HCL.out _ hW; go_simp; try with_reducible rfl)
              simp only [Act.put, List.setIfInBounds_toArray, List.set_cons_zero, List.set_cons_succ]
              refine wpAnyH_ready (rs := [9]) (by kernel_rfl) (by simp) ?_
              refine AllReadyH.cons (o := { dst := some 13, op := Op.alloc 48, type := 0, pos := "law.go:89", after := #[], guard := none }) rfl (fun K hK => ?_) (AllReadyH.nil)
              try simp only [List.getElem_toArray, List.getElem_cons_succ, List.getElem_cons_zero]
              go_simp
              obtain ⟨w5, hw5⟩ : ∃ W, W = w4.alloc (.cells #[.slice none 0 0, .int .i64 0, .string ⟨#[]⟩, .bool false, .bool false] 48) := ⟨_, rfl⟩
              obtain ⟨P3, hP3⟩ : ∃ P3, P3 = w4.heap.size := ⟨_, rfl⟩
              have hb5 : Below w4.heap.size w4 w5 := by rw [hw5]; exact (Below.refl _ w4).alloc (Nat.le_refl _) _
              have k5 : w5.heap[P3]? = some (.cells #[.slice none 0 0, .int .i64 0, .string ⟨#[]⟩, .bool false, .bool false] 48 (0, 0)) := by rw [hw5, hP3]; exact alloc_blk_new _ _
              have s5 : w5.heap.size = P3 + 1 := by rw [hw5, hP3]; simp
              have HB5 := hHeld.trans (hb5.mono hHeld.size)
              have hle : wa.heap.size ≤ P3 := by have := hHeld.size; omega
              rw [← hw5, ← hP3]
              have k6 := k5
              have hAx : Arg (fun k => wa.heap.size ≤ k ∧ k ≠ P3) w5 a2 WL WT := (hA4.mono (U := fun k => wa.heap.size ≤ k ∧ k ≠ P3) (fun k h1 h => ⟨by omega, by omega⟩)).below hb5
              have hRx : LRowS (fun k => k < wa.heap.size ∨ k = P3) w5 ra NL VS := (row_lrows hrow4 (fun k => k < wa.heap.size ∨ k = P3) (fun k hk => by rcases hk with hk | hk <;> omega)).below hb5
              clear hw5 hP3
              refine hK.out _ _ HB5 (fun hHeld => ?_)
              clear hK K
              try simp only [Act.put, List.setIfInBounds_toArray, List.set_cons_zero, List.set_cons_succ]
              refine wpAnyH_ready (rs := [10]) (by kernel_rfl) (by simp) ?_
              refine AllReadyH.cons (o := { dst := none, op := Op.store 48 (Operand.tmp 13) (Operand.tmp 91), type := 0, pos := "law.go:89", after := #[{ on := 9, ground := Ground.data }, { on := 7, ground := Ground.data }, { on := 5, ground := Ground.chain }, { on := 0, ground := Ground.phase }, { on := 1, ground := Ground.phase }, { on := 2, ground := Ground.phase }, { on := 3, ground := Ground.phase }, { on := 4, ground := Ground.phase }, { on := 5, ground := Ground.phase }, { on := 6, ground := Ground.phase }, { on := 7, ground := Ground.phase }, { on := 8, ground := Ground.textOnly Departure.lateStores }, { on := 9, ground := Ground.phase }], guard := none }) rfl (fun K hK => ?_) (AllReadyH.nil)
              try simp only [List.getElem_toArray, List.getElem_cons_succ, List.getElem_cons_zero]
              have q0 := cell_blk k6 0 (.slice none 0 0) rfl
              have fq0 := frozen_blk k6 0
              have q1 := cell_blk k6 1 (.int .i64 0) rfl
              have fq1 := frozen_blk k6 1
              have q2 := cell_blk k6 2 (.string ⟨#[]⟩) rfl
              have fq2 := frozen_blk k6 2
              have q3 := cell_blk k6 3 (.bool false) rfl
              have fq3 := frozen_blk k6 3
              have q4 := cell_blk k6 4 (.bool false) rfl
              have fq4 := frozen_blk k6 4
              have q9 := blk_lt k6
              have sz2 := hHeld.size
              go_simp
              have k7 := setCell_blk (setCell_blk (setCell_blk (setCell_blk (setCell_blk k6 0 (.slice a2 WL c3)) 1 (.int .i64 most)) 2 (.string RS3)) 3 (.bool bg2)) 4 (.bool cr2)
              have hAy := hAx.mod (lay5_mod _ P3 (.slice a2 WL c3) (.int .i64 most) (.string RS3) (.bool bg2) (.bool cr2)) (fun k hk => hk.2)
              have hRy := hRx.step ((lay5_mod _ P3 (.slice a2 WL c3) (.int .i64 most) (.string RS3) (.bool bg2) (.bool cr2)).mono (T := fun k => k < wa.heap.size ∨ k = P3) (fun k _ e => .inr e))
              have HB7 := (((((hHeld.setCell (p := ⟨P3, 0, none⟩) hle (.slice a2 WL c3)).setCell (p := ⟨P3, 1, none⟩) hle (.int .i64 most)).setCell (p := ⟨P3, 2, none⟩) hle (.string RS3)).setCell (p := ⟨P3, 3, none⟩) hle (.bool bg2)).setCell (p := ⟨P3, 4, none⟩) hle (.bool cr2))
              refine hK.out _ _ HB7 (fun hHeld => ?_)
              clear hK K
              try simp only [Act.put, List.setIfInBounds_toArray, List.set_cons_zero, List.set_cons_succ]
              refine' wpAnyH_take (i := 11) (oi := { dst := some 14, op := Op.assign (Operand.tmp 92), type := 28, pos := "law.go:89", after := #[{ on := 8, ground := Ground.data }, { on := 10, ground := Ground.chain }, { on := 0, ground := Ground.phase }, { on := 1, ground := Ground.phase }, { on := 2, ground := Ground.phase }, { on := 3, ground := Ground.phase }, { on := 4, ground := Ground.phase }, { on := 5, ground := Ground.phase }, { on := 6, ground := Ground.phase }, { on := 7, ground := Ground.phase }, { on := 8, ground := Ground.phase }, { on := 9, ground := Ground.phase }, { on := 10, ground := Ground.phase }], guard := none }) (v := ?v9) rfl (by kernel_rfl) (by kernel_rfl) (by kernel_rfl) (fun _ _ _ h => h) (.inl ⟨by first | rfl | simp [Region.wanted, yielded], ?hy9⟩) (by assumption) ?rest9
              case hy9 => (intro W hW; obtain ⟨f1, f2, f3, f4, f5⟩ := HCP.out _ hW; have f6 := HCL.out _ hW; go_simp; try with_reducible rfl)
              simp only [Act.put, List.setIfInBounds_toArray, List.set_cons_zero, List.set_cons_succ]
              refine wpAnyH_done (by kernel_rfl) ?_ _
              go_wp2
              go_meet
              exact ⟨P3, a2, c3, R3, RS3, ra, rc, rfl, rfl, HRS3.out, k7, hAy, hn4, hRT4, hRy, hle, HB7⟩
            · try simp only [List.getElem_toArray, List.getElem_cons_succ, List.getElem_cons_zero]
              go_simp
              obtain ⟨w5, hw5⟩ : ∃ W, W = wd.alloc (.cells #[.slice none 0 0, .int .i64 0, .string ⟨#[]⟩, .bool false, .bool false] 48) := ⟨_, rfl⟩
              obtain ⟨P3, hP3⟩ : ∃ P3, P3 = wd.heap.size := ⟨_, rfl⟩
              have hb5 : Below wd.heap.size wd w5 := by rw [hw5]; exact (Below.refl _ wd).alloc (Nat.le_refl _) _
              have k5 : w5.heap[P3]? = some (.cells #[.slice none 0 0, .int .i64 0, .string ⟨#[]⟩, .bool false, .bool false] 48 (0, 0)) := by rw [hw5, hP3]; exact alloc_blk_new _ _
              have s5 : w5.heap.size = P3 + 1 := by rw [hw5, hP3]; simp
              have HB5 := hHeld.trans (hb5.mono hHeld.size)
              have hle : wa.heap.size ≤ P3 := by have := hHeld.size; omega
              rw [← hw5, ← hP3]
              clear hw5 hP3
              refine hK.out _ _ HB5 (fun hHeld => ?_)
              clear hK K
              try simp only [Act.put, List.setIfInBounds_toArray, List.set_cons_zero, List.set_cons_succ]
              refine wpAnyH_ready (rs := [5]) (by kernel_rfl) (by simp) ?_
              refine AllReadyH.cons (o := { dst := some 90, op := Op.call { callee := Callee.value (Operand.func 18), args := #[Operand.tmp 85, Operand.tmp 89], argTypes := #[48, 22] }, type := 53, pos := "law.go:89", after := #[{ on := 0, ground := Ground.data }, { on := 4, ground := Ground.data }], guard := none }) rfl (fun K hK => ?_) (AllReadyH.nil)
              try simp only [List.getElem_toArray, List.getElem_cons_succ, List.getElem_cons_zero]
              go_simp
              refine (HRW.out _ hHeld).mono ?_
              rintro e w4 ⟨a2, c3, R3, RS3, ra, rc, rfl, hRS3, hA4, hn4, hRT4, hrow4, hb4⟩
              have HRS3 := Lib.hid hRS3
              clear hRS3
              have HB4 := hHeld.trans (hb4.mono hHeld.size)
              have hs4 := hHeld.size
              have k6 := (hb4.block P3 (blk_lt k5)).trans k5
              have hAx : Arg (fun k => wa.heap.size ≤ k ∧ k ≠ P3) w4 a2 WL WT := hA4.mono (fun k _ h => ⟨by omega, by omega⟩)
              have hRx : LRowS (fun k => k < wa.heap.size ∨ k = P3) w4 ra NL VS := row_lrows hrow4 _ (fun k hk => .inl (by rcases hk with hk | hk <;> omega))
              refine hK.out _ _ HB4 (fun hHeld => ?_)
              clear hK K
              try simp only [Act.put, List.setIfInBounds_toArray, List.set_cons_zero, List.set_cons_succ]
              refine' wpAnyH_take (i := 6) (oi := { dst := some 84, op := Op.move (Operand.tmp 90), type := 53, pos := "law.go:89", after := #[{ on := 5, ground := Ground.data }], guard := none }) (v := ?v10) rfl (by kernel_rfl) (by kernel_rfl) (by kernel_rfl) (fun _ _ _ h => h) (.inl ⟨by first | rfl | simp [Region.wanted, yielded], ?hy10⟩) (by assumption) ?rest10
              case hy10 => (intro W hW; obtain ⟨f1, f2, f3, f4, f5⟩ := HCP.out _ hW; have f6 := HCL.out _ hW; go_simp; try with_reducible rfl)
              simp only [Act.put, List.setIfInBounds_toArray, List.set_cons_zero, List.set_cons_succ]
              refine' wpAnyH_take (i := 7) (oi := { dst := some 91, op := Op.extract (Operand.tmp 84) 0, type := 48, pos := "law.go:89", after := #[{ on := 6, ground := Ground.data }], guard := none }) (v := ?v11) rfl (by kernel_rfl) (by kernel_rfl) (by kernel_rfl) (fun _ _ _ h => h) (.inl ⟨by first | rfl | simp [Region.wanted, yielded], ?hy11⟩) (by assumption) ?rest11
              case hy11 => (intro W hW; obtain ⟨f1, f2, f3, f4, f5⟩ := HCP.out _ hW; have f6 := HCL.out _ hW; go_simp; try with_reducible rfl)
              simp only [Act.put, List.setIfInBounds_toArray, List.set_cons_zero, List.set_cons_succ]
              refine' wpAnyH_take (i := 8) (oi := { dst := some 92, op := Op.extract (Operand.tmp 84) 1, type := 28, pos := "law.go:89", after := #[{ on := 6, ground := Ground.data }, { on := 10, ground := Ground.gcOnly Departure.lateStores }], guard := none }) (v := ?v12) rfl (by kernel_rfl) (by kernel_rfl) (by kernel_rfl) (fun _ _ _ h => h) (.inl ⟨by first | rfl | simp [Region.wanted, yielded], ?hy12⟩) (by assumption) ?rest12
              case hy12 => (intro W hW; obtain ⟨f1, f2, f3, f4, f5⟩ := HCP.out _ hW; have f6 := HCL.out _ hW; go_simp; try with_reducible rfl)
              simp only [Act.put, List.setIfInBounds_toArray, List.set_cons_zero, List.set_cons_succ]
              refine wpAnyH_ready (rs := [10]) (by kernel_rfl) (by simp) ?_
              refine AllReadyH.cons (o := { dst := none, op := Op.store 48 (Operand.tmp 13) (Operand.tmp 91), type := 0, pos := "law.go:89", after := #[{ on := 9, ground := Ground.data }, { on := 7, ground := Ground.data }, { on := 5, ground := Ground.chain }, { on := 0, ground := Ground.phase }, { on := 1, ground := Ground.phase }, { on := 2, ground := Ground.phase }, { on := 3, ground := Ground.phase }, { on := 4, ground := Ground.phase }, { on := 5, ground := Ground.phase }, { on := 6, ground := Ground.phase }, { on := 7, ground := Ground.phase }, { on := 8, ground := Ground.textOnly Departure.lateStores }, { on := 9, ground := Ground.phase }], guard := none }) rfl (fun K hK => ?_) (AllReadyH.nil)
              try simp only [List.getElem_toArray, List.getElem_cons_succ, List.getElem_cons_zero]
              have q0 := cell_blk k6 0 (.slice none 0 0) rfl
              have fq0 := frozen_blk k6 0
              have q1 := cell_blk k6 1 (.int .i64 0) rfl
              have fq1 := frozen_blk k6 1
              have q2 := cell_blk k6 2 (.string ⟨#[]⟩) rfl
              have fq2 := frozen_blk k6 2
              have q3 := cell_blk k6 3 (.bool false) rfl
              have fq3 := frozen_blk k6 3
              have q4 := cell_blk k6 4 (.bool false) rfl
              have fq4 := frozen_blk k6 4
              have q9 := blk_lt k6
              have sz2 := hHeld.size
              go_simp
              have k7 := setCell_blk (setCell_blk (setCell_blk (setCell_blk (setCell_blk k6 0 (.slice a2 WL c3)) 1 (.int .i64 most)) 2 (.string RS3)) 3 (.bool bg2)) 4 (.bool cr2)
              have hAy := hAx.mod (lay5_mod _ P3 (.slice a2 WL c3) (.int .i64 most) (.string RS3) (.bool bg2) (.bool cr2)) (fun k hk => hk.2)
              have hRy := hRx.step ((lay5_mod _ P3 (.slice a2 WL c3) (.int .i64 most) (.string RS3) (.bool bg2) (.bool cr2)).mono (T := fun k => k < wa.heap.size ∨ k = P3) (fun k _ e => .inr e))
              have HB7 := (((((hHeld.setCell (p := ⟨P3, 0, none⟩) hle (.slice a2 WL c3)).setCell (p := ⟨P3, 1, none⟩) hle (.int .i64 most)).setCell (p := ⟨P3, 2, none⟩) hle (.string RS3)).setCell (p := ⟨P3, 3, none⟩) hle (.bool bg2)).setCell (p := ⟨P3, 4, none⟩) hle (.bool cr2))
              refine hK.out _ _ HB7 (fun hHeld => ?_)
              clear hK K
              try simp only [Act.put, List.setIfInBounds_toArray, List.set_cons_zero, List.set_cons_succ]
              refine' wpAnyH_take (i := 11) (oi := { dst := some 14, op := Op.assign (Operand.tmp 92), type := 28, pos := "law.go:89", after := #[{ on := 8, ground := Ground.data }, { on := 10, ground := Ground.chain }, { on := 0, ground := Ground.phase }, { on := 1, ground := Ground.phase }, { on := 2, ground := Ground.phase }, { on := 3, ground := Ground.phase }, { on := 4, ground := Ground.phase }, { on := 5, ground := Ground.phase }, { on := 6, ground := Ground.phase }, { on := 7, ground := Ground.phase }, { on := 8, ground := Ground.phase }, { on := 9, ground := Ground.phase }, { on := 10, ground := Ground.phase }], guard := none }) (v := ?v13) rfl (by kernel_rfl) (by kernel_rfl) (by kernel_rfl) (fun _ _ _ h => h) (.inl ⟨by first | rfl | simp [Region.wanted, yielded], ?hy13⟩) (by assumption) ?rest13
              case hy13 => (intro W hW; obtain ⟨f1, f2, f3, f4, f5⟩ := HCP.out _ hW; have f6 := HCL.out _ hW; go_simp; try with_reducible rfl)
              simp only [Act.put, List.setIfInBounds_toArray, List.set_cons_zero, List.set_cons_succ]
              refine wpAnyH_done (by kernel_rfl) ?_ _
              go_wp2
              go_meet
              exact ⟨P3, a2, c3, R3, RS3, ra, rc, rfl, rfl, HRS3.out, k7, hAy, hn4, hRT4, hRy, hle, HB7⟩
          case rest =>
            obtain ⟨P3, a2, c3, R3, RS3, ra, rc, rfl, rfl, hRS3, k3, hA3, hn3, hRT3, hrow3, hP3, hb⟩ := hcut
            obtain ⟨wb, hwb⟩ : ∃ W, W = wc := ⟨_, rfl⟩
            subst hwb
            have HT4 := Lib.hid (HT3.out.grow hb)
            have HSab : Hid (wa.heap.size ≤ wb.heap.size) := Lib.hid hb.size
            have HPa : Hid (P < wa.heap.size ∧ p' < wa.heap.size ∧ D' < wa.heap.size ∧ wa.heap.size ≤ P3) := Lib.hid ⟨blk_lt HT3.out.box, HT3.out.ls.lt, HT3.out.ls.lt2, hP3⟩
            have K3 := Lib.hid k3
            have HA3 : Hid (Arg (fun k => (wa.heap.size ≤ k ∧ k < wb.heap.size) ∧ k ≠ P3) wb a2 WL WT) := Lib.hid (hA3.mono fun k h1 h2 => ⟨⟨h2.1, h1⟩, h2.2⟩)
            have HN3 := Lib.hid hn3
            have HRT3 := Lib.hid hRT3
            have HROW3 := Lib.hid hrow3
            have HRS3 := Lib.hid hRS3
            have hbz : Arg (fun k => k < w.heap.size) wb z.a m z.xs := by
              have := HOk.out.arg.below HT4.out.ls.below
              rw [← HM.out] at this
              exact this
            have hWr := Write_ls HT4.out.ls z.a m z.c hbz (by rw [HM.out]; exact HOk.out.nn) HOk.out.by_ (by omega)
            simp only [HRUN.out, tolds_lv] at hWr
            rw [← HNL.out, ← HVS.out, ← HWT.out] at hWr
            have HW := Lib.hid hWr
            obtain ⟨y3, y4⟩ := HLc.out wb HT4.out.ls.below
            clear k3 hA3 hn3 hRT3 hrow3 hRS3 hP3 hb hbz hWr HT3 HRW HCP HCL
            go_wp2_with (go_at_call 8; fail)
            refine HW.out.mono ?_
            rintro e w2 ⟨ra2, rc2, rfl, hr2, hls2, hm2⟩
            have hPa := HPa.out
            have hsab := HSab.out
            have hk3 := (hm2.block P3 (blk_lt K3.out) (fun e => by omega)).trans K3.out
            have hA2 := HA3.out.mod hm2 (fun k hk e => by omega)
            have hbx := (HT4.out.stay hm2).1
            obtain ⟨w3, hw3⟩ : ∃ W, W = lay5 w2 P (.slice a2 WL c3) (.int .i64 most) (.string RS3) (.bool bg2) (.bool cr2) := ⟨_, rfl⟩
            have hm3 : Mod (fun k => k = P) w2 w3 := by rw [hw3]; exact lay5_mod _ _ _ _ _ _ _
            have hbx3 : w3.heap[P]? = some (.cells #[.slice a2 WL c3, .int .i64 most, .string RS3, .bool bg2, .bool cr2] 48 (0, 0)) := by rw [hw3]; exact lay5_blk hbx _ _ _ _ _
            have hA33 := hA2.mod hm3 (fun k hk e => by omega)
            have hls3 := hls2.turn (hm3.mono (T := More K2 wa wb) (fun k _ e => e ▸ HT4.out.kp)) HT4.out.klo
            have hro1 : LRow w3 ra NL VS := ((HROW3.out.step (hm2.mono (T := fun k => k < wa.heap.size ∨ k = P3) (fun k _ e => .inl (by omega)))).step (hm3.mono (T := fun k => k < wa.heap.size ∨ k = P3) (fun k _ e => .inl (by omega)))).now
            have hro2 : LRow w3 ra2 NL VS := ((row_lrows hr2 (fun k => k = P) (fun k e => .inl (by omega))).step hm3).now
            have h7 : Lt w P (More (More K2 wa wb) w2 w3) p' D' most WT (L2, bg2, cr2) R3 a2 c3 w3 := ⟨hls3, .inl HT4.out.kp, fun k hk => by
                rcases hk with hk | hk
                · exact HT4.out.klo k hk
                · have := hls2.below.size; omega, by rw [← HWL.out, ← HRS3.out]; exact hbx3, HRT3.out, by rw [← HWL.out]; exact hA33.mono (fun k _ hk => ⟨.inl (.inr hk.1), by omega⟩), by rw [← HWL.out]; exact HN3.out⟩
            obtain ⟨⟨ts, tb⟩, ht⟩ : ∃ x, toldL most L2 = x := ⟨_, rfl⟩
            have HSm : Hid (∀ W, Below w3.heap.size w3 W → Calls Try.prog 11 #[.slice ra NL rc, .slice ra2 NL rc2] W fun e w' => e = .returned (.bool true) ∧ Below W.heap.size W w') := Lib.hid fun W hW => (Same_any ra ra2 NL NL rc rc2 VS VS W (hro1.below hW) (hro2.below hW) (by omega) true (by simp)).mono fun e w' h => by
              obtain ⟨h1, q, rfl⟩ := h
              exact ⟨h1, Below.drewN' W q⟩
            have HWa : Hid (∀ W, Below w3.heap.size w3 W → Calls Try.prog 19 #[.pointer (some ⟨p', 0, none⟩)] W fun e w' => e = .returned (.agg #[.string ts, .bool tb]) ∧ Below W.heap.size W w') := Lib.hid fun W hW => (Waits_ls (h7.ls.grow hW)).mono fun e w' h => by
              simp only [toldV_lv, ht] at h
              exact h
            have HRa : Hid (∀ W, Below w3.heap.size w3 W → Calls Try.prog 20 #[.agg #[.slice a2 WL c3, .int .i64 most, .string RS3, .bool bg2, .bool cr2]] W fun e w' => e = .returned (.agg #[.string ts, .bool tb]) ∧ Below W.heap.size W w') := Lib.hid fun W hW => (refWaits_any a2 WL c3 most R3 RS3 HRS3.out bg2 cr2 W).mono fun e w' h => by
              rw [HRT3.out.told, ht] at h
              exact h
            have HCP2 : Hid (∀ W, Below w3.heap.size w3 W → W.cell? ⟨P, 0, none⟩ = some (.slice a2 WL c3) ∧ W.cell? ⟨P, 1, none⟩ = some (.int .i64 most) ∧ W.cell? ⟨P, 2, none⟩ = some (.string RS3) ∧ W.cell? ⟨P, 3, none⟩ = some (.bool bg2) ∧ W.cell? ⟨P, 4, none⟩ = some (.bool cr2)) := Lib.hid fun W hW => by
              have k := (hW.block _ (blk_lt hbx3)).trans hbx3
              exact ⟨cell_blk k 0 _ rfl, cell_blk k 1 _ rfl, cell_blk k 2 _ rfl, cell_blk k 3 _ rfl, cell_blk k 4 _ rfl⟩
            have hlv : lvNe ts ts tb tb = false := by simp [lvNe]
            have H7 := Lib.hid h7
            have E3 := Lib.hid hw3
            unfold lay5 at E3
            have u0 := cell_blk hk3 0 (.slice a2 WL c3) rfl
            have u1 := cell_blk hk3 1 (.int .i64 most) rfl
            have u2 := cell_blk hk3 2 (.string RS3) rfl
            have u3 := cell_blk hk3 3 (.bool bg2) rfl
            have u4 := cell_blk hk3 4 (.bool cr2) rfl
            have ul := blk_lt hk3
            have p0 := cell_blk hbx 0 _ rfl
            have p1 := cell_blk hbx 1 _ rfl
            have p2 := cell_blk hbx 2 _ rfl
            have p3 := cell_blk hbx 3 _ rfl
            have p4 := cell_blk hbx 4 _ rfl
            have g0 := frozen_blk hbx 0
            have g1 := frozen_blk hbx 1
            have g2 := frozen_blk hbx 2
            have g3 := frozen_blk hbx 3
            have g4 := frozen_blk hbx 4
            have pl := blk_lt hbx
            clear hk3 hA2 hbx hw3 hm3 hbx3 hA33 hls3 hro1 hro2 h7 ht hr2 hls2 hm2 HW HT4 HA3 HROW3 K3 hPa hsab
            go_upto_region 23 with fail
            rw [← E3.out]
            clear u0 u1 u2 u3 u4 ul p0 p1 p2 p3 p4 g0 g1 g2 g3 g4 pl E3
            refine wp_region_held_drew (S := fun W => Below w3.heap.size w3 W) (by kernel_rfl) (Below.drewN' w3 1) (fun hHeld => ?_)
            generalize w3.drew = wd at hHeld ⊢
            refine' wpAnyH_take (i := 0) (oi := { dst := some 103, op := Op.move (Operand.tmp 14), type := 28, pos := "law.go:92", after := #[], guard := none }) (v := ?v1001) rfl (by kernel_rfl) (by kernel_rfl) (by kernel_rfl) (fun _ _ _ h => h) (.inl ⟨by first | rfl | simp [Region.wanted, yielded], ?hy1001⟩) (by assumption) ?rest1001
            case hy1001 => (intro W hW; obtain ⟨f1, f2, f3, f4, f5⟩ := HCP2.out _ hW; go_simp; try with_reducible rfl)
            simp only [Act.put, List.setIfInBounds_toArray, List.set_cons_zero, List.set_cons_succ]
            refine' wpAnyH_take (i := 1) (oi := { dst := some 104, op := Op.move (Operand.tmp 15), type := 28, pos := "law.go:92", after := #[], guard := none }) (v := ?v1002) rfl (by kernel_rfl) (by kernel_rfl) (by kernel_rfl) (fun _ _ _ h => h) (.inl ⟨by first | rfl | simp [Region.wanted, yielded], ?hy1002⟩) (by assumption) ?rest1002
            case hy1002 => (intro W hW; obtain ⟨f1, f2, f3, f4, f5⟩ := HCP2.out _ hW; go_simp; try with_reducible rfl)
            simp only [Act.put, List.setIfInBounds_toArray, List.set_cons_zero, List.set_cons_succ]
            refine wpAnyH_ready (rs := [2]) (by kernel_rfl) (by simp) ?_
            refine AllReadyH.cons (o := { dst := some 105, op := Op.call { callee := Callee.value (Operand.func 11), args := #[Operand.tmp 103, Operand.tmp 104], argTypes := #[28, 28] }, type := 4, pos := "law.go:92", after := #[{ on := 0, ground := Ground.data }, { on := 1, ground := Ground.data }], guard := none }) rfl (fun K hK => ?_) (AllReadyH.nil)
            try simp only [List.getElem_toArray, List.getElem_cons_succ, List.getElem_cons_zero]
            go_simp
            refine (HSm.out _ hHeld).mono ?_
            rintro e w5 ⟨rfl, hb5⟩
            have HB5 := hHeld.trans (hb5.mono hHeld.size)
            refine hK.out _ _ HB5 (fun hHeld => ?_)
            clear hK K
            try simp only [Act.put, List.setIfInBounds_toArray, List.set_cons_zero, List.set_cons_succ]
            refine' wpAnyH_take (i := 3) (oi := { dst := some 106, op := Op.unOp UnOp.not 4 (Operand.tmp 105), type := 4, pos := "law.go:92", after := #[{ on := 2, ground := Ground.data }], guard := none }) (v := ?v1003) rfl (by kernel_rfl) (by kernel_rfl) (by kernel_rfl) (fun _ _ _ h => h) (.inl ⟨by first | rfl | simp [Region.wanted, yielded], ?hy1003⟩) (by assumption) ?rest1003
            case hy1003 => (intro W hW; obtain ⟨f1, f2, f3, f4, f5⟩ := HCP2.out _ hW; go_simp; try with_reducible rfl)
            simp only [Act.put, List.setIfInBounds_toArray, List.set_cons_zero, List.set_cons_succ]
            refine' wpAnyH_take (i := 4) (oi := { dst := some 107, op := Op.move (Operand.tmp 106), type := 4, pos := "law.go:92", after := #[{ on := 3, ground := Ground.data }, { on := 2, ground := Ground.chain }], guard := none }) (v := ?v1004) rfl (by kernel_rfl) (by kernel_rfl) (by kernel_rfl) (fun _ _ _ h => h) (.inl ⟨by first | rfl | simp [Region.wanted, yielded], ?hy1004⟩) (by assumption) ?rest1004
            case hy1004 => (intro W hW; obtain ⟨f1, f2, f3, f4, f5⟩ := HCP2.out _ hW; go_simp; try with_reducible rfl)
            simp only [Act.put, List.setIfInBounds_toArray, List.set_cons_zero, List.set_cons_succ]
            refine' wpAnyH_take (i := 5) (oi := { dst := some 108, op := Op.move (Operand.tmp 16), type := 25, pos := "law.go:92", after := #[{ on := 4, ground := Ground.guard }], guard := some (4, false) }) (v := ?v1005) rfl (by kernel_rfl) (by kernel_rfl) (by kernel_rfl) (fun _ _ _ h => h) (.inl ⟨by first | rfl | simp [Region.wanted, yielded], ?hy1005⟩) (by assumption) ?rest1005
            case hy1005 => (intro W hW; obtain ⟨f1, f2, f3, f4, f5⟩ := HCP2.out _ hW; go_simp; try with_reducible rfl)
            simp only [Act.put, List.setIfInBounds_toArray, List.set_cons_zero, List.set_cons_succ]
            refine wpAnyH_ready (rs := [6]) (by kernel_rfl) (by simp) ?_
            refine AllReadyH.cons (o := { dst := some 109, op := Op.call { callee := Callee.value (Operand.func 9), args := #[Operand.tmp 108], argTypes := #[25] }, type := 3, pos := "law.go:92", after := #[{ on := 5, ground := Ground.data }, { on := 4, ground := Ground.chain }, { on := 4, ground := Ground.guard }], guard := some (4, false) }) rfl (fun K hK => ?_) (AllReadyH.nil)
            try simp only [List.getElem_toArray, List.getElem_cons_succ, List.getElem_cons_zero]
            go_simp
            refine (HNum.out _ _).mono ?_
            rintro e w6 ⟨rfl, rfl⟩
            refine hK.out _ _ hHeld (fun hHeld => ?_)
            clear hK K
            try simp only [Act.put, List.setIfInBounds_toArray, List.set_cons_zero, List.set_cons_succ]
            refine' wpAnyH_take (i := 7) (oi := { dst := some 110, op := Op.binOp BinOp.neq 3 (Operand.tmp 109) (Operand.const (Value.int IntKind.i64 0)) 3, type := 4, pos := "law.go:92", after := #[{ on := 6, ground := Ground.data }, { on := 4, ground := Ground.guard }], guard := some (4, false) }) (v := ?v1006) rfl (by kernel_rfl) (by kernel_rfl) (by kernel_rfl) (fun _ _ _ h => h) (.inl ⟨by first | rfl | simp [Region.wanted, yielded], ?hy1006⟩) (by assumption) ?rest1006
            case hy1006 => (intro W hW; obtain ⟨f1, f2, f3, f4, f5⟩ := HCP2.out _ hW; go_simp; try with_reducible rfl)
            simp only [Act.put, List.setIfInBounds_toArray, List.set_cons_zero, List.set_cons_succ]
            refine' wpAnyH_take (i := 8) (oi := { dst := some 111, op := Op.pick (Operand.tmp 107) (Operand.const (Value.bool true)) (Operand.tmp 110), type := 4, pos := "law.go:92", after := #[{ on := 4, ground := Ground.data }, { on := 7, ground := Ground.data }], guard := none }) (v := ?v1007) rfl (by kernel_rfl) (by kernel_rfl) (by kernel_rfl) (fun _ _ _ h => h) (.inl ⟨by first | rfl | simp [Region.wanted, yielded], ?hy1007⟩) (by assumption) ?rest1007
            case hy1007 => (intro W hW; obtain ⟨f1, f2, f3, f4, f5⟩ := HCP2.out _ hW; go_simp; try with_reducible rfl)
            simp only [Act.put, List.setIfInBounds_toArray, List.set_cons_zero, List.set_cons_succ]
            refine' wpAnyH_take (i := 9) (oi := { dst := some 112, op := Op.move (Operand.tmp 111), type := 4, pos := "law.go:92", after := #[{ on := 8, ground := Ground.data }, { on := 6, ground := Ground.chain }], guard := none }) (v := ?v1008) rfl (by kernel_rfl) (by kernel_rfl) (by kernel_rfl) (fun _ _ _ h => h) (.inl ⟨by first | rfl | simp [Region.wanted, yielded], ?hy1008⟩) (by assumption) ?rest1008
            case hy1008 => (intro W hW; obtain ⟨f1, f2, f3, f4, f5⟩ := HCP2.out _ hW; go_simp; try with_reducible rfl)
            simp only [Act.put, List.setIfInBounds_toArray, List.set_cons_zero, List.set_cons_succ]
            refine' wpAnyH_take (i := 10) (oi := { dst := some 113, op := Op.move (Operand.tmp 7), type := 24, pos := "law.go:92", after := #[{ on := 9, ground := Ground.guard }], guard := some (9, false) }) (v := ?v1009) rfl (by kernel_rfl) (by kernel_rfl) (by kernel_rfl) (fun _ _ _ h => h) (.inl ⟨by first | rfl | simp [Region.wanted, yielded], ?hy1009⟩) (by assumption) ?rest1009
            case hy1009 => (intro W hW; obtain ⟨f1, f2, f3, f4, f5⟩ := HCP2.out _ hW; go_simp; try with_reducible rfl)
            simp only [Act.put, List.setIfInBounds_toArray, List.set_cons_zero, List.set_cons_succ]
            refine' wpAnyH_take (i := 12) (oi := { dst := some 115, op := Op.load 48 (Operand.tmp 9), type := 48, pos := "law.go:92", after := #[{ on := 9, ground := Ground.guard }], guard := some (9, false) }) (v := ?v1010) rfl (by kernel_rfl) (by kernel_rfl) (by kernel_rfl) (fun _ _ _ h => h) (.inl ⟨by first | rfl | simp [Region.wanted, yielded], ?hy1010⟩) (by assumption) ?rest1010
            case hy1010 => (intro W hW; obtain ⟨f1, f2, f3, f4, f5⟩ := HCP2.out _ hW; go_simp; try with_reducible rfl)
            simp only [Act.put, List.setIfInBounds_toArray, List.set_cons_zero, List.set_cons_succ]
            refine wpAnyH_ready (rs := [11]) (by kernel_rfl) (by simp) ?_
            refine AllReadyH.cons (o := { dst := some 114, op := Op.call { callee := Callee.value (Operand.func 19), args := #[Operand.tmp 113], argTypes := #[24] }, type := 35, pos := "law.go:92", after := #[{ on := 10, ground := Ground.data }, { on := 9, ground := Ground.chain }, { on := 9, ground := Ground.guard }], guard := some (9, false) }) rfl (fun K hK => ?_) (AllReadyH.nil)
            try simp only [List.getElem_toArray, List.getElem_cons_succ, List.getElem_cons_zero]
            go_simp
            refine (HWa.out _ hHeld).mono ?_
            rintro e w7 ⟨rfl, hb7⟩
            have HB7 := hHeld.trans (hb7.mono hHeld.size)
            refine hK.out _ _ HB7 (fun hHeld => ?_)
            clear hK K
            try simp only [Act.put, List.setIfInBounds_toArray, List.set_cons_zero, List.set_cons_succ]
            refine wpAnyH_ready (rs := [13]) (by kernel_rfl) (by simp) ?_
            refine AllReadyH.cons (o := { dst := some 116, op := Op.call { callee := Callee.value (Operand.func 20), args := #[Operand.tmp 115], argTypes := #[48] }, type := 35, pos := "law.go:92", after := #[{ on := 12, ground := Ground.data }, { on := 11, ground := Ground.chain }, { on := 9, ground := Ground.guard }], guard := some (9, false) }) rfl (fun K hK => ?_) (AllReadyH.nil)
            try simp only [List.getElem_toArray, List.getElem_cons_succ, List.getElem_cons_zero]
            go_simp
            refine (HRa.out _ hHeld).mono ?_
            rintro e w8 ⟨rfl, hb8⟩
            have HB8 := hHeld.trans (hb8.mono hHeld.size)
            refine hK.out _ _ HB8 (fun hHeld => ?_)
            clear hK K
            try simp only [Act.put, List.setIfInBounds_toArray, List.set_cons_zero, List.set_cons_succ]
            refine' wpAnyH_take (i := 14) (oi := { dst := some 117, op := Op.binOp BinOp.neq 35 (Operand.tmp 114) (Operand.tmp 116) 35, type := 4, pos := "law.go:92", after := #[{ on := 11, ground := Ground.data }, { on := 13, ground := Ground.data }, { on := 9, ground := Ground.guard }], guard := some (9, false) }) (v := ?v1011) rfl (by kernel_rfl) (by kernel_rfl) (by kernel_rfl) (fun _ _ _ h => h) (.inl ⟨by first | rfl | simp [Region.wanted, yielded], ?hy1011⟩) (by assumption) ?rest1011
            case hy1011 => (intro W hW; obtain ⟨f1, f2, f3, f4, f5⟩ := HCP2.out _ hW; go_simp; try with_reducible rfl)
            simp only [Act.put, List.setIfInBounds_toArray, List.set_cons_zero, List.set_cons_succ]
            refine' wpAnyH_take (i := 15) (oi := { dst := some 118, op := Op.pick (Operand.tmp 112) (Operand.const (Value.bool true)) (Operand.tmp 117), type := 4, pos := "law.go:92", after := #[{ on := 9, ground := Ground.data }, { on := 14, ground := Ground.data }], guard := none }) (v := ?v1012) rfl (by kernel_rfl) (by kernel_rfl) (by kernel_rfl) (fun _ _ _ h => h) (.inl ⟨by first | rfl | simp [Region.wanted, yielded], ?hy1012⟩) (by assumption) ?rest1012
            case hy1012 => (intro W hW; obtain ⟨f1, f2, f3, f4, f5⟩ := HCP2.out _ hW; go_simp; try with_reducible rfl)
            simp only [Act.put, List.setIfInBounds_toArray, List.set_cons_zero, List.set_cons_succ]
            refine wpAnyH_done (by kernel_rfl) ?_ _
            go_wp2
            go_roundg (n - (i + 1))
            case measure => have := HG.out; omega
            case rel => exact ⟨i + 1, p', D', _, WT, _, R3, a2, c3, rfl, by go_num, by omega, rfl, H7.out.grow hHeld⟩
    · obtain rfl : i = n := by omega
      have HB := Lib.hid HT.out.ls.below
      have l1 : decide (i < i) = false := by simp
      have l2 : decide ((i : Int) < i) = false := by simp
      clear HT HG
      go_upto_if 119 with fail
      go_cut [17] from 119 to 121 (fun v17 wx => ∃ ax : Option Addr, v17 = .pointer ax ∧ NoS wx (.pointer ax) ∧ Below w.heap.size w wx)
      case first =>
        cases zero with
        | false =>
          go_wp2
          go_meet
          exact ⟨none, rfl, .inl rfl, HB.out⟩
        | true =>
          go_wp2
          go_meet
          exact ⟨_, rfl, .inr ⟨wr.heap.size, rfl, cell_blk (alloc_blk_new wr _) 1 (.int .i64 0) rfl, by simp⟩, HB.out.alloc HB.out.size _⟩
      case rest =>
        obtain ⟨ax, rfl, hno, hbc⟩ := hcut
        have HBc := Lib.hid hbc
        have H1 := Lib.hid (Write_no (.pointer ax) (.slice none 0 0) wc hno)
        have H2 := Lib.hid (Reset_no (.pointer ax) wc hno)
        have H3 := Lib.hid (Waits_no (.pointer ax) wc hno)
        have HNo := Lib.hid hno
        have el : lvEq ⟨#[]⟩ ⟨#[]⟩ false false = true := by decide +kernel
        clear hno hbc HB
        go_wp2_with (first
          | (go_at_call 8; refine H1.out.mono ?_; rintro e w' ⟨rfl, rfl⟩)
          | (go_at_call 16; refine H2.out.mono ?_; rintro e w' ⟨rfl, rfl⟩)
          | (go_at_call 9; refine (HNum.out _ _).mono ?_; rintro e w' ⟨rfl, rfl⟩)
          | (go_at_call 19; fail))
        refine H3.out.mono ?_
        rintro e w5 ⟨rfl, hb5⟩
        have H4 := Lib.hid (Copy_no (.pointer ax) w5 (HNo.out.below hb5))
        have HB5 := Lib.hid (HBc.out.trans (hb5.mono HBc.out.size))
        clear hb5 H1 H2 H3 HNo
        go_wp2_with (first
          | (go_at_call 17; refine H4.out.mono ?_; rintro e w' ⟨rfl, rfl⟩)
          | (go_at_call 6; fail))
        refine (HWk.out _).mono ?_
        rintro e w9 ⟨rfl, hb9⟩
        have HB9 := Lib.hid (HB5.out.trans (hb9.mono HB5.out.size))
        clear hb9
        go_wp2
        go_ret
        exact ⟨rfl, HB9.out⟩
end Go.Proofs.Ytfkfooclapogjaa
