/-
  The document's splitter: Write.
-/
import Derived.Test.YtfkfooclapogjaaXa
namespace Go.Proofs.Ytfkfooclapogjaa
open Go.RowKit
set_option linter.unusedVariables false
set_option linter.unusedSimpArgs false

theorem allP_enc {ps : List Int} (h : ∀ p ∈ ps, Pt p) : (allP (enc ps)).map (·.2) = ps := by
  rw [allP_pts]
  unfold ofP
  rw [(pts_enc ps h).1, (pts_enc ps h).2]
  simp
theorem runP_one (s : Ss) (p : Int) : runP s [p] = stepP s p := by simp [runP]

set_option maxHeartbeats 12800000 in
set_option maxRecDepth 100000 in
theorem refWrite_ls {T U : Nat → Prop} (da : Option Addr) (dn dc : Nat) (ds : List Int) (most : Nat) (L R : List Int) (bg cr : Bool) (bo : Option Addr) (m c : Nat) (bs : List Int) (w : World) (hd : Arg T w da dn ds) (hdn : da = none → dn = 0 ∧ dc = 0) (hb : Arg U w bo m bs) (hbn : bo = none → m = 0 ∧ c = 0) (hyd : Byt ds) (hyb : Byt bs)
    (hl3 : dn ≤ 3) (hm : m ≤ 1000) (hR : RT most L R) (hc : bg = false → cr = false) (hmo : most ≤ 65536) (Ls : List (List Int)) (L' : List Int) (bg' cr' : Bool) (hr : runP (L, bg, cr) (pts (ds ++ bs)) = (Ls, (L', bg', cr'))) :
    Calls Try.prog 18 #[rsV da dn dc most (strOfNums R) bg cr, .slice bo m c] w fun e w' => ∃ (a : Option Addr) (n' c' : Nat) (R' : List Int) (ra : Option Addr) (rc : Nat), e = .returned (.tuple #[rsV a n' c' most (strOfNums R') bg' cr', .slice ra Ls.length rc]) ∧ Arg (fun k => w.heap.size ≤ k) w' a n' (wts (ds ++ bs)) ∧ (a = none → n' = 0 ∧ c' = 0) ∧ RT most L' R' ∧
      w'.ownsRow w.heap.size 35 2 (.slice ra Ls.length rc) Ls.length (lvs (Ls.map (toldL most))) ∧ Below w.heap.size w w' := by
  obtain ⟨i0, hi0, hz0, hz1, hz2⟩ := info_parts Try.info35
  obtain ⟨X, hX⟩ : ∃ X, X = w.heap.size := ⟨_, rfl⟩
  obtain ⟨RS, hRS⟩ : ∃ s, s = strOfNums R := ⟨_, rfl⟩
  rw [← hRS]
  unfold rsV
  obtain ⟨w1, hw1⟩ : ∃ W, W = w.alloc (.cells #[.slice da dn dc, .int .i64 most, .string RS, .bool bg, .bool cr] 48) := ⟨_, rfl⟩
  obtain ⟨w2, hw2⟩ : ∃ W, W = w1.alloc (.cells #[.slice none 0 0, .int .i64 0, .string ⟨#[]⟩, .bool false, .bool false] 48) := ⟨_, rfl⟩
  have s1 : w1.heap.size = X + 1 := by rw [hw1, hX]; simp
  have b1 : Below w.heap.size w w1 := by rw [hw1]; exact (Below.refl _ w).alloc (Nat.le_refl _) _
  have b2 : Below w.heap.size w w2 := by rw [hw2]; exact b1.alloc b1.size _
  have k1 : w1.heap[X]? = some (.cells #[.slice da dn dc, .int .i64 most, .string RS, .bool bg, .bool cr] 48 (0, 0)) := by rw [hw1, hX]; exact alloc_blk_new _ _
  have k1' : w2.heap[X]? = some (.cells #[.slice da dn dc, .int .i64 most, .string RS, .bool bg, .bool cr] 48 (0, 0)) := by rw [hw2]; exact alloc_blk k1 _
  have k2 : w2.heap[X + 1]? = some (.cells #[.slice none 0 0, .int .i64 0, .string ⟨#[]⟩, .bool false, .bool false] 48 (0, 0)) := by rw [hw2, ← s1]; exact alloc_blk_new _ _
  have HW := Lib.hid (refWrite_any da dn dc ds bo m c bs w2 (hd.below b2) hdn (hb.below b2) hbn hyd hyb (by omega))
  obtain ⟨ps, hps⟩ : ∃ l, l = pts (ds ++ bs) := ⟨_, rfl⟩
  have hpt : ∀ q ∈ ps, Pt q := by rw [hps]; exact pts_pt _ (fun x hx => by rcases List.mem_append.1 hx with e | e; exact hyd x e; exact hyb x e)
  have hpl : (enc ps).length ≤ 5000 ∧ ps.length ≤ 1100 := by
    have h1 := enc_len ps
    have h2 := pts_len (ds ++ bs)
    have h3 := hd.1
    have h4 := hb.1
    rw [List.length_append] at h2
    rw [← hps] at h2
    omega
  rw [← hps] at HW hr
  obtain ⟨TX, hTX⟩ : ∃ s, s = strOfNums (enc ps) := ⟨_, rfl⟩
  rw [← hTX] at HW
  have htx : TX.size ≤ 5000 := by rw [hTX, strOfNums_size]; exact hpl.1
  have htn : nums TX = enc ps := by rw [hTX]; exact nums_str (enc_byt hpt)
  have c0 := cell_blk k1' 0 _ rfl
  have l1 := blk_lt k1'
  have EX := Lib.hid hX
  have E1 := Lib.hid hw1
  have E2 := Lib.hid hw2
  have S1 := Lib.hid s1
  have B2 := Lib.hid b2
  have K1 := Lib.hid k1'
  have K2 := Lib.hid k2
  have HP := Lib.hid (And.intro hpt (And.intro hpl (And.intro htx htn)))
  have HR := Lib.hid (And.intro hR (And.intro hc (And.intro hr hRS)))
  clear hd hdn hb hbn hyd hyb hl3 hm hR hc hr hRS hX hw1 hw2 s1 b1 b2 k1 k1' k2 hps hpt hpl hTX htx htn
  go_enter Try.func18, Try.ntmps18
  go_wp2_with fail
  rw [← E1.out, ← E2.out, ← EX.out]
  go_wp2_with (go_at_call 32; fail)
  refine HW.out.mono ?_
  rintro e w3 ⟨a, n', c', rfl, hA3, hn3, hb3⟩
  have k3 := (hb3.block X (blk_lt K1.out)).trans K1.out
  have k32 := (hb3.block (X + 1) (blk_lt K2.out)).trans K2.out
  have lx3 := blk_lt k3
  have k4 : (w3.alloc (.cells #[.slice a n' c'] 46)).heap[X]? = some (.cells #[.slice da dn dc, .int .i64 most, .string RS, .bool bg, .bool cr] 48 (0, 0)) := alloc_blk k3 _
  have cx0 := cell_blk k4 0 _ rfl
  have fx0 := frozen_blk k4 0
  have lx4 := blk_lt k4
  obtain ⟨w5, hw5⟩ : ∃ W, W = (w3.setCell ⟨X, 0, none⟩ (.slice a n' c')).alloc (.cells #[.slice a n' c'] 46) := ⟨_, rfl⟩
  have hm5 : Mod (fun k => k = X) w3 w5 := by rw [hw5]; exact ((Mod.refl (fun k => k = X) w3).setCell ⟨X, 0, none⟩ (.inl rfl) _).alloc _
  have k5 : w5.heap[X]? = some (.cells #[.slice a n' c', .int .i64 most, .string RS, .bool bg, .bool cr] 48 (0, 0)) := by rw [hw5]; exact alloc_blk (setCell_blk k3 0 _) _
  have hX := EX.out
  have hb5 : Below w.heap.size w w5 := ((Mod.of_below (B2.out.trans (hb3.mono B2.out.size)) (fun k => k = X)).trans hm5 (fun _ _ e => e)).below (fun k hk e => by omega)
  have hX12 : X + 1 < w2.heap.size := blk_lt K2.out
  have hA5 : Arg (fun k => X + 1 < k) w5 a n' (wts (ds ++ bs)) := (hA3.mod hm5 (fun k hk e => by omega)).mono (fun k _ hk => by omega)
  have k52 := (hm5.block (X + 1) (blk_lt k32) (by omega)).trans k32
  obtain ⟨c8, w6, hrun, hb6, hs6, hA6, hc6⟩ := conv_newc TX w5
  rw [HP.out.2.2.2] at hA6
  have HAll := Lib.hid (refAll_any (some ⟨w5.heap.size, 0, none⟩) TX.size c8 (enc ps) w6 hA6 (fun e => by cases e) hc6 (enc_byt HP.out.1) (by have := HP.out.2.2.1; omega))
  obtain ⟨N, hN⟩ : ∃ n, n = (allP (enc ps)).length := ⟨_, rfl⟩
  have hNl : N = ps.length := by rw [hN, ← List.length_map (f := (·.2)), allP_enc HP.out.1]
  have hN9 : N ≤ 1100 := by have := HP.out.2.1.2; omega
  have hs5 : w5.heap.size = w3.heap.size + 1 := by rw [hw5]; simp
  rw [← hN, hs5] at HAll
  have HNL := Lib.hid (And.intro hN hNl)
  have hb06 := hb5.trans (hb6.mono hb5.size)
  have HB6 := Lib.hid hb06
  have HA6 := Lib.hid (And.intro (hA5.below hb6) hn3)
  have K6 := Lib.hid ((hb6.block X (blk_lt k5)).trans k5)
  have K62 := Lib.hid ((hb6.block (X + 1) (blk_lt k52)).trans k52)
  rw [hw5] at hrun
  clear hX12 hs5 hA3 hn3 hb3 k3 k32 HW K1 K2 k4 hw5 hm5 k5 hX hb5 hA5 k52 hb6 hs6 hA6 hc6 hN hNl hb06 B2 E1 E2 S1
  go_wp2_with (go_at_call 33; fail)
  refine HAll.out.mono ?_
  rintro e w7 ⟨la, lc, rfl, hrow7, hb7⟩
  have hons := row_ons hrow7
  have hlb : ∀ k, la = some ⟨k, 0, none⟩ → k ≠ X := fun k e => by
    have h1 := (hrow7.lt k (by rw [e]; rfl)).1
    have := blk_lt K6.out
    omega
  have hb07 := HB6.out.trans (hb7.mono HB6.out.size)
  have k7 := (hb7.block X (blk_lt K6.out)).trans K6.out
  have k72 := (hb7.block (X + 1) (blk_lt K62.out)).trans K62.out
  have HA7 := Lib.hid (And.intro (HA6.out.1.below hb7) HA6.out.2)
  have HB7 := Lib.hid hb07
  have K7 := Lib.hid k7
  have K72 := Lib.hid k72
  have HO7 := Lib.hid (And.intro hons hlb)
  have HS7 := Lib.hid (show X < w7.heap.size from blk_lt k7)
  have HX17 := Lib.hid (show X + 1 < w7.heap.size from blk_lt k72)
  have HB67 := Lib.hid (show w.heap.size ≤ w7.heap.size from hb07.size)
  clear hrow7 hons hlb hb07 k7 k72 hb7 HA6 HB6 K6 K62 HAll hrun
  go_wp2_with fail
  go_loopg [8, 10] (N + 1) (fun gk v8 v10 wr => ∃ (i : Nat) (Ri Li : List Int) (bi ci : Bool) (oa : Option Addr) (j oc : Nat), v10 = .int .i64 i ∧ v8 = .slice oa j oc ∧ gk = N - i + 1 ∧ i ≤ N ∧ (runP (L, bg, cr) (ps.take i)).2 = (Li, bi, ci) ∧ j = (runP (L, bg, cr) (ps.take i)).1.length ∧ RT most Li Ri ∧ (bi = false → ci = false) ∧
    wr.heap[X]? = some (.cells #[.slice a n' c', .int .i64 most, .string (strOfNums Ri), .bool bi, .bool ci] 48 (0, 0)) ∧ wr.ownsRow w7.heap.size 35 2 (.slice oa j oc) j (lvs ((runP (L, bg, cr) (ps.take i)).1.map (toldL most))) ∧ Mod (fun k => k = X) w7 wr)
  case atStart => exact ⟨0, R, L, bg, cr, none, 0, 0, rfl, rfl, rfl, Nat.zero_le _, rfl, rfl, HR.out.1, HR.out.2.1, by rw [← HR.out.2.2.2]; exact K7.out, World.ownsRow_nil _ _ _ _, Mod.refl _ _⟩
  case round =>
    obtain ⟨i, Ri, Li, bi, ci, oa, j, oc, rfl, rfl, hgk, hi, hst, hj, hrt, hbc, hkx, hrow, hmd⟩ := hrel
    have hj9 : j ≤ 2000 := by
      have h1 := lines_few (ps.take i) (L, bg, cr)
      have h2 := HP.out.2.1.2
      rw [List.length_take] at h1
      omega
    rcases Nat.lt_or_ge i N with hlt | hge
    · have hN0 : 0 < N := by omega
      obtain ⟨lb, rfl, hlbl, hcc⟩ := HO7.out.1.2 hN0
      have hlX := HO7.out.2 lb rfl
      obtain ⟨p, hp⟩ : ∃ p, ps[i]? = some p := ⟨ps[i]'(by have := HNL.out.2; omega), List.getElem?_eq_some_iff.2 ⟨by have := HNL.out.2; omega, rfl⟩⟩
      have hpv : ((allP (enc ps)).getD i (0, 0)).2 = p := by
        have h1 := congrArg (fun l => l[i]?) (allP_enc HP.out.1)
        simp only [List.getElem?_map, hp] at h1
        cases h2 : (allP (enc ps))[i]? with
        | none => rw [h2] at h1; cases h1
        | some x => rw [h2] at h1; simp at h1; simp [List.getD, h2, h1]
      have cp := (hmd.cell (p := ⟨lb, i * 2 + 1, none⟩) hlbl hlX).trans (hcc i hlt).2
      rw [hpv] at cp
      have lbr := Nat.lt_of_lt_of_le hlbl hmd.size
      have hpt : Pt p := HP.out.1 p (List.mem_of_getElem? hp)
      have hstep : ∀ o s', stepP (Li, bi, ci) p = (o, s') → (runP (L, bg, cr) (ps.take (i + 1))).2 = s' ∧ (runP (L, bg, cr) (ps.take (i + 1))).1 = (runP (L, bg, cr) (ps.take i)).1 ++ o := fun o s' h => by
        rw [List.take_add_one, hp, Option.toList_some, runP_append, hst, runP_one, h]
        exact ⟨rfl, rfl⟩
      obtain ⟨RSi, hRSi⟩ : ∃ s, s = strOfNums Ri := ⟨_, rfl⟩
      obtain ⟨ri, hri⟩ : ∃ n, n = Ri.length := ⟨_, rfl⟩
      have zr : RSi.size = ri := by rw [hRSi, strOfNums_size, hri]
      have hri9 : ri ≤ 65540 := by have := hrt.2.1; omega
      rw [← hRSi] at hkx
      obtain ⟨⟨ts, tb⟩, hts⟩ : ∃ x, toldL most Li = x := ⟨_, rfl⟩
      have hone : ∀ b1 b2 W, Calls Try.prog 34 #[.agg #[.slice a n' c', .int .i64 most, .string RSi, .bool b1, .bool b2], .string RSi] W fun e w' => e = .returned (.agg #[.string ts, .bool tb]) ∧ Below W.heap.size W w' := fun b1 b2 W => by
        have := one_any a n' c' most RSi b1 b2 Ri RSi hRSi W
        rw [hrt.told, hts] at this
        exact this
      have c0 := cell_blk hkx 0 _ rfl
      have c1 := cell_blk hkx 1 _ rfl
      have c2 := cell_blk hkx 2 _ rfl
      have c3 := cell_blk hkx 3 _ rfl
      have c4 := cell_blk hkx 4 _ rfl
      have ff := fun q => frozen_blk hkx q
      have f2 := ff 2
      have f3 := ff 3
      have f4 := ff 4
      have lx := blk_lt hkx
      have l1 : decide ((i : Int) < N) = true := by simpa using hlt
      have i0' : (0 : Int) ≤ i := by omega
      have i2 : (i : Int) < N := by omega
      have HG := Lib.hid hgk
      have HST := Lib.hid hstep
      have HJ := Lib.hid hj
      have HRT := Lib.hid hrt
      have HRI := Lib.hid hRSi
      have HRL := Lib.hid hri
      have HTS := Lib.hid (show lvC (toldL most Li) = [.string ts, .bool tb] by rw [hts]; rfl)
      have HO1 := Lib.hid hone
      have HKX := Lib.hid hkx
      have HROW := Lib.hid hrow
      have HMD := Lib.hid hmd
      have HPT := Lib.hid hpt
      clear hgk hst hj hrt hkx hrow hmd hcc hlX hlbl hp hpv hpt hstep hRSi hri hts hone ff
      by_cases hp1 : p = 65279
      · subst hp1
        cases bi with
        | false =>
          obtain rfl : ci = false := hbc rfl
          clear hbc
          go_wp2
          go_roundg (N - (i + 1) + 1)
          case measure => have := HG.out; omega
          case rel =>
            have hs := HST.out [] (Li, true, false) (by simp [stepP])
            have hm : Mod (fun k => k = X) wr (wr.setCell ⟨X, 3, none⟩ (.bool true)) := (Mod.refl (fun k => k = X) wr).setCell ⟨X, 3, none⟩ (.inl rfl) _
            refine ⟨i + 1, Ri, Li, true, false, oa, j, oc, by go_num, rfl, rfl, by omega, hs.1, by rw [hs.2, List.append_nil]; exact HJ.out, HRT.out, (fun e => by cases e), ?_, ?_, HMD.out.trans hm (fun _ _ e => e)⟩
            · rw [← HRI.out]; exact setCell_blk HKX.out 3 _
            · rw [hs.2, List.append_nil]
              exact hm.row HROW.out (fun k hk e => by have := (HROW.out.lt k hk).1; have := HS7.out; omega)
        | true =>
          cases ci with
          | false =>
            clear hbc
            by_cases hle : ri ≤ most
            · have d5 : decide ((ri : Int) ≤ most) = true := by simp; omega
              have d6 : decide (ri ≤ most) = true := by simp; omega
              obtain ⟨w4, hw4⟩ : ∃ W, W = (wr.setCell ⟨X, 3, none⟩ (.bool true)).setCell ⟨X, 4, none⟩ (.bool false) := ⟨_, rfl⟩
              have hm4 : Mod (fun k => k = X) wr w4 := by rw [hw4]; exact ((Mod.refl (fun k => k = X) wr).setCell ⟨X, 3, none⟩ (.inl rfl) _).setCell ⟨X, 4, none⟩ (.inl rfl) _
              have k4 : w4.heap[X]? = some (.cells #[.slice a n' c', .int .i64 most, .string RSi, .bool true, .bool false] 48 (0, 0)) := by rw [hw4]; exact setCell_blk (setCell_blk HKX.out 3 _) 4 _
              have hrow4 := hm4.row HROW.out (fun k hk e => by have := (HROW.out.lt k hk).1; have := HS7.out; omega)
              have hmd4 := HMD.out.trans hm4 (fun _ _ e => e)
              have E4 := Lib.hid hw4
              have K4 := Lib.hid k4
              have HROW4 := Lib.hid hrow4
              have HMD4 := Lib.hid hmd4
              clear hw4 hm4 k4 hrow4 hmd4 HROW HMD
              have HBt := Lib.hid (fun W => refBytes_any 65279 W HPT.out)
              obtain ⟨PB, hPB⟩ : ∃ s, s = strOfNums (bytesL 65279) := ⟨_, rfl⟩
              obtain ⟨pl, hpl⟩ : ∃ n, n = (bytesL 65279).length := ⟨_, rfl⟩
              have zp : PB.size = pl := by rw [hPB, strOfNums_size, hpl]
              have hpl4 : pl ≤ 4 := by rw [hpl]; exact (bytesL_len _).2
              have ez : (9223372036854775807 < ri + pl) = False := eq_false (by omega)
              have HPB := Lib.hid (And.intro HPT.out (And.intro hpl hPB))
              clear hPB hpl
              go_upto_region 19 with fail
              rw [← E4.out]
              refine wp_region_K 7 (fun W => W.cell? ⟨X, 2, none⟩ = some (.string RSi)) (by kernel_rfl) ?_
              obtain ⟨wd, hwd⟩ : ∃ W, W = (w4).drew := ⟨_, rfl⟩
              have HBd : Hid (Below (w4).heap.size (w4) wd) := Lib.hid (by rw [hwd]; exact Below.drewN' (w4) 1)
              have hS0 : (fun W : World => W.cell? ⟨X, 2, none⟩ = some (.string RSi)) wd := by rw [hwd]; exact cell_blk K4.out 2 _ rfl
              rw [← hwd]
              clear hwd
              refine' wpAnyK_take (i := 0) (oi := { dst := some 75, op := Op.fieldAddr 48 (Operand.tmp 2) 2, type := 0, pos := "ref.go:66", after := #[], guard := none }) (v := ?v1001) rfl (by kernel_rfl) (by kernel_rfl) (by kernel_rfl) [] (by kernel_rfl) (by decide) (by kernel_rfl) (by kernel_rfl) (fun _ _ _ h => h) hS0 (.inl ⟨by first | rfl | simp [Region.wanted, yielded], ?hy1001⟩) ?rest1001
              case hy1001 => (intro W hW; have f1 := hW; go_simp; try with_reducible rfl)
              simp only [Act.put, List.setIfInBounds_toArray, List.set_cons_zero, List.set_cons_succ]
              refine' wpAnyK_take (i := 1) (oi := { dst := some 76, op := Op.load 9 (Operand.tmp 75), type := 9, pos := "ref.go:66", after := #[{ on := 0, ground := Ground.data }], guard := none }) (v := ?v1002) rfl (by kernel_rfl) (by kernel_rfl) (by kernel_rfl) [] (by kernel_rfl) (by decide) (by kernel_rfl) (by kernel_rfl) (fun _ _ _ h => h) hS0 (.inl ⟨by first | rfl | simp [Region.wanted, yielded], ?hy1002⟩) ?rest1002
              case hy1002 => (intro W hW; have f1 := hW; go_simp; try with_reducible rfl)
              simp only [Act.put, List.setIfInBounds_toArray, List.set_cons_zero, List.set_cons_succ]
              refine' wpAnyK_take (i := 2) (oi := { dst := some 77, op := Op.move (Operand.tmp 11), type := 3, pos := "ref.go:66", after := #[], guard := none }) (v := ?v1003) rfl (by kernel_rfl) (by kernel_rfl) (by kernel_rfl) [] (by kernel_rfl) (by decide) (by kernel_rfl) (by kernel_rfl) (fun _ _ _ h => h) hS0 (.inl ⟨by first | rfl | simp [Region.wanted, yielded], ?hy1003⟩) ?rest1003
              case hy1003 => (intro W hW; have f1 := hW; go_simp; try with_reducible rfl)
              simp only [Act.put, List.setIfInBounds_toArray, List.set_cons_zero, List.set_cons_succ]
              refine wpAnyK_ready (rs := [3]) (by kernel_rfl) (by simp) ?_
              refine AllReadyK.cons (o := { dst := some 78, op := Op.call { callee := Callee.value (Operand.func 35), args := #[Operand.tmp 77], argTypes := #[3] }, type := 22, pos := "ref.go:66", after := #[{ on := 2, ground := Ground.data }], guard := none }) rfl (fun KK hK => ?_) (AllReadyK.nil)
              try simp only [List.getElem_toArray, List.getElem_cons_succ, List.getElem_cons_zero]
              go_simp
              refine (HBt.out wd).mono ?_
              rintro e w5 ⟨ba, bc, rfl, hA5, hn5, hb5⟩
              have hbb := HBd.out.trans (hb5.mono HBd.out.size)
              have kx5 := (hbb.block X (blk_lt K4.out)).trans K4.out
              have cv5 := conv_any bc hA5 (fun e => absurd e hn5)
              rw [← HPB.out.2.1, ← HPB.out.2.2] at cv5
              rw [← HPB.out.2.1]
              have HB5 := Lib.hid hbb
              have K5 := Lib.hid kx5
              have hS5 : (fun W : World => W.cell? ⟨X, 2, none⟩ = some (.string RSi)) w5 := cell_blk kx5 2 _ rfl
              clear hA5 hn5 hb5 hbb kx5
              refine hK.out _ _ (fun _ => hS5) ?_
              clear hK KK
              try simp only [Act.put, List.setIfInBounds_toArray, List.set_cons_zero, List.set_cons_succ]
              refine wpAnyK_ready (rs := [4]) (by kernel_rfl) (by simp) ?_
              refine AllReadyK.cons (o := { dst := some 79, op := Op.convert 22 9 (Operand.tmp 78), type := 9, pos := "ref.go:66", after := #[{ on := 3, ground := Ground.data }], guard := none }) rfl (fun KK hK => ?_) (AllReadyK.nil)
              try simp only [List.getElem_toArray, List.getElem_cons_succ, List.getElem_cons_zero]
              go_simp
              refine hK.out _ _ (fun _ => hS5) ?_
              clear hK KK
              try simp only [Act.put, List.setIfInBounds_toArray, List.set_cons_zero, List.set_cons_succ]
              refine' wpAnyK_take (i := 5) (oi := { dst := some 80, op := Op.binOp BinOp.add 9 (Operand.tmp 76) (Operand.tmp 79) 9, type := 9, pos := "ref.go:66", after := #[{ on := 1, ground := Ground.data }, { on := 4, ground := Ground.data }], guard := none }) (v := ?v1004) rfl (by kernel_rfl) (by kernel_rfl) (by kernel_rfl) [] (by kernel_rfl) (by decide) (by kernel_rfl) (by kernel_rfl) (fun _ _ _ h => h) hS5 (.inl ⟨by first | rfl | simp [Region.wanted, yielded], ?hy1004⟩) ?rest1004
              case hy1004 => (intro W hW; have f1 := hW; go_simp; try with_reducible rfl)
              simp only [Act.put, List.setIfInBounds_toArray, List.set_cons_zero, List.set_cons_succ]
              refine' wpAnyK_take (i := 6) (oi := { dst := some 81, op := Op.fieldAddr 48 (Operand.tmp 2) 2, type := 0, pos := "ref.go:66", after := #[{ on := 0, ground := Ground.phase }, { on := 1, ground := Ground.phase }, { on := 2, ground := Ground.phase }, { on := 3, ground := Ground.phase }, { on := 4, ground := Ground.phase }, { on := 5, ground := Ground.phase }], guard := none }) (v := ?v1005) rfl (by kernel_rfl) (by kernel_rfl) (by kernel_rfl) [] (by kernel_rfl) (by decide) (by kernel_rfl) (by kernel_rfl) (fun _ _ _ h => h) hS5 (.inl ⟨by first | rfl | simp [Region.wanted, yielded], ?hy1005⟩) ?rest1005
              case hy1005 => (intro W hW; have f1 := hW; go_simp; try with_reducible rfl)
              simp only [Act.put, List.setIfInBounds_toArray, List.set_cons_zero, List.set_cons_succ]
              refine wpAnyK_ready (rs := [7]) (by kernel_rfl) (by simp) ?_
              refine AllReadyK.cons (o := { dst := none, op := Op.store 9 (Operand.tmp 81) (Operand.tmp 80), type := 0, pos := "ref.go:66", after := #[{ on := 6, ground := Ground.data }, { on := 5, ground := Ground.data }, { on := 3, ground := Ground.chain }, { on := 0, ground := Ground.phase }, { on := 1, ground := Ground.phase }, { on := 2, ground := Ground.phase }, { on := 3, ground := Ground.phase }, { on := 4, ground := Ground.phase }, { on := 5, ground := Ground.phase }], guard := none }) rfl (fun KK hK => ?_) (AllReadyK.nil)
              try simp only [List.getElem_toArray, List.getElem_cons_succ, List.getElem_cons_zero]
              have e0 := cell_blk K5.out 2 _ rfl
              have e1 := frozen_blk K5.out 2
              have e2 := blk_lt K5.out
              go_simp
              clear e0 e1 e2
              refine hK.out _ _ (fun h => absurd (show true = false from h) (by decide)) ?_
              clear hK KK
              try simp only [Act.put, List.setIfInBounds_toArray, List.set_cons_zero, List.set_cons_succ]
              refine wpAnyK_done (by kernel_rfl) ?_ _
              go_wp2_with fail
              go_roundg (N - (i + 1) + 1)
              case measure => have := HG.out; omega
              case rel =>
                have hs := HST.out [] (Li ++ bytesL 65279, true, false) (by simp [stepP])
                have hmb : Mod (fun k => k = X) w4 w5 := Mod.of_below HB5.out _
                have hm : Mod (fun k => k = X) w4 (w5.setCell ⟨X, 2, none⟩ (.string (RSi ++ PB))) := hmb.setCell ⟨X, 2, none⟩ (.inl rfl) _
                refine ⟨i + 1, Ri ++ bytesL 65279, Li ++ bytesL 65279, true, false, oa, j, oc, by go_num, rfl, rfl, by omega, hs.1, by rw [hs.2, List.append_nil]; exact HJ.out, HRT.out.more HPB.out.1 (by have := HRL.out; omega), (fun e => by cases e), ?_, ?_, HMD4.out.trans hm (fun _ _ e => e)⟩
                · rw [strOfNums_append, ← HRI.out, ← HPB.out.2.2]; exact setCell_blk K5.out 2 _
                · rw [hs.2, List.append_nil]
                  exact hm.row HROW4.out (fun k hk e => by have := (HROW4.out.lt k hk).1; have := HS7.out; omega)
            · have d5 : decide ((ri : Int) ≤ most) = false := by simp; omega
              have d6 : decide (ri ≤ most) = false := by simp; omega
              obtain ⟨w4, hw4⟩ : ∃ W, W = (wr.setCell ⟨X, 3, none⟩ (.bool true)).setCell ⟨X, 4, none⟩ (.bool false) := ⟨_, rfl⟩
              have hm4 : Mod (fun k => k = X) wr w4 := by rw [hw4]; exact ((Mod.refl (fun k => k = X) wr).setCell ⟨X, 3, none⟩ (.inl rfl) _).setCell ⟨X, 4, none⟩ (.inl rfl) _
              have k4 : w4.heap[X]? = some (.cells #[.slice a n' c', .int .i64 most, .string RSi, .bool true, .bool false] 48 (0, 0)) := by rw [hw4]; exact setCell_blk (setCell_blk HKX.out 3 _) 4 _
              have hrow4 := hm4.row HROW.out (fun k hk e => by have := (HROW.out.lt k hk).1; have := HS7.out; omega)
              have hmd4 := HMD.out.trans hm4 (fun _ _ e => e)
              have E4 := Lib.hid hw4
              have K4 := Lib.hid k4
              have HROW4 := Lib.hid hrow4
              have HMD4 := Lib.hid hmd4
              clear hw4 hm4 k4 hrow4 hmd4 HROW HMD
              go_wp2
              rw [← E4.out]
              go_roundg (N - (i + 1) + 1)
              case measure => have := HG.out; omega
              case rel =>
                have hs := HST.out [] (Li ++ bytesL 65279, true, false) (by simp [stepP])
                refine ⟨i + 1, Ri, Li ++ bytesL 65279, true, false, oa, j, oc, by go_num, rfl, rfl, by omega, hs.1, by rw [hs.2, List.append_nil]; exact HJ.out, HRT.out.skip _ (by have := HRL.out; omega), (fun e => by cases e), ?_, ?_, HMD4.out⟩
                · rw [← HRI.out]; exact K4.out
                · rw [hs.2, List.append_nil]
                  exact HROW4.out
          | true =>
            clear hbc
            by_cases hle : ri ≤ most
            · have d5 : decide ((ri : Int) ≤ most) = true := by simp; omega
              have d6 : decide (ri ≤ most) = true := by simp; omega
              obtain ⟨w4, hw4⟩ : ∃ W, W = (wr.setCell ⟨X, 3, none⟩ (.bool true)).setCell ⟨X, 4, none⟩ (.bool false) := ⟨_, rfl⟩
              have hm4 : Mod (fun k => k = X) wr w4 := by rw [hw4]; exact ((Mod.refl (fun k => k = X) wr).setCell ⟨X, 3, none⟩ (.inl rfl) _).setCell ⟨X, 4, none⟩ (.inl rfl) _
              have k4 : w4.heap[X]? = some (.cells #[.slice a n' c', .int .i64 most, .string RSi, .bool true, .bool false] 48 (0, 0)) := by rw [hw4]; exact setCell_blk (setCell_blk HKX.out 3 _) 4 _
              have hrow4 := hm4.row HROW.out (fun k hk e => by have := (HROW.out.lt k hk).1; have := HS7.out; omega)
              have hmd4 := HMD.out.trans hm4 (fun _ _ e => e)
              have E4 := Lib.hid hw4
              have K4 := Lib.hid k4
              have HROW4 := Lib.hid hrow4
              have HMD4 := Lib.hid hmd4
              clear hw4 hm4 k4 hrow4 hmd4 HROW HMD
              have HBt := Lib.hid (fun W => refBytes_any 65279 W HPT.out)
              obtain ⟨PB, hPB⟩ : ∃ s, s = strOfNums (bytesL 65279) := ⟨_, rfl⟩
              obtain ⟨pl, hpl⟩ : ∃ n, n = (bytesL 65279).length := ⟨_, rfl⟩
              have zp : PB.size = pl := by rw [hPB, strOfNums_size, hpl]
              have hpl4 : pl ≤ 4 := by rw [hpl]; exact (bytesL_len _).2
              have ez : (9223372036854775807 < ri + pl) = False := eq_false (by omega)
              have HPB := Lib.hid (And.intro HPT.out (And.intro hpl hPB))
              clear hPB hpl
              go_upto_region 19 with fail
              rw [← E4.out]
              refine wp_region_K 7 (fun W => W.cell? ⟨X, 2, none⟩ = some (.string RSi)) (by kernel_rfl) ?_
              obtain ⟨wd, hwd⟩ : ∃ W, W = (w4).drew := ⟨_, rfl⟩
              have HBd : Hid (Below (w4).heap.size (w4) wd) := Lib.hid (by rw [hwd]; exact Below.drewN' (w4) 1)
              have hS0 : (fun W : World => W.cell? ⟨X, 2, none⟩ = some (.string RSi)) wd := by rw [hwd]; exact cell_blk K4.out 2 _ rfl
              rw [← hwd]
              clear hwd
              refine' wpAnyK_take (i := 0) (oi := { dst := some 75, op := Op.fieldAddr 48 (Operand.tmp 2) 2, type := 0, pos := "ref.go:66", after := #[], guard := none }) (v := ?v2001) rfl (by kernel_rfl) (by kernel_rfl) (by kernel_rfl) [] (by kernel_rfl) (by decide) (by kernel_rfl) (by kernel_rfl) (fun _ _ _ h => h) hS0 (.inl ⟨by first | rfl | simp [Region.wanted, yielded], ?hy2001⟩) ?rest2001
              case hy2001 => (intro W hW; have f1 := hW; go_simp; try with_reducible rfl)
              simp only [Act.put, List.setIfInBounds_toArray, List.set_cons_zero, List.set_cons_succ]
              refine' wpAnyK_take (i := 1) (oi := { dst := some 76, op := Op.load 9 (Operand.tmp 75), type := 9, pos := "ref.go:66", after := #[{ on := 0, ground := Ground.data }], guard := none }) (v := ?v2002) rfl (by kernel_rfl) (by kernel_rfl) (by kernel_rfl) [] (by kernel_rfl) (by decide) (by kernel_rfl) (by kernel_rfl) (fun _ _ _ h => h) hS0 (.inl ⟨by first | rfl | simp [Region.wanted, yielded], ?hy2002⟩) ?rest2002
              case hy2002 => (intro W hW; have f1 := hW; go_simp; try with_reducible rfl)
              simp only [Act.put, List.setIfInBounds_toArray, List.set_cons_zero, List.set_cons_succ]
              refine' wpAnyK_take (i := 2) (oi := { dst := some 77, op := Op.move (Operand.tmp 11), type := 3, pos := "ref.go:66", after := #[], guard := none }) (v := ?v2003) rfl (by kernel_rfl) (by kernel_rfl) (by kernel_rfl) [] (by kernel_rfl) (by decide) (by kernel_rfl) (by kernel_rfl) (fun _ _ _ h => h) hS0 (.inl ⟨by first | rfl | simp [Region.wanted, yielded], ?hy2003⟩) ?rest2003
              case hy2003 => (intro W hW; have f1 := hW; go_simp; try with_reducible rfl)
              simp only [Act.put, List.setIfInBounds_toArray, List.set_cons_zero, List.set_cons_succ]
              refine wpAnyK_ready (rs := [3]) (by kernel_rfl) (by simp) ?_
              refine AllReadyK.cons (o := { dst := some 78, op := Op.call { callee := Callee.value (Operand.func 35), args := #[Operand.tmp 77], argTypes := #[3] }, type := 22, pos := "ref.go:66", after := #[{ on := 2, ground := Ground.data }], guard := none }) rfl (fun KK hK => ?_) (AllReadyK.nil)
              try simp only [List.getElem_toArray, List.getElem_cons_succ, List.getElem_cons_zero]
              go_simp
              refine (HBt.out wd).mono ?_
              rintro e w5 ⟨ba, bc, rfl, hA5, hn5, hb5⟩
              have hbb := HBd.out.trans (hb5.mono HBd.out.size)
              have kx5 := (hbb.block X (blk_lt K4.out)).trans K4.out
              have cv5 := conv_any bc hA5 (fun e => absurd e hn5)
              rw [← HPB.out.2.1, ← HPB.out.2.2] at cv5
              rw [← HPB.out.2.1]
              have HB5 := Lib.hid hbb
              have K5 := Lib.hid kx5
              have hS5 : (fun W : World => W.cell? ⟨X, 2, none⟩ = some (.string RSi)) w5 := cell_blk kx5 2 _ rfl
              clear hA5 hn5 hb5 hbb kx5
              refine hK.out _ _ (fun _ => hS5) ?_
              clear hK KK
              try simp only [Act.put, List.setIfInBounds_toArray, List.set_cons_zero, List.set_cons_succ]
              refine wpAnyK_ready (rs := [4]) (by kernel_rfl) (by simp) ?_
              refine AllReadyK.cons (o := { dst := some 79, op := Op.convert 22 9 (Operand.tmp 78), type := 9, pos := "ref.go:66", after := #[{ on := 3, ground := Ground.data }], guard := none }) rfl (fun KK hK => ?_) (AllReadyK.nil)
              try simp only [List.getElem_toArray, List.getElem_cons_succ, List.getElem_cons_zero]
              go_simp
              refine hK.out _ _ (fun _ => hS5) ?_
              clear hK KK
              try simp only [Act.put, List.setIfInBounds_toArray, List.set_cons_zero, List.set_cons_succ]
              refine' wpAnyK_take (i := 5) (oi := { dst := some 80, op := Op.binOp BinOp.add 9 (Operand.tmp 76) (Operand.tmp 79) 9, type := 9, pos := "ref.go:66", after := #[{ on := 1, ground := Ground.data }, { on := 4, ground := Ground.data }], guard := none }) (v := ?v2004) rfl (by kernel_rfl) (by kernel_rfl) (by kernel_rfl) [] (by kernel_rfl) (by decide) (by kernel_rfl) (by kernel_rfl) (fun _ _ _ h => h) hS5 (.inl ⟨by first | rfl | simp [Region.wanted, yielded], ?hy2004⟩) ?rest2004
              case hy2004 => (intro W hW; have f1 := hW; go_simp; try with_reducible rfl)
              simp only [Act.put, List.setIfInBounds_toArray, List.set_cons_zero, List.set_cons_succ]
              refine' wpAnyK_take (i := 6) (oi := { dst := some 81, op := Op.fieldAddr 48 (Operand.tmp 2) 2, type := 0, pos := "ref.go:66", after := #[{ on := 0, ground := Ground.phase }, { on := 1, ground := Ground.phase }, { on := 2, ground := Ground.phase }, { on := 3, ground := Ground.phase }, { on := 4, ground := Ground.phase }, { on := 5, ground := Ground.phase }], guard := none }) (v := ?v2005) rfl (by kernel_rfl) (by kernel_rfl) (by kernel_rfl) [] (by kernel_rfl) (by decide) (by kernel_rfl) (by kernel_rfl) (fun _ _ _ h => h) hS5 (.inl ⟨by first | rfl | simp [Region.wanted, yielded], ?hy2005⟩) ?rest2005
              case hy2005 => (intro W hW; have f1 := hW; go_simp; try with_reducible rfl)
              simp only [Act.put, List.setIfInBounds_toArray, List.set_cons_zero, List.set_cons_succ]
              refine wpAnyK_ready (rs := [7]) (by kernel_rfl) (by simp) ?_
              refine AllReadyK.cons (o := { dst := none, op := Op.store 9 (Operand.tmp 81) (Operand.tmp 80), type := 0, pos := "ref.go:66", after := #[{ on := 6, ground := Ground.data }, { on := 5, ground := Ground.data }, { on := 3, ground := Ground.chain }, { on := 0, ground := Ground.phase }, { on := 1, ground := Ground.phase }, { on := 2, ground := Ground.phase }, { on := 3, ground := Ground.phase }, { on := 4, ground := Ground.phase }, { on := 5, ground := Ground.phase }], guard := none }) rfl (fun KK hK => ?_) (AllReadyK.nil)
              try simp only [List.getElem_toArray, List.getElem_cons_succ, List.getElem_cons_zero]
              have e0 := cell_blk K5.out 2 _ rfl
              have e1 := frozen_blk K5.out 2
              have e2 := blk_lt K5.out
              go_simp
              clear e0 e1 e2
              refine hK.out _ _ (fun h => absurd (show true = false from h) (by decide)) ?_
              clear hK KK
              try simp only [Act.put, List.setIfInBounds_toArray, List.set_cons_zero, List.set_cons_succ]
              refine wpAnyK_done (by kernel_rfl) ?_ _
              go_wp2_with fail
              go_roundg (N - (i + 1) + 1)
              case measure => have := HG.out; omega
              case rel =>
                have hs := HST.out [] (Li ++ bytesL 65279, true, false) (by simp [stepP])
                have hmb : Mod (fun k => k = X) w4 w5 := Mod.of_below HB5.out _
                have hm : Mod (fun k => k = X) w4 (w5.setCell ⟨X, 2, none⟩ (.string (RSi ++ PB))) := hmb.setCell ⟨X, 2, none⟩ (.inl rfl) _
                refine ⟨i + 1, Ri ++ bytesL 65279, Li ++ bytesL 65279, true, false, oa, j, oc, by go_num, rfl, rfl, by omega, hs.1, by rw [hs.2, List.append_nil]; exact HJ.out, HRT.out.more HPB.out.1 (by have := HRL.out; omega), (fun e => by cases e), ?_, ?_, HMD4.out.trans hm (fun _ _ e => e)⟩
                · rw [strOfNums_append, ← HRI.out, ← HPB.out.2.2]; exact setCell_blk K5.out 2 _
                · rw [hs.2, List.append_nil]
                  exact hm.row HROW4.out (fun k hk e => by have := (HROW4.out.lt k hk).1; have := HS7.out; omega)
            · have d5 : decide ((ri : Int) ≤ most) = false := by simp; omega
              have d6 : decide (ri ≤ most) = false := by simp; omega
              obtain ⟨w4, hw4⟩ : ∃ W, W = (wr.setCell ⟨X, 3, none⟩ (.bool true)).setCell ⟨X, 4, none⟩ (.bool false) := ⟨_, rfl⟩
              have hm4 : Mod (fun k => k = X) wr w4 := by rw [hw4]; exact ((Mod.refl (fun k => k = X) wr).setCell ⟨X, 3, none⟩ (.inl rfl) _).setCell ⟨X, 4, none⟩ (.inl rfl) _
              have k4 : w4.heap[X]? = some (.cells #[.slice a n' c', .int .i64 most, .string RSi, .bool true, .bool false] 48 (0, 0)) := by rw [hw4]; exact setCell_blk (setCell_blk HKX.out 3 _) 4 _
              have hrow4 := hm4.row HROW.out (fun k hk e => by have := (HROW.out.lt k hk).1; have := HS7.out; omega)
              have hmd4 := HMD.out.trans hm4 (fun _ _ e => e)
              have E4 := Lib.hid hw4
              have K4 := Lib.hid k4
              have HROW4 := Lib.hid hrow4
              have HMD4 := Lib.hid hmd4
              clear hw4 hm4 k4 hrow4 hmd4 HROW HMD
              go_wp2
              rw [← E4.out]
              go_roundg (N - (i + 1) + 1)
              case measure => have := HG.out; omega
              case rel =>
                have hs := HST.out [] (Li ++ bytesL 65279, true, false) (by simp [stepP])
                refine ⟨i + 1, Ri, Li ++ bytesL 65279, true, false, oa, j, oc, by go_num, rfl, rfl, by omega, hs.1, by rw [hs.2, List.append_nil]; exact HJ.out, HRT.out.skip _ (by have := HRL.out; omega), (fun e => by cases e), ?_, ?_, HMD4.out⟩
                · rw [← HRI.out]; exact K4.out
                · rw [hs.2, List.append_nil]
                  exact HROW4.out
      by_cases hp2 : p = 10
      · subst hp2
        cases bi with
        | false =>
          obtain rfl : ci = false := hbc rfl
          clear hbc
          obtain ⟨w4, hw4⟩ : ∃ W, W = (wr.setCell ⟨X, 3, none⟩ (.bool true)).setCell ⟨X, 4, none⟩ (.bool false) := ⟨_, rfl⟩
          have hm4 : Mod (fun k => k = X) wr w4 := by rw [hw4]; exact ((Mod.refl (fun k => k = X) wr).setCell ⟨X, 3, none⟩ (.inl rfl) _).setCell ⟨X, 4, none⟩ (.inl rfl) _
          have k4 : w4.heap[X]? = some (.cells #[.slice a n' c', .int .i64 most, .string RSi, .bool true, .bool false] 48 (0, 0)) := by rw [hw4]; exact setCell_blk (setCell_blk HKX.out 3 _) 4 _
          have hrow4 := hm4.row HROW.out (fun k hk e => by have := (HROW.out.lt k hk).1; have := HS7.out; omega)
          have hmd4 := HMD.out.trans hm4 (fun _ _ e => e)
          have E4 := Lib.hid hw4
          have K4 := Lib.hid k4
          have HROW4 := Lib.hid hrow4
          have HMD4 := Lib.hid hmd4
          clear hw4 hm4 k4 hrow4 hmd4 HROW HMD
          go_wp2_with (go_at_call 34; fail)
          rw [← E4.out]
          refine (HO1.out true false w4).mono ?_
          rintro e w8 ⟨rfl, hb8⟩
          obtain ⟨w9, hw9⟩ : ∃ W, W = w8.alloc (.cells #[.string ts, .bool tb] 35) := ⟨_, rfl⟩
          have hb9 : Below w4.heap.size w4 w9 := by rw [hw9]; exact hb8.trans (((Below.refl _ w8).alloc (Nat.le_refl _) _).mono hb8.size)
          have k9 : w9.heap[w8.heap.size]? = some (.cells #[.string ts, .bool tb] 35 (0, 0)) := by rw [hw9]; exact alloc_blk_new w8 _
          have HN := Lib.hid (fun (ad : Addr) (e : some (⟨w8.heap.size, 0, none⟩ : Addr) = some ad) q u (hj : [Value.string ts, .bool tb][q]? = some u) => (show w9.cell? (ad.add q) = some u by
            cases e
            match q, hj with
            | 0, hj => cases hj; exact cell_blk k9 0 _ rfl
            | 1, hj => cases hj; exact cell_blk k9 1 _ rfl))
          have HROW9 := Lib.hid ((Mod.of_below hb9 (fun _ => False)).row HROW4.out (fun _ _ h => h))
          have hmd9 := HMD4.out.trans (Mod.of_below hb9 (fun k => k = X)) (fun _ _ e => e)
          have HMD9 := Lib.hid hmd9
          have K9 := Lib.hid ((hb9.block X (blk_lt K4.out)).trans K4.out)
          have hbase9 := hmd9.size
          have E9 := Lib.hid hw9
          clear hb8 hw9 hb9 k9 hmd9 HROW4 HMD4 K4 E4
          go_wp2_with (at_builtin; go_loud (rw [← E9.out]); go_loud (refine wpList_append_f _ rfl (.tmp 61) (.tmp 66) 28 rfl w7.heap.size 35 i0 (.agg #[.string ⟨#[]⟩, .bool false]) 2 24 Try.underlying28 hi0 hz0 hz1 hz2 rfl (by decide) _ _ _ rfl HROW9.out (some ⟨w8.heap.size, 0, none⟩) 1 1 [.string ts, .bool tb] rfl rfl (fun e => by cases e) HN.out (by simp [Value.oneCell']) ?c3 ?c4 (by omega) ?_))
          case c3 => unfold maxLen; omega
          case c4 => omega
          intro v' w10 hown hg hf _
          have hb10 : Mod (fun k => some k = (Value.slice oa j oc).ownBlock) w9 w10 := (Mod.refl _ w9).grown hg (fun k e => .inl e.symm)
          have hlo9 : ∀ k, some k = (Value.slice oa j oc).ownBlock → k ≠ X := fun k e e' => by have := (HROW9.out.lt k e.symm).1; have := HS7.out; omega
          have k10 := (hb10.block X (blk_lt K9.out) (fun e => hlo9 X e rfl)).trans K9.out
          have hmd10 : Mod (fun k => k = X) w7 w10 := HMD9.out.trans hb10 (fun k hk e => by have := (HROW9.out.lt k e.symm).1; omega)
          obtain ⟨o7, c7, rfl⟩ := row_slice hown
          have HROW10 := Lib.hid hown
          have HMD10 := Lib.hid hmd10
          have K10 := Lib.hid k10
          have g2 := cell_blk k10 2 _ rfl
          have gf2 := frozen_blk k10 2
          have gl := blk_lt k10
          clear hown hg hf hb10 hlo9 k10 hmd10 HROW9 HMD9 K9 HN E9 hbase9
          go_wp2
          go_roundg (N - (i + 1) + 1)
          case measure => have := HG.out; omega
          case rel =>
            have hs := HST.out [Li] ([], true, false) (by simp [stepP])
            have hm : Mod (fun k => k = X) w10 (w10.setCell ⟨X, 2, none⟩ (.string ⟨#[]⟩)) := (Mod.refl (fun k => k = X) w10).setCell ⟨X, 2, none⟩ (.inl rfl) _
            refine ⟨i + 1, [], [], true, false, o7, j + 1, c7, by go_num, rfl, rfl, by omega, hs.1, by rw [hs.2, List.length_append, ← HJ.out]; rfl, RT.nil most, (fun e => by cases e), ?_, ?_, HMD10.out.trans hm (fun _ _ e => e)⟩
            · exact setCell_blk K10.out 2 _
            · have := hm.row HROW10.out (fun k hk e => by have := (HROW10.out.lt k hk).1; have := HS7.out; omega)
              rw [hs.2, List.map_append, lvs_append]
              have hl : lvs ([Li].map (toldL most)) = [.string ts, .bool tb] := by rw [← HTS.out]; rfl
              rw [hl]
              exact this
        | true =>
          cases ci with
          | false =>
            clear hbc
            obtain ⟨w4, hw4⟩ : ∃ W, W = (wr.setCell ⟨X, 3, none⟩ (.bool true)).setCell ⟨X, 4, none⟩ (.bool false) := ⟨_, rfl⟩
            have hm4 : Mod (fun k => k = X) wr w4 := by rw [hw4]; exact ((Mod.refl (fun k => k = X) wr).setCell ⟨X, 3, none⟩ (.inl rfl) _).setCell ⟨X, 4, none⟩ (.inl rfl) _
            have k4 : w4.heap[X]? = some (.cells #[.slice a n' c', .int .i64 most, .string RSi, .bool true, .bool false] 48 (0, 0)) := by rw [hw4]; exact setCell_blk (setCell_blk HKX.out 3 _) 4 _
            have hrow4 := hm4.row HROW.out (fun k hk e => by have := (HROW.out.lt k hk).1; have := HS7.out; omega)
            have hmd4 := HMD.out.trans hm4 (fun _ _ e => e)
            have E4 := Lib.hid hw4
            have K4 := Lib.hid k4
            have HROW4 := Lib.hid hrow4
            have HMD4 := Lib.hid hmd4
            clear hw4 hm4 k4 hrow4 hmd4 HROW HMD
            go_wp2_with (go_at_call 34; fail)
            rw [← E4.out]
            refine (HO1.out true false w4).mono ?_
            rintro e w8 ⟨rfl, hb8⟩
            obtain ⟨w9, hw9⟩ : ∃ W, W = w8.alloc (.cells #[.string ts, .bool tb] 35) := ⟨_, rfl⟩
            have hb9 : Below w4.heap.size w4 w9 := by rw [hw9]; exact hb8.trans (((Below.refl _ w8).alloc (Nat.le_refl _) _).mono hb8.size)
            have k9 : w9.heap[w8.heap.size]? = some (.cells #[.string ts, .bool tb] 35 (0, 0)) := by rw [hw9]; exact alloc_blk_new w8 _
            have HN := Lib.hid (fun (ad : Addr) (e : some (⟨w8.heap.size, 0, none⟩ : Addr) = some ad) q u (hj : [Value.string ts, .bool tb][q]? = some u) => (show w9.cell? (ad.add q) = some u by
              cases e
              match q, hj with
              | 0, hj => cases hj; exact cell_blk k9 0 _ rfl
              | 1, hj => cases hj; exact cell_blk k9 1 _ rfl))
            have HROW9 := Lib.hid ((Mod.of_below hb9 (fun _ => False)).row HROW4.out (fun _ _ h => h))
            have hmd9 := HMD4.out.trans (Mod.of_below hb9 (fun k => k = X)) (fun _ _ e => e)
            have HMD9 := Lib.hid hmd9
            have K9 := Lib.hid ((hb9.block X (blk_lt K4.out)).trans K4.out)
            have hbase9 := hmd9.size
            have E9 := Lib.hid hw9
            clear hb8 hw9 hb9 k9 hmd9 HROW4 HMD4 K4 E4
            go_wp2_with (at_builtin; go_loud (rw [← E9.out]); go_loud (refine wpList_append_f _ rfl (.tmp 61) (.tmp 66) 28 rfl w7.heap.size 35 i0 (.agg #[.string ⟨#[]⟩, .bool false]) 2 24 Try.underlying28 hi0 hz0 hz1 hz2 rfl (by decide) _ _ _ rfl HROW9.out (some ⟨w8.heap.size, 0, none⟩) 1 1 [.string ts, .bool tb] rfl rfl (fun e => by cases e) HN.out (by simp [Value.oneCell']) ?c3 ?c4 (by omega) ?_))
            case c3 => unfold maxLen; omega
            case c4 => omega
            intro v' w10 hown hg hf _
            have hb10 : Mod (fun k => some k = (Value.slice oa j oc).ownBlock) w9 w10 := (Mod.refl _ w9).grown hg (fun k e => .inl e.symm)
            have hlo9 : ∀ k, some k = (Value.slice oa j oc).ownBlock → k ≠ X := fun k e e' => by have := (HROW9.out.lt k e.symm).1; have := HS7.out; omega
            have k10 := (hb10.block X (blk_lt K9.out) (fun e => hlo9 X e rfl)).trans K9.out
            have hmd10 : Mod (fun k => k = X) w7 w10 := HMD9.out.trans hb10 (fun k hk e => by have := (HROW9.out.lt k e.symm).1; omega)
            obtain ⟨o7, c7, rfl⟩ := row_slice hown
            have HROW10 := Lib.hid hown
            have HMD10 := Lib.hid hmd10
            have K10 := Lib.hid k10
            have g2 := cell_blk k10 2 _ rfl
            have gf2 := frozen_blk k10 2
            have gl := blk_lt k10
            clear hown hg hf hb10 hlo9 k10 hmd10 HROW9 HMD9 K9 HN E9 hbase9
            go_wp2
            go_roundg (N - (i + 1) + 1)
            case measure => have := HG.out; omega
            case rel =>
              have hs := HST.out [Li] ([], true, false) (by simp [stepP])
              have hm : Mod (fun k => k = X) w10 (w10.setCell ⟨X, 2, none⟩ (.string ⟨#[]⟩)) := (Mod.refl (fun k => k = X) w10).setCell ⟨X, 2, none⟩ (.inl rfl) _
              refine ⟨i + 1, [], [], true, false, o7, j + 1, c7, by go_num, rfl, rfl, by omega, hs.1, by rw [hs.2, List.length_append, ← HJ.out]; rfl, RT.nil most, (fun e => by cases e), ?_, ?_, HMD10.out.trans hm (fun _ _ e => e)⟩
              · exact setCell_blk K10.out 2 _
              · have := hm.row HROW10.out (fun k hk e => by have := (HROW10.out.lt k hk).1; have := HS7.out; omega)
                rw [hs.2, List.map_append, lvs_append]
                have hl : lvs ([Li].map (toldL most)) = [.string ts, .bool tb] := by rw [← HTS.out]; rfl
                rw [hl]
                exact this
          | true =>
            clear hbc
            go_wp2
            go_roundg (N - (i + 1) + 1)
            case measure => have := HG.out; omega
            case rel =>
              have hs := HST.out [] (Li, true, false) (by simp [stepP])
              have hm : Mod (fun k => k = X) wr ((wr.setCell ⟨X, 3, none⟩ (.bool true)).setCell ⟨X, 4, none⟩ (.bool false)) := ((Mod.refl (fun k => k = X) wr).setCell ⟨X, 3, none⟩ (.inl rfl) _).setCell ⟨X, 4, none⟩ (.inl rfl) _
              refine ⟨i + 1, Ri, Li, true, false, oa, j, oc, by go_num, rfl, rfl, by omega, hs.1, by rw [hs.2, List.append_nil]; exact HJ.out, HRT.out, (fun e => by cases e), ?_, ?_, HMD.out.trans hm (fun _ _ e => e)⟩
              · rw [← HRI.out]; exact setCell_blk (setCell_blk HKX.out 3 _) 4 _
              · rw [hs.2, List.append_nil]
                exact hm.row HROW.out (fun k hk e => by have := (HROW.out.lt k hk).1; have := HS7.out; omega)
      by_cases hp3 : p = 13
      · subst hp3
        cases bi with
        | false =>
          obtain rfl : ci = false := hbc rfl
          clear hbc
          obtain ⟨w4, hw4⟩ : ∃ W, W = (wr.setCell ⟨X, 3, none⟩ (.bool true)).setCell ⟨X, 4, none⟩ (.bool true) := ⟨_, rfl⟩
          have hm4 : Mod (fun k => k = X) wr w4 := by rw [hw4]; exact ((Mod.refl (fun k => k = X) wr).setCell ⟨X, 3, none⟩ (.inl rfl) _).setCell ⟨X, 4, none⟩ (.inl rfl) _
          have k4 : w4.heap[X]? = some (.cells #[.slice a n' c', .int .i64 most, .string RSi, .bool true, .bool true] 48 (0, 0)) := by rw [hw4]; exact setCell_blk (setCell_blk HKX.out 3 _) 4 _
          have hrow4 := hm4.row HROW.out (fun k hk e => by have := (HROW.out.lt k hk).1; have := HS7.out; omega)
          have hmd4 := HMD.out.trans hm4 (fun _ _ e => e)
          have E4 := Lib.hid hw4
          have K4 := Lib.hid k4
          have HROW4 := Lib.hid hrow4
          have HMD4 := Lib.hid hmd4
          clear hw4 hm4 k4 hrow4 hmd4 HROW HMD
          go_wp2_with (go_at_call 34; fail)
          rw [← E4.out]
          refine (HO1.out true true w4).mono ?_
          rintro e w8 ⟨rfl, hb8⟩
          obtain ⟨w9, hw9⟩ : ∃ W, W = w8.alloc (.cells #[.string ts, .bool tb] 35) := ⟨_, rfl⟩
          have hb9 : Below w4.heap.size w4 w9 := by rw [hw9]; exact hb8.trans (((Below.refl _ w8).alloc (Nat.le_refl _) _).mono hb8.size)
          have k9 : w9.heap[w8.heap.size]? = some (.cells #[.string ts, .bool tb] 35 (0, 0)) := by rw [hw9]; exact alloc_blk_new w8 _
          have HN := Lib.hid (fun (ad : Addr) (e : some (⟨w8.heap.size, 0, none⟩ : Addr) = some ad) q u (hj : [Value.string ts, .bool tb][q]? = some u) => (show w9.cell? (ad.add q) = some u by
            cases e
            match q, hj with
            | 0, hj => cases hj; exact cell_blk k9 0 _ rfl
            | 1, hj => cases hj; exact cell_blk k9 1 _ rfl))
          have HROW9 := Lib.hid ((Mod.of_below hb9 (fun _ => False)).row HROW4.out (fun _ _ h => h))
          have hmd9 := HMD4.out.trans (Mod.of_below hb9 (fun k => k = X)) (fun _ _ e => e)
          have HMD9 := Lib.hid hmd9
          have K9 := Lib.hid ((hb9.block X (blk_lt K4.out)).trans K4.out)
          have hbase9 := hmd9.size
          have E9 := Lib.hid hw9
          clear hb8 hw9 hb9 k9 hmd9 HROW4 HMD4 K4 E4
          go_wp2_with (at_builtin; go_loud (rw [← E9.out]); go_loud (refine wpList_append_f _ rfl (.tmp 61) (.tmp 66) 28 rfl w7.heap.size 35 i0 (.agg #[.string ⟨#[]⟩, .bool false]) 2 24 Try.underlying28 hi0 hz0 hz1 hz2 rfl (by decide) _ _ _ rfl HROW9.out (some ⟨w8.heap.size, 0, none⟩) 1 1 [.string ts, .bool tb] rfl rfl (fun e => by cases e) HN.out (by simp [Value.oneCell']) ?c3 ?c4 (by omega) ?_))
          case c3 => unfold maxLen; omega
          case c4 => omega
          intro v' w10 hown hg hf _
          have hb10 : Mod (fun k => some k = (Value.slice oa j oc).ownBlock) w9 w10 := (Mod.refl _ w9).grown hg (fun k e => .inl e.symm)
          have hlo9 : ∀ k, some k = (Value.slice oa j oc).ownBlock → k ≠ X := fun k e e' => by have := (HROW9.out.lt k e.symm).1; have := HS7.out; omega
          have k10 := (hb10.block X (blk_lt K9.out) (fun e => hlo9 X e rfl)).trans K9.out
          have hmd10 : Mod (fun k => k = X) w7 w10 := HMD9.out.trans hb10 (fun k hk e => by have := (HROW9.out.lt k e.symm).1; omega)
          obtain ⟨o7, c7, rfl⟩ := row_slice hown
          have HROW10 := Lib.hid hown
          have HMD10 := Lib.hid hmd10
          have K10 := Lib.hid k10
          have g2 := cell_blk k10 2 _ rfl
          have gf2 := frozen_blk k10 2
          have gl := blk_lt k10
          clear hown hg hf hb10 hlo9 k10 hmd10 HROW9 HMD9 K9 HN E9 hbase9
          go_wp2
          go_roundg (N - (i + 1) + 1)
          case measure => have := HG.out; omega
          case rel =>
            have hs := HST.out [Li] ([], true, true) (by simp [stepP])
            have hm : Mod (fun k => k = X) w10 (w10.setCell ⟨X, 2, none⟩ (.string ⟨#[]⟩)) := (Mod.refl (fun k => k = X) w10).setCell ⟨X, 2, none⟩ (.inl rfl) _
            refine ⟨i + 1, [], [], true, true, o7, j + 1, c7, by go_num, rfl, rfl, by omega, hs.1, by rw [hs.2, List.length_append, ← HJ.out]; rfl, RT.nil most, (fun e => by cases e), ?_, ?_, HMD10.out.trans hm (fun _ _ e => e)⟩
            · exact setCell_blk K10.out 2 _
            · have := hm.row HROW10.out (fun k hk e => by have := (HROW10.out.lt k hk).1; have := HS7.out; omega)
              rw [hs.2, List.map_append, lvs_append]
              have hl : lvs ([Li].map (toldL most)) = [.string ts, .bool tb] := by rw [← HTS.out]; rfl
              rw [hl]
              exact this
        | true =>
          cases ci with
          | false =>
            clear hbc
            obtain ⟨w4, hw4⟩ : ∃ W, W = (wr.setCell ⟨X, 3, none⟩ (.bool true)).setCell ⟨X, 4, none⟩ (.bool true) := ⟨_, rfl⟩
            have hm4 : Mod (fun k => k = X) wr w4 := by rw [hw4]; exact ((Mod.refl (fun k => k = X) wr).setCell ⟨X, 3, none⟩ (.inl rfl) _).setCell ⟨X, 4, none⟩ (.inl rfl) _
            have k4 : w4.heap[X]? = some (.cells #[.slice a n' c', .int .i64 most, .string RSi, .bool true, .bool true] 48 (0, 0)) := by rw [hw4]; exact setCell_blk (setCell_blk HKX.out 3 _) 4 _
            have hrow4 := hm4.row HROW.out (fun k hk e => by have := (HROW.out.lt k hk).1; have := HS7.out; omega)
            have hmd4 := HMD.out.trans hm4 (fun _ _ e => e)
            have E4 := Lib.hid hw4
            have K4 := Lib.hid k4
            have HROW4 := Lib.hid hrow4
            have HMD4 := Lib.hid hmd4
            clear hw4 hm4 k4 hrow4 hmd4 HROW HMD
            go_wp2_with (go_at_call 34; fail)
            rw [← E4.out]
            refine (HO1.out true true w4).mono ?_
            rintro e w8 ⟨rfl, hb8⟩
            obtain ⟨w9, hw9⟩ : ∃ W, W = w8.alloc (.cells #[.string ts, .bool tb] 35) := ⟨_, rfl⟩
            have hb9 : Below w4.heap.size w4 w9 := by rw [hw9]; exact hb8.trans (((Below.refl _ w8).alloc (Nat.le_refl _) _).mono hb8.size)
            have k9 : w9.heap[w8.heap.size]? = some (.cells #[.string ts, .bool tb] 35 (0, 0)) := by rw [hw9]; exact alloc_blk_new w8 _
            have HN := Lib.hid (fun (ad : Addr) (e : some (⟨w8.heap.size, 0, none⟩ : Addr) = some ad) q u (hj : [Value.string ts, .bool tb][q]? = some u) => (show w9.cell? (ad.add q) = some u by
              cases e
              match q, hj with
              | 0, hj => cases hj; exact cell_blk k9 0 _ rfl
              | 1, hj => cases hj; exact cell_blk k9 1 _ rfl))
            have HROW9 := Lib.hid ((Mod.of_below hb9 (fun _ => False)).row HROW4.out (fun _ _ h => h))
            have hmd9 := HMD4.out.trans (Mod.of_below hb9 (fun k => k = X)) (fun _ _ e => e)
            have HMD9 := Lib.hid hmd9
            have K9 := Lib.hid ((hb9.block X (blk_lt K4.out)).trans K4.out)
            have hbase9 := hmd9.size
            have E9 := Lib.hid hw9
            clear hb8 hw9 hb9 k9 hmd9 HROW4 HMD4 K4 E4
            go_wp2_with (at_builtin; go_loud (rw [← E9.out]); go_loud (refine wpList_append_f _ rfl (.tmp 61) (.tmp 66) 28 rfl w7.heap.size 35 i0 (.agg #[.string ⟨#[]⟩, .bool false]) 2 24 Try.underlying28 hi0 hz0 hz1 hz2 rfl (by decide) _ _ _ rfl HROW9.out (some ⟨w8.heap.size, 0, none⟩) 1 1 [.string ts, .bool tb] rfl rfl (fun e => by cases e) HN.out (by simp [Value.oneCell']) ?c3 ?c4 (by omega) ?_))
            case c3 => unfold maxLen; omega
            case c4 => omega
            intro v' w10 hown hg hf _
            have hb10 : Mod (fun k => some k = (Value.slice oa j oc).ownBlock) w9 w10 := (Mod.refl _ w9).grown hg (fun k e => .inl e.symm)
            have hlo9 : ∀ k, some k = (Value.slice oa j oc).ownBlock → k ≠ X := fun k e e' => by have := (HROW9.out.lt k e.symm).1; have := HS7.out; omega
            have k10 := (hb10.block X (blk_lt K9.out) (fun e => hlo9 X e rfl)).trans K9.out
            have hmd10 : Mod (fun k => k = X) w7 w10 := HMD9.out.trans hb10 (fun k hk e => by have := (HROW9.out.lt k e.symm).1; omega)
            obtain ⟨o7, c7, rfl⟩ := row_slice hown
            have HROW10 := Lib.hid hown
            have HMD10 := Lib.hid hmd10
            have K10 := Lib.hid k10
            have g2 := cell_blk k10 2 _ rfl
            have gf2 := frozen_blk k10 2
            have gl := blk_lt k10
            clear hown hg hf hb10 hlo9 k10 hmd10 HROW9 HMD9 K9 HN E9 hbase9
            go_wp2
            go_roundg (N - (i + 1) + 1)
            case measure => have := HG.out; omega
            case rel =>
              have hs := HST.out [Li] ([], true, true) (by simp [stepP])
              have hm : Mod (fun k => k = X) w10 (w10.setCell ⟨X, 2, none⟩ (.string ⟨#[]⟩)) := (Mod.refl (fun k => k = X) w10).setCell ⟨X, 2, none⟩ (.inl rfl) _
              refine ⟨i + 1, [], [], true, true, o7, j + 1, c7, by go_num, rfl, rfl, by omega, hs.1, by rw [hs.2, List.length_append, ← HJ.out]; rfl, RT.nil most, (fun e => by cases e), ?_, ?_, HMD10.out.trans hm (fun _ _ e => e)⟩
              · exact setCell_blk K10.out 2 _
              · have := hm.row HROW10.out (fun k hk e => by have := (HROW10.out.lt k hk).1; have := HS7.out; omega)
                rw [hs.2, List.map_append, lvs_append]
                have hl : lvs ([Li].map (toldL most)) = [.string ts, .bool tb] := by rw [← HTS.out]; rfl
                rw [hl]
                exact this
          | true =>
            clear hbc
            obtain ⟨w4, hw4⟩ : ∃ W, W = (wr.setCell ⟨X, 3, none⟩ (.bool true)).setCell ⟨X, 4, none⟩ (.bool true) := ⟨_, rfl⟩
            have hm4 : Mod (fun k => k = X) wr w4 := by rw [hw4]; exact ((Mod.refl (fun k => k = X) wr).setCell ⟨X, 3, none⟩ (.inl rfl) _).setCell ⟨X, 4, none⟩ (.inl rfl) _
            have k4 : w4.heap[X]? = some (.cells #[.slice a n' c', .int .i64 most, .string RSi, .bool true, .bool true] 48 (0, 0)) := by rw [hw4]; exact setCell_blk (setCell_blk HKX.out 3 _) 4 _
            have hrow4 := hm4.row HROW.out (fun k hk e => by have := (HROW.out.lt k hk).1; have := HS7.out; omega)
            have hmd4 := HMD.out.trans hm4 (fun _ _ e => e)
            have E4 := Lib.hid hw4
            have K4 := Lib.hid k4
            have HROW4 := Lib.hid hrow4
            have HMD4 := Lib.hid hmd4
            clear hw4 hm4 k4 hrow4 hmd4 HROW HMD
            go_wp2_with (go_at_call 34; fail)
            rw [← E4.out]
            refine (HO1.out true true w4).mono ?_
            rintro e w8 ⟨rfl, hb8⟩
            obtain ⟨w9, hw9⟩ : ∃ W, W = w8.alloc (.cells #[.string ts, .bool tb] 35) := ⟨_, rfl⟩
            have hb9 : Below w4.heap.size w4 w9 := by rw [hw9]; exact hb8.trans (((Below.refl _ w8).alloc (Nat.le_refl _) _).mono hb8.size)
            have k9 : w9.heap[w8.heap.size]? = some (.cells #[.string ts, .bool tb] 35 (0, 0)) := by rw [hw9]; exact alloc_blk_new w8 _
            have HN := Lib.hid (fun (ad : Addr) (e : some (⟨w8.heap.size, 0, none⟩ : Addr) = some ad) q u (hj : [Value.string ts, .bool tb][q]? = some u) => (show w9.cell? (ad.add q) = some u by
              cases e
              match q, hj with
              | 0, hj => cases hj; exact cell_blk k9 0 _ rfl
              | 1, hj => cases hj; exact cell_blk k9 1 _ rfl))
            have HROW9 := Lib.hid ((Mod.of_below hb9 (fun _ => False)).row HROW4.out (fun _ _ h => h))
            have hmd9 := HMD4.out.trans (Mod.of_below hb9 (fun k => k = X)) (fun _ _ e => e)
            have HMD9 := Lib.hid hmd9
            have K9 := Lib.hid ((hb9.block X (blk_lt K4.out)).trans K4.out)
            have hbase9 := hmd9.size
            have E9 := Lib.hid hw9
            clear hb8 hw9 hb9 k9 hmd9 HROW4 HMD4 K4 E4
            go_wp2_with (at_builtin; go_loud (rw [← E9.out]); go_loud (refine wpList_append_f _ rfl (.tmp 61) (.tmp 66) 28 rfl w7.heap.size 35 i0 (.agg #[.string ⟨#[]⟩, .bool false]) 2 24 Try.underlying28 hi0 hz0 hz1 hz2 rfl (by decide) _ _ _ rfl HROW9.out (some ⟨w8.heap.size, 0, none⟩) 1 1 [.string ts, .bool tb] rfl rfl (fun e => by cases e) HN.out (by simp [Value.oneCell']) ?c3 ?c4 (by omega) ?_))
            case c3 => unfold maxLen; omega
            case c4 => omega
            intro v' w10 hown hg hf _
            have hb10 : Mod (fun k => some k = (Value.slice oa j oc).ownBlock) w9 w10 := (Mod.refl _ w9).grown hg (fun k e => .inl e.symm)
            have hlo9 : ∀ k, some k = (Value.slice oa j oc).ownBlock → k ≠ X := fun k e e' => by have := (HROW9.out.lt k e.symm).1; have := HS7.out; omega
            have k10 := (hb10.block X (blk_lt K9.out) (fun e => hlo9 X e rfl)).trans K9.out
            have hmd10 : Mod (fun k => k = X) w7 w10 := HMD9.out.trans hb10 (fun k hk e => by have := (HROW9.out.lt k e.symm).1; omega)
            obtain ⟨o7, c7, rfl⟩ := row_slice hown
            have HROW10 := Lib.hid hown
            have HMD10 := Lib.hid hmd10
            have K10 := Lib.hid k10
            have g2 := cell_blk k10 2 _ rfl
            have gf2 := frozen_blk k10 2
            have gl := blk_lt k10
            clear hown hg hf hb10 hlo9 k10 hmd10 HROW9 HMD9 K9 HN E9 hbase9
            go_wp2
            go_roundg (N - (i + 1) + 1)
            case measure => have := HG.out; omega
            case rel =>
              have hs := HST.out [Li] ([], true, true) (by simp [stepP])
              have hm : Mod (fun k => k = X) w10 (w10.setCell ⟨X, 2, none⟩ (.string ⟨#[]⟩)) := (Mod.refl (fun k => k = X) w10).setCell ⟨X, 2, none⟩ (.inl rfl) _
              refine ⟨i + 1, [], [], true, true, o7, j + 1, c7, by go_num, rfl, rfl, by omega, hs.1, by rw [hs.2, List.length_append, ← HJ.out]; rfl, RT.nil most, (fun e => by cases e), ?_, ?_, HMD10.out.trans hm (fun _ _ e => e)⟩
              · exact setCell_blk K10.out 2 _
              · have := hm.row HROW10.out (fun k hk e => by have := (HROW10.out.lt k hk).1; have := HS7.out; omega)
                rw [hs.2, List.map_append, lvs_append]
                have hl : lvs ([Li].map (toldL most)) = [.string ts, .bool tb] := by rw [← HTS.out]; rfl
                rw [hl]
                exact this
      have q1 : (p == 65279) = false := by simpa using hp1
      have q2 : (p == 10) = false := by simpa using hp2
      have q3 : (p == 13) = false := by simpa using hp3
      have HPN := Lib.hid (And.intro hp1 (And.intro hp2 hp3))
      clear hp1 hp2 hp3
      cases bi with
      | false =>
        obtain rfl : ci = false := hbc rfl
        clear hbc
        by_cases hle : ri ≤ most
        · have d5 : decide ((ri : Int) ≤ most) = true := by simp; omega
          have d6 : decide (ri ≤ most) = true := by simp; omega
          obtain ⟨w4, hw4⟩ : ∃ W, W = (wr.setCell ⟨X, 3, none⟩ (.bool true)).setCell ⟨X, 4, none⟩ (.bool false) := ⟨_, rfl⟩
          have hm4 : Mod (fun k => k = X) wr w4 := by rw [hw4]; exact ((Mod.refl (fun k => k = X) wr).setCell ⟨X, 3, none⟩ (.inl rfl) _).setCell ⟨X, 4, none⟩ (.inl rfl) _
          have k4 : w4.heap[X]? = some (.cells #[.slice a n' c', .int .i64 most, .string RSi, .bool true, .bool false] 48 (0, 0)) := by rw [hw4]; exact setCell_blk (setCell_blk HKX.out 3 _) 4 _
          have hrow4 := hm4.row HROW.out (fun k hk e => by have := (HROW.out.lt k hk).1; have := HS7.out; omega)
          have hmd4 := HMD.out.trans hm4 (fun _ _ e => e)
          have E4 := Lib.hid hw4
          have K4 := Lib.hid k4
          have HROW4 := Lib.hid hrow4
          have HMD4 := Lib.hid hmd4
          clear hw4 hm4 k4 hrow4 hmd4 HROW HMD
          have HBt := Lib.hid (fun W => refBytes_any p W HPT.out)
          obtain ⟨PB, hPB⟩ : ∃ s, s = strOfNums (bytesL p) := ⟨_, rfl⟩
          obtain ⟨pl, hpl⟩ : ∃ n, n = (bytesL p).length := ⟨_, rfl⟩
          have zp : PB.size = pl := by rw [hPB, strOfNums_size, hpl]
          have hpl4 : pl ≤ 4 := by rw [hpl]; exact (bytesL_len _).2
          have ez : (9223372036854775807 < ri + pl) = False := eq_false (by omega)
          have HPB := Lib.hid (And.intro HPT.out (And.intro hpl hPB))
          clear hPB hpl
          go_upto_region 19 with fail
          rw [← E4.out]
          refine wp_region_K 7 (fun W => W.cell? ⟨X, 2, none⟩ = some (.string RSi)) (by kernel_rfl) ?_
          obtain ⟨wd, hwd⟩ : ∃ W, W = (w4).drew := ⟨_, rfl⟩
          have HBd : Hid (Below (w4).heap.size (w4) wd) := Lib.hid (by rw [hwd]; exact Below.drewN' (w4) 1)
          have hS0 : (fun W : World => W.cell? ⟨X, 2, none⟩ = some (.string RSi)) wd := by rw [hwd]; exact cell_blk K4.out 2 _ rfl
          rw [← hwd]
          clear hwd
          refine' wpAnyK_take (i := 0) (oi := { dst := some 75, op := Op.fieldAddr 48 (Operand.tmp 2) 2, type := 0, pos := "ref.go:66", after := #[], guard := none }) (v := ?v3001) rfl (by kernel_rfl) (by kernel_rfl) (by kernel_rfl) [] (by kernel_rfl) (by decide) (by kernel_rfl) (by kernel_rfl) (fun _ _ _ h => h) hS0 (.inl ⟨by first | rfl | simp [Region.wanted, yielded], ?hy3001⟩) ?rest3001
          case hy3001 => (intro W hW; have f1 := hW; go_simp; try with_reducible rfl)
          simp only [Act.put, List.setIfInBounds_toArray, List.set_cons_zero, List.set_cons_succ]
          refine' wpAnyK_take (i := 1) (oi := { dst := some 76, op := Op.load 9 (Operand.tmp 75), type := 9, pos := "ref.go:66", after := #[{ on := 0, ground := Ground.data }], guard := none }) (v := ?v3002) rfl (by kernel_rfl) (by kernel_rfl) (by kernel_rfl) [] (by kernel_rfl) (by decide) (by kernel_rfl) (by kernel_rfl) (fun _ _ _ h => h) hS0 (.inl ⟨by first | rfl | simp [Region.wanted, yielded], ?hy3002⟩) ?rest3002
          case hy3002 => (intro W hW; have f1 := hW; go_simp; try with_reducible rfl)
          simp only [Act.put, List.setIfInBounds_toArray, List.set_cons_zero, List.set_cons_succ]
          refine' wpAnyK_take (i := 2) (oi := { dst := some 77, op := Op.move (Operand.tmp 11), type := 3, pos := "ref.go:66", after := #[], guard := none }) (v := ?v3003) rfl (by kernel_rfl) (by kernel_rfl) (by kernel_rfl) [] (by kernel_rfl) (by decide) (by kernel_rfl) (by kernel_rfl) (fun _ _ _ h => h) hS0 (.inl ⟨by first | rfl | simp [Region.wanted, yielded], ?hy3003⟩) ?rest3003
          case hy3003 => (intro W hW; have f1 := hW; go_simp; try with_reducible rfl)
          simp only [Act.put, List.setIfInBounds_toArray, List.set_cons_zero, List.set_cons_succ]
          refine wpAnyK_ready (rs := [3]) (by kernel_rfl) (by simp) ?_
          refine AllReadyK.cons (o := { dst := some 78, op := Op.call { callee := Callee.value (Operand.func 35), args := #[Operand.tmp 77], argTypes := #[3] }, type := 22, pos := "ref.go:66", after := #[{ on := 2, ground := Ground.data }], guard := none }) rfl (fun KK hK => ?_) (AllReadyK.nil)
          try simp only [List.getElem_toArray, List.getElem_cons_succ, List.getElem_cons_zero]
          go_simp
          refine (HBt.out wd).mono ?_
          rintro e w5 ⟨ba, bc, rfl, hA5, hn5, hb5⟩
          have hbb := HBd.out.trans (hb5.mono HBd.out.size)
          have kx5 := (hbb.block X (blk_lt K4.out)).trans K4.out
          have cv5 := conv_any bc hA5 (fun e => absurd e hn5)
          rw [← HPB.out.2.1, ← HPB.out.2.2] at cv5
          rw [← HPB.out.2.1]
          have HB5 := Lib.hid hbb
          have K5 := Lib.hid kx5
          have hS5 : (fun W : World => W.cell? ⟨X, 2, none⟩ = some (.string RSi)) w5 := cell_blk kx5 2 _ rfl
          clear hA5 hn5 hb5 hbb kx5
          refine hK.out _ _ (fun _ => hS5) ?_
          clear hK KK
          try simp only [Act.put, List.setIfInBounds_toArray, List.set_cons_zero, List.set_cons_succ]
          refine wpAnyK_ready (rs := [4]) (by kernel_rfl) (by simp) ?_
          refine AllReadyK.cons (o := { dst := some 79, op := Op.convert 22 9 (Operand.tmp 78), type := 9, pos := "ref.go:66", after := #[{ on := 3, ground := Ground.data }], guard := none }) rfl (fun KK hK => ?_) (AllReadyK.nil)
          try simp only [List.getElem_toArray, List.getElem_cons_succ, List.getElem_cons_zero]
          go_simp
          refine hK.out _ _ (fun _ => hS5) ?_
          clear hK KK
          try simp only [Act.put, List.setIfInBounds_toArray, List.set_cons_zero, List.set_cons_succ]
          refine' wpAnyK_take (i := 5) (oi := { dst := some 80, op := Op.binOp BinOp.add 9 (Operand.tmp 76) (Operand.tmp 79) 9, type := 9, pos := "ref.go:66", after := #[{ on := 1, ground := Ground.data }, { on := 4, ground := Ground.data }], guard := none }) (v := ?v3004) rfl (by kernel_rfl) (by kernel_rfl) (by kernel_rfl) [] (by kernel_rfl) (by decide) (by kernel_rfl) (by kernel_rfl) (fun _ _ _ h => h) hS5 (.inl ⟨by first | rfl | simp [Region.wanted, yielded], ?hy3004⟩) ?rest3004
          case hy3004 => (intro W hW; have f1 := hW; go_simp; try with_reducible rfl)
          simp only [Act.put, List.setIfInBounds_toArray, List.set_cons_zero, List.set_cons_succ]
          refine' wpAnyK_take (i := 6) (oi := { dst := some 81, op := Op.fieldAddr 48 (Operand.tmp 2) 2, type := 0, pos := "ref.go:66", after := #[{ on := 0, ground := Ground.phase }, { on := 1, ground := Ground.phase }, { on := 2, ground := Ground.phase }, { on := 3, ground := Ground.phase }, { on := 4, ground := Ground.phase }, { on := 5, ground := Ground.phase }], guard := none }) (v := ?v3005) rfl (by kernel_rfl) (by kernel_rfl) (by kernel_rfl) [] (by kernel_rfl) (by decide) (by kernel_rfl) (by kernel_rfl) (fun _ _ _ h => h) hS5 (.inl ⟨by first | rfl | simp [Region.wanted, yielded], ?hy3005⟩) ?rest3005
          case hy3005 => (intro W hW; have f1 := hW; go_simp; try with_reducible rfl)
          simp only [Act.put, List.setIfInBounds_toArray, List.set_cons_zero, List.set_cons_succ]
          refine wpAnyK_ready (rs := [7]) (by kernel_rfl) (by simp) ?_
          refine AllReadyK.cons (o := { dst := none, op := Op.store 9 (Operand.tmp 81) (Operand.tmp 80), type := 0, pos := "ref.go:66", after := #[{ on := 6, ground := Ground.data }, { on := 5, ground := Ground.data }, { on := 3, ground := Ground.chain }, { on := 0, ground := Ground.phase }, { on := 1, ground := Ground.phase }, { on := 2, ground := Ground.phase }, { on := 3, ground := Ground.phase }, { on := 4, ground := Ground.phase }, { on := 5, ground := Ground.phase }], guard := none }) rfl (fun KK hK => ?_) (AllReadyK.nil)
          try simp only [List.getElem_toArray, List.getElem_cons_succ, List.getElem_cons_zero]
          have e0 := cell_blk K5.out 2 _ rfl
          have e1 := frozen_blk K5.out 2
          have e2 := blk_lt K5.out
          go_simp
          clear e0 e1 e2
          refine hK.out _ _ (fun h => absurd (show true = false from h) (by decide)) ?_
          clear hK KK
          try simp only [Act.put, List.setIfInBounds_toArray, List.set_cons_zero, List.set_cons_succ]
          refine wpAnyK_done (by kernel_rfl) ?_ _
          go_wp2_with fail
          go_roundg (N - (i + 1) + 1)
          case measure => have := HG.out; omega
          case rel =>
            have hs := HST.out [] (Li ++ bytesL p, true, false) (by simp [stepP, HPN.out])
            have hmb : Mod (fun k => k = X) w4 w5 := Mod.of_below HB5.out _
            have hm : Mod (fun k => k = X) w4 (w5.setCell ⟨X, 2, none⟩ (.string (RSi ++ PB))) := hmb.setCell ⟨X, 2, none⟩ (.inl rfl) _
            refine ⟨i + 1, Ri ++ bytesL p, Li ++ bytesL p, true, false, oa, j, oc, by go_num, rfl, rfl, by omega, hs.1, by rw [hs.2, List.append_nil]; exact HJ.out, HRT.out.more HPB.out.1 (by have := HRL.out; omega), (fun e => by cases e), ?_, ?_, HMD4.out.trans hm (fun _ _ e => e)⟩
            · rw [strOfNums_append, ← HRI.out, ← HPB.out.2.2]; exact setCell_blk K5.out 2 _
            · rw [hs.2, List.append_nil]
              exact hm.row HROW4.out (fun k hk e => by have := (HROW4.out.lt k hk).1; have := HS7.out; omega)
        · have d5 : decide ((ri : Int) ≤ most) = false := by simp; omega
          have d6 : decide (ri ≤ most) = false := by simp; omega
          obtain ⟨w4, hw4⟩ : ∃ W, W = (wr.setCell ⟨X, 3, none⟩ (.bool true)).setCell ⟨X, 4, none⟩ (.bool false) := ⟨_, rfl⟩
          have hm4 : Mod (fun k => k = X) wr w4 := by rw [hw4]; exact ((Mod.refl (fun k => k = X) wr).setCell ⟨X, 3, none⟩ (.inl rfl) _).setCell ⟨X, 4, none⟩ (.inl rfl) _
          have k4 : w4.heap[X]? = some (.cells #[.slice a n' c', .int .i64 most, .string RSi, .bool true, .bool false] 48 (0, 0)) := by rw [hw4]; exact setCell_blk (setCell_blk HKX.out 3 _) 4 _
          have hrow4 := hm4.row HROW.out (fun k hk e => by have := (HROW.out.lt k hk).1; have := HS7.out; omega)
          have hmd4 := HMD.out.trans hm4 (fun _ _ e => e)
          have E4 := Lib.hid hw4
          have K4 := Lib.hid k4
          have HROW4 := Lib.hid hrow4
          have HMD4 := Lib.hid hmd4
          clear hw4 hm4 k4 hrow4 hmd4 HROW HMD
          go_wp2
          rw [← E4.out]
          go_roundg (N - (i + 1) + 1)
          case measure => have := HG.out; omega
          case rel =>
            have hs := HST.out [] (Li ++ bytesL p, true, false) (by simp [stepP, HPN.out])
            refine ⟨i + 1, Ri, Li ++ bytesL p, true, false, oa, j, oc, by go_num, rfl, rfl, by omega, hs.1, by rw [hs.2, List.append_nil]; exact HJ.out, HRT.out.skip _ (by have := HRL.out; omega), (fun e => by cases e), ?_, ?_, HMD4.out⟩
            · rw [← HRI.out]; exact K4.out
            · rw [hs.2, List.append_nil]
              exact HROW4.out
      | true =>
        cases ci with
        | false =>
          clear hbc
          by_cases hle : ri ≤ most
          · have d5 : decide ((ri : Int) ≤ most) = true := by simp; omega
            have d6 : decide (ri ≤ most) = true := by simp; omega
            obtain ⟨w4, hw4⟩ : ∃ W, W = (wr.setCell ⟨X, 3, none⟩ (.bool true)).setCell ⟨X, 4, none⟩ (.bool false) := ⟨_, rfl⟩
            have hm4 : Mod (fun k => k = X) wr w4 := by rw [hw4]; exact ((Mod.refl (fun k => k = X) wr).setCell ⟨X, 3, none⟩ (.inl rfl) _).setCell ⟨X, 4, none⟩ (.inl rfl) _
            have k4 : w4.heap[X]? = some (.cells #[.slice a n' c', .int .i64 most, .string RSi, .bool true, .bool false] 48 (0, 0)) := by rw [hw4]; exact setCell_blk (setCell_blk HKX.out 3 _) 4 _
            have hrow4 := hm4.row HROW.out (fun k hk e => by have := (HROW.out.lt k hk).1; have := HS7.out; omega)
            have hmd4 := HMD.out.trans hm4 (fun _ _ e => e)
            have E4 := Lib.hid hw4
            have K4 := Lib.hid k4
            have HROW4 := Lib.hid hrow4
            have HMD4 := Lib.hid hmd4
            clear hw4 hm4 k4 hrow4 hmd4 HROW HMD
            have HBt := Lib.hid (fun W => refBytes_any p W HPT.out)
            obtain ⟨PB, hPB⟩ : ∃ s, s = strOfNums (bytesL p) := ⟨_, rfl⟩
            obtain ⟨pl, hpl⟩ : ∃ n, n = (bytesL p).length := ⟨_, rfl⟩
            have zp : PB.size = pl := by rw [hPB, strOfNums_size, hpl]
            have hpl4 : pl ≤ 4 := by rw [hpl]; exact (bytesL_len _).2
            have ez : (9223372036854775807 < ri + pl) = False := eq_false (by omega)
            have HPB := Lib.hid (And.intro HPT.out (And.intro hpl hPB))
            clear hPB hpl
            go_upto_region 19 with fail
            rw [← E4.out]
            refine wp_region_K 7 (fun W => W.cell? ⟨X, 2, none⟩ = some (.string RSi)) (by kernel_rfl) ?_
            obtain ⟨wd, hwd⟩ : ∃ W, W = (w4).drew := ⟨_, rfl⟩
            have HBd : Hid (Below (w4).heap.size (w4) wd) := Lib.hid (by rw [hwd]; exact Below.drewN' (w4) 1)
            have hS0 : (fun W : World => W.cell? ⟨X, 2, none⟩ = some (.string RSi)) wd := by rw [hwd]; exact cell_blk K4.out 2 _ rfl
            rw [← hwd]
            clear hwd
            refine' wpAnyK_take (i := 0) (oi := { dst := some 75, op := Op.fieldAddr 48 (Operand.tmp 2) 2, type := 0, pos := "ref.go:66", after := #[], guard := none }) (v := ?v4001) rfl (by kernel_rfl) (by kernel_rfl) (by kernel_rfl) [] (by kernel_rfl) (by decide) (by kernel_rfl) (by kernel_rfl) (fun _ _ _ h => h) hS0 (.inl ⟨by first | rfl | simp [Region.wanted, yielded], ?hy4001⟩) ?rest4001
            case hy4001 => (intro W hW; have f1 := hW; go_simp; try with_reducible rfl)
            simp only [Act.put, List.setIfInBounds_toArray, List.set_cons_zero, List.set_cons_succ]
            refine' wpAnyK_take (i := 1) (oi := { dst := some 76, op := Op.load 9 (Operand.tmp 75), type := 9, pos := "ref.go:66", after := #[{ on := 0, ground := Ground.data }], guard := none }) (v := ?v4002) rfl (by kernel_rfl) (by kernel_rfl) (by kernel_rfl) [] (by kernel_rfl) (by decide) (by kernel_rfl) (by kernel_rfl) (fun _ _ _ h => h) hS0 (.inl ⟨by first | rfl | simp [Region.wanted, yielded], ?hy4002⟩) ?rest4002
            case hy4002 => (intro W hW; have f1 := hW; go_simp; try with_reducible rfl)
            simp only [Act.put, List.setIfInBounds_toArray, List.set_cons_zero, List.set_cons_succ]
            refine' wpAnyK_take (i := 2) (oi := { dst := some 77, op := Op.move (Operand.tmp 11), type := 3, pos := "ref.go:66", after := #[], guard := none }) (v := ?v4003) rfl (by kernel_rfl) (by kernel_rfl) (by kernel_rfl) [] (by kernel_rfl) (by decide) (by kernel_rfl) (by kernel_rfl) (fun _ _ _ h => h) hS0 (.inl ⟨by first | rfl | simp [Region.wanted, yielded], ?hy4003⟩) ?rest4003
            case hy4003 => (intro W hW; have f1 := hW; go_simp; try with_reducible rfl)
            simp only [Act.put, List.setIfInBounds_toArray, List.set_cons_zero, List.set_cons_succ]
            refine wpAnyK_ready (rs := [3]) (by kernel_rfl) (by simp) ?_
            refine AllReadyK.cons (o := { dst := some 78, op := Op.call { callee := Callee.value (Operand.func 35), args := #[Operand.tmp 77], argTypes := #[3] }, type := 22, pos := "ref.go:66", after := #[{ on := 2, ground := Ground.data }], guard := none }) rfl (fun KK hK => ?_) (AllReadyK.nil)
            try simp only [List.getElem_toArray, List.getElem_cons_succ, List.getElem_cons_zero]
            go_simp
            refine (HBt.out wd).mono ?_
            rintro e w5 ⟨ba, bc, rfl, hA5, hn5, hb5⟩
            have hbb := HBd.out.trans (hb5.mono HBd.out.size)
            have kx5 := (hbb.block X (blk_lt K4.out)).trans K4.out
            have cv5 := conv_any bc hA5 (fun e => absurd e hn5)
            rw [← HPB.out.2.1, ← HPB.out.2.2] at cv5
            rw [← HPB.out.2.1]
            have HB5 := Lib.hid hbb
            have K5 := Lib.hid kx5
            have hS5 : (fun W : World => W.cell? ⟨X, 2, none⟩ = some (.string RSi)) w5 := cell_blk kx5 2 _ rfl
            clear hA5 hn5 hb5 hbb kx5
            refine hK.out _ _ (fun _ => hS5) ?_
            clear hK KK
            try simp only [Act.put, List.setIfInBounds_toArray, List.set_cons_zero, List.set_cons_succ]
            refine wpAnyK_ready (rs := [4]) (by kernel_rfl) (by simp) ?_
            refine AllReadyK.cons (o := { dst := some 79, op := Op.convert 22 9 (Operand.tmp 78), type := 9, pos := "ref.go:66", after := #[{ on := 3, ground := Ground.data }], guard := none }) rfl (fun KK hK => ?_) (AllReadyK.nil)
            try simp only [List.getElem_toArray, List.getElem_cons_succ, List.getElem_cons_zero]
            go_simp
            refine hK.out _ _ (fun _ => hS5) ?_
            clear hK KK
            try simp only [Act.put, List.setIfInBounds_toArray, List.set_cons_zero, List.set_cons_succ]
            refine' wpAnyK_take (i := 5) (oi := { dst := some 80, op := Op.binOp BinOp.add 9 (Operand.tmp 76) (Operand.tmp 79) 9, type := 9, pos := "ref.go:66", after := #[{ on := 1, ground := Ground.data }, { on := 4, ground := Ground.data }], guard := none }) (v := ?v4004) rfl (by kernel_rfl) (by kernel_rfl) (by kernel_rfl) [] (by kernel_rfl) (by decide) (by kernel_rfl) (by kernel_rfl) (fun _ _ _ h => h) hS5 (.inl ⟨by first | rfl | simp [Region.wanted, yielded], ?hy4004⟩) ?rest4004
            case hy4004 => (intro W hW; have f1 := hW; go_simp; try with_reducible rfl)
            simp only [Act.put, List.setIfInBounds_toArray, List.set_cons_zero, List.set_cons_succ]
            refine' wpAnyK_take (i := 6) (oi := { dst := some 81, op := Op.fieldAddr 48 (Operand.tmp 2) 2, type := 0, pos := "ref.go:66", after := #[{ on := 0, ground := Ground.phase }, { on := 1, ground := Ground.phase }, { on := 2, ground := Ground.phase }, { on := 3, ground := Ground.phase }, { on := 4, ground := Ground.phase }, { on := 5, ground := Ground.phase }], guard := none }) (v := ?v4005) rfl (by kernel_rfl) (by kernel_rfl) (by kernel_rfl) [] (by kernel_rfl) (by decide) (by kernel_rfl) (by kernel_rfl) (fun _ _ _ h => h) hS5 (.inl ⟨by first | rfl | simp [Region.wanted, yielded], ?hy4005⟩) ?rest4005
            case hy4005 => (intro W hW; have f1 := hW; go_simp; try with_reducible rfl)
            simp only [Act.put, List.setIfInBounds_toArray, List.set_cons_zero, List.set_cons_succ]
            refine wpAnyK_ready (rs := [7]) (by kernel_rfl) (by simp) ?_
            refine AllReadyK.cons (o := { dst := none, op := Op.store 9 (Operand.tmp 81) (Operand.tmp 80), type := 0, pos := "ref.go:66", after := #[{ on := 6, ground := Ground.data }, { on := 5, ground := Ground.data }, { on := 3, ground := Ground.chain }, { on := 0, ground := Ground.phase }, { on := 1, ground := Ground.phase }, { on := 2, ground := Ground.phase }, { on := 3, ground := Ground.phase }, { on := 4, ground := Ground.phase }, { on := 5, ground := Ground.phase }], guard := none }) rfl (fun KK hK => ?_) (AllReadyK.nil)
            try simp only [List.getElem_toArray, List.getElem_cons_succ, List.getElem_cons_zero]
            have e0 := cell_blk K5.out 2 _ rfl
            have e1 := frozen_blk K5.out 2
            have e2 := blk_lt K5.out
            go_simp
            clear e0 e1 e2
            refine hK.out _ _ (fun h => absurd (show true = false from h) (by decide)) ?_
            clear hK KK
            try simp only [Act.put, List.setIfInBounds_toArray, List.set_cons_zero, List.set_cons_succ]
            refine wpAnyK_done (by kernel_rfl) ?_ _
            go_wp2_with fail
            go_roundg (N - (i + 1) + 1)
            case measure => have := HG.out; omega
            case rel =>
              have hs := HST.out [] (Li ++ bytesL p, true, false) (by simp [stepP, HPN.out])
              have hmb : Mod (fun k => k = X) w4 w5 := Mod.of_below HB5.out _
              have hm : Mod (fun k => k = X) w4 (w5.setCell ⟨X, 2, none⟩ (.string (RSi ++ PB))) := hmb.setCell ⟨X, 2, none⟩ (.inl rfl) _
              refine ⟨i + 1, Ri ++ bytesL p, Li ++ bytesL p, true, false, oa, j, oc, by go_num, rfl, rfl, by omega, hs.1, by rw [hs.2, List.append_nil]; exact HJ.out, HRT.out.more HPB.out.1 (by have := HRL.out; omega), (fun e => by cases e), ?_, ?_, HMD4.out.trans hm (fun _ _ e => e)⟩
              · rw [strOfNums_append, ← HRI.out, ← HPB.out.2.2]; exact setCell_blk K5.out 2 _
              · rw [hs.2, List.append_nil]
                exact hm.row HROW4.out (fun k hk e => by have := (HROW4.out.lt k hk).1; have := HS7.out; omega)
          · have d5 : decide ((ri : Int) ≤ most) = false := by simp; omega
            have d6 : decide (ri ≤ most) = false := by simp; omega
            obtain ⟨w4, hw4⟩ : ∃ W, W = (wr.setCell ⟨X, 3, none⟩ (.bool true)).setCell ⟨X, 4, none⟩ (.bool false) := ⟨_, rfl⟩
            have hm4 : Mod (fun k => k = X) wr w4 := by rw [hw4]; exact ((Mod.refl (fun k => k = X) wr).setCell ⟨X, 3, none⟩ (.inl rfl) _).setCell ⟨X, 4, none⟩ (.inl rfl) _
            have k4 : w4.heap[X]? = some (.cells #[.slice a n' c', .int .i64 most, .string RSi, .bool true, .bool false] 48 (0, 0)) := by rw [hw4]; exact setCell_blk (setCell_blk HKX.out 3 _) 4 _
            have hrow4 := hm4.row HROW.out (fun k hk e => by have := (HROW.out.lt k hk).1; have := HS7.out; omega)
            have hmd4 := HMD.out.trans hm4 (fun _ _ e => e)
            have E4 := Lib.hid hw4
            have K4 := Lib.hid k4
            have HROW4 := Lib.hid hrow4
            have HMD4 := Lib.hid hmd4
            clear hw4 hm4 k4 hrow4 hmd4 HROW HMD
            go_wp2
            rw [← E4.out]
            go_roundg (N - (i + 1) + 1)
            case measure => have := HG.out; omega
            case rel =>
              have hs := HST.out [] (Li ++ bytesL p, true, false) (by simp [stepP, HPN.out])
              refine ⟨i + 1, Ri, Li ++ bytesL p, true, false, oa, j, oc, by go_num, rfl, rfl, by omega, hs.1, by rw [hs.2, List.append_nil]; exact HJ.out, HRT.out.skip _ (by have := HRL.out; omega), (fun e => by cases e), ?_, ?_, HMD4.out⟩
              · rw [← HRI.out]; exact K4.out
              · rw [hs.2, List.append_nil]
                exact HROW4.out
        | true =>
          clear hbc
          by_cases hle : ri ≤ most
          · have d5 : decide ((ri : Int) ≤ most) = true := by simp; omega
            have d6 : decide (ri ≤ most) = true := by simp; omega
            obtain ⟨w4, hw4⟩ : ∃ W, W = (wr.setCell ⟨X, 3, none⟩ (.bool true)).setCell ⟨X, 4, none⟩ (.bool false) := ⟨_, rfl⟩
            have hm4 : Mod (fun k => k = X) wr w4 := by rw [hw4]; exact ((Mod.refl (fun k => k = X) wr).setCell ⟨X, 3, none⟩ (.inl rfl) _).setCell ⟨X, 4, none⟩ (.inl rfl) _
            have k4 : w4.heap[X]? = some (.cells #[.slice a n' c', .int .i64 most, .string RSi, .bool true, .bool false] 48 (0, 0)) := by rw [hw4]; exact setCell_blk (setCell_blk HKX.out 3 _) 4 _
            have hrow4 := hm4.row HROW.out (fun k hk e => by have := (HROW.out.lt k hk).1; have := HS7.out; omega)
            have hmd4 := HMD.out.trans hm4 (fun _ _ e => e)
            have E4 := Lib.hid hw4
            have K4 := Lib.hid k4
            have HROW4 := Lib.hid hrow4
            have HMD4 := Lib.hid hmd4
            clear hw4 hm4 k4 hrow4 hmd4 HROW HMD
            have HBt := Lib.hid (fun W => refBytes_any p W HPT.out)
            obtain ⟨PB, hPB⟩ : ∃ s, s = strOfNums (bytesL p) := ⟨_, rfl⟩
            obtain ⟨pl, hpl⟩ : ∃ n, n = (bytesL p).length := ⟨_, rfl⟩
            have zp : PB.size = pl := by rw [hPB, strOfNums_size, hpl]
            have hpl4 : pl ≤ 4 := by rw [hpl]; exact (bytesL_len _).2
            have ez : (9223372036854775807 < ri + pl) = False := eq_false (by omega)
            have HPB := Lib.hid (And.intro HPT.out (And.intro hpl hPB))
            clear hPB hpl
            go_upto_region 19 with fail
            rw [← E4.out]
            refine wp_region_K 7 (fun W => W.cell? ⟨X, 2, none⟩ = some (.string RSi)) (by kernel_rfl) ?_
            obtain ⟨wd, hwd⟩ : ∃ W, W = (w4).drew := ⟨_, rfl⟩
            have HBd : Hid (Below (w4).heap.size (w4) wd) := Lib.hid (by rw [hwd]; exact Below.drewN' (w4) 1)
            have hS0 : (fun W : World => W.cell? ⟨X, 2, none⟩ = some (.string RSi)) wd := by rw [hwd]; exact cell_blk K4.out 2 _ rfl
            rw [← hwd]
            clear hwd
            refine' wpAnyK_take (i := 0) (oi := { dst := some 75, op := Op.fieldAddr 48 (Operand.tmp 2) 2, type := 0, pos := "ref.go:66", after := #[], guard := none }) (v := ?v5001) rfl (by kernel_rfl) (by kernel_rfl) (by kernel_rfl) [] (by kernel_rfl) (by decide) (by kernel_rfl) (by kernel_rfl) (fun _ _ _ h => h) hS0 (.inl ⟨by first | rfl | simp [Region.wanted, yielded], ?hy5001⟩) ?rest5001
            case hy5001 => (intro W hW; have f1 := hW; go_simp; try with_reducible rfl)
            simp only [Act.put, List.setIfInBounds_toArray, List.set_cons_zero, List.set_cons_succ]
            refine' wpAnyK_take (i := 1) (oi := { dst := some 76, op := Op.load 9 (Operand.tmp 75), type := 9, pos := "ref.go:66", after := #[{ on := 0, ground := Ground.data }], guard := none }) (v := ?v5002) rfl (by kernel_rfl) (by kernel_rfl) (by kernel_rfl) [] (by kernel_rfl) (by decide) (by kernel_rfl) (by kernel_rfl) (fun _ _ _ h => h) hS0 (.inl ⟨by first | rfl | simp [Region.wanted, yielded], ?hy5002⟩) ?rest5002
            case hy5002 => (intro W hW; have f1 := hW; go_simp; try with_reducible rfl)
            simp only [Act.put, List.setIfInBounds_toArray, List.set_cons_zero, List.set_cons_succ]
            refine' wpAnyK_take (i := 2) (oi := { dst := some 77, op := Op.move (Operand.tmp 11), type := 3, pos := "ref.go:66", after := #[], guard := none }) (v := ?v5003) rfl (by kernel_rfl) (by kernel_rfl) (by kernel_rfl) [] (by kernel_rfl) (by decide) (by kernel_rfl) (by kernel_rfl) (fun _ _ _ h => h) hS0 (.inl ⟨by first | rfl | simp [Region.wanted, yielded], ?hy5003⟩) ?rest5003
            case hy5003 => (intro W hW; have f1 := hW; go_simp; try with_reducible rfl)
            simp only [Act.put, List.setIfInBounds_toArray, List.set_cons_zero, List.set_cons_succ]
            refine wpAnyK_ready (rs := [3]) (by kernel_rfl) (by simp) ?_
            refine AllReadyK.cons (o := { dst := some 78, op := Op.call { callee := Callee.value (Operand.func 35), args := #[Operand.tmp 77], argTypes := #[3] }, type := 22, pos := "ref.go:66", after := #[{ on := 2, ground := Ground.data }], guard := none }) rfl (fun KK hK => ?_) (AllReadyK.nil)
            try simp only [List.getElem_toArray, List.getElem_cons_succ, List.getElem_cons_zero]
            go_simp
            refine (HBt.out wd).mono ?_
            rintro e w5 ⟨ba, bc, rfl, hA5, hn5, hb5⟩
            have hbb := HBd.out.trans (hb5.mono HBd.out.size)
            have kx5 := (hbb.block X (blk_lt K4.out)).trans K4.out
            have cv5 := conv_any bc hA5 (fun e => absurd e hn5)
            rw [← HPB.out.2.1, ← HPB.out.2.2] at cv5
            rw [← HPB.out.2.1]
            have HB5 := Lib.hid hbb
            have K5 := Lib.hid kx5
            have hS5 : (fun W : World => W.cell? ⟨X, 2, none⟩ = some (.string RSi)) w5 := cell_blk kx5 2 _ rfl
            clear hA5 hn5 hb5 hbb kx5
            refine hK.out _ _ (fun _ => hS5) ?_
            clear hK KK
            try simp only [Act.put, List.setIfInBounds_toArray, List.set_cons_zero, List.set_cons_succ]
            refine wpAnyK_ready (rs := [4]) (by kernel_rfl) (by simp) ?_
            refine AllReadyK.cons (o := { dst := some 79, op := Op.convert 22 9 (Operand.tmp 78), type := 9, pos := "ref.go:66", after := #[{ on := 3, ground := Ground.data }], guard := none }) rfl (fun KK hK => ?_) (AllReadyK.nil)
            try simp only [List.getElem_toArray, List.getElem_cons_succ, List.getElem_cons_zero]
            go_simp
            refine hK.out _ _ (fun _ => hS5) ?_
            clear hK KK
            try simp only [Act.put, List.setIfInBounds_toArray, List.set_cons_zero, List.set_cons_succ]
            refine' wpAnyK_take (i := 5) (oi := { dst := some 80, op := Op.binOp BinOp.add 9 (Operand.tmp 76) (Operand.tmp 79) 9, type := 9, pos := "ref.go:66", after := #[{ on := 1, ground := Ground.data }, { on := 4, ground := Ground.data }], guard := none }) (v := ?v5004) rfl (by kernel_rfl) (by kernel_rfl) (by kernel_rfl) [] (by kernel_rfl) (by decide) (by kernel_rfl) (by kernel_rfl) (fun _ _ _ h => h) hS5 (.inl ⟨by first | rfl | simp [Region.wanted, yielded], ?hy5004⟩) ?rest5004
            case hy5004 => (intro W hW; have f1 := hW; go_simp; try with_reducible rfl)
            simp only [Act.put, List.setIfInBounds_toArray, List.set_cons_zero, List.set_cons_succ]
            refine' wpAnyK_take (i := 6) (oi := { dst := some 81, op := Op.fieldAddr 48 (Operand.tmp 2) 2, type := 0, pos := "ref.go:66", after := #[{ on := 0, ground := Ground.phase }, { on := 1, ground := Ground.phase }, { on := 2, ground := Ground.phase }, { on := 3, ground := Ground.phase }, { on := 4, ground := Ground.phase }, { on := 5, ground := Ground.phase }], guard := none }) (v := ?v5005) rfl (by kernel_rfl) (by kernel_rfl) (by kernel_rfl) [] (by kernel_rfl) (by decide) (by kernel_rfl) (by kernel_rfl) (fun _ _ _ h => h) hS5 (.inl ⟨by first | rfl | simp [Region.wanted, yielded], ?hy5005⟩) ?rest5005
            case hy5005 => (intro W hW; have f1 := hW; go_simp; try with_reducible rfl)
            simp only [Act.put, List.setIfInBounds_toArray, List.set_cons_zero, List.set_cons_succ]
            refine wpAnyK_ready (rs := [7]) (by kernel_rfl) (by simp) ?_
            refine AllReadyK.cons (o := { dst := none, op := Op.store 9 (Operand.tmp 81) (Operand.tmp 80), type := 0, pos := "ref.go:66", after := #[{ on := 6, ground := Ground.data }, { on := 5, ground := Ground.data }, { on := 3, ground := Ground.chain }, { on := 0, ground := Ground.phase }, { on := 1, ground := Ground.phase }, { on := 2, ground := Ground.phase }, { on := 3, ground := Ground.phase }, { on := 4, ground := Ground.phase }, { on := 5, ground := Ground.phase }], guard := none }) rfl (fun KK hK => ?_) (AllReadyK.nil)
            try simp only [List.getElem_toArray, List.getElem_cons_succ, List.getElem_cons_zero]
            have e0 := cell_blk K5.out 2 _ rfl
            have e1 := frozen_blk K5.out 2
            have e2 := blk_lt K5.out
            go_simp
            clear e0 e1 e2
            refine hK.out _ _ (fun h => absurd (show true = false from h) (by decide)) ?_
            clear hK KK
            try simp only [Act.put, List.setIfInBounds_toArray, List.set_cons_zero, List.set_cons_succ]
            refine wpAnyK_done (by kernel_rfl) ?_ _
            go_wp2_with fail
            go_roundg (N - (i + 1) + 1)
            case measure => have := HG.out; omega
            case rel =>
              have hs := HST.out [] (Li ++ bytesL p, true, false) (by simp [stepP, HPN.out])
              have hmb : Mod (fun k => k = X) w4 w5 := Mod.of_below HB5.out _
              have hm : Mod (fun k => k = X) w4 (w5.setCell ⟨X, 2, none⟩ (.string (RSi ++ PB))) := hmb.setCell ⟨X, 2, none⟩ (.inl rfl) _
              refine ⟨i + 1, Ri ++ bytesL p, Li ++ bytesL p, true, false, oa, j, oc, by go_num, rfl, rfl, by omega, hs.1, by rw [hs.2, List.append_nil]; exact HJ.out, HRT.out.more HPB.out.1 (by have := HRL.out; omega), (fun e => by cases e), ?_, ?_, HMD4.out.trans hm (fun _ _ e => e)⟩
              · rw [strOfNums_append, ← HRI.out, ← HPB.out.2.2]; exact setCell_blk K5.out 2 _
              · rw [hs.2, List.append_nil]
                exact hm.row HROW4.out (fun k hk e => by have := (HROW4.out.lt k hk).1; have := HS7.out; omega)
          · have d5 : decide ((ri : Int) ≤ most) = false := by simp; omega
            have d6 : decide (ri ≤ most) = false := by simp; omega
            obtain ⟨w4, hw4⟩ : ∃ W, W = (wr.setCell ⟨X, 3, none⟩ (.bool true)).setCell ⟨X, 4, none⟩ (.bool false) := ⟨_, rfl⟩
            have hm4 : Mod (fun k => k = X) wr w4 := by rw [hw4]; exact ((Mod.refl (fun k => k = X) wr).setCell ⟨X, 3, none⟩ (.inl rfl) _).setCell ⟨X, 4, none⟩ (.inl rfl) _
            have k4 : w4.heap[X]? = some (.cells #[.slice a n' c', .int .i64 most, .string RSi, .bool true, .bool false] 48 (0, 0)) := by rw [hw4]; exact setCell_blk (setCell_blk HKX.out 3 _) 4 _
            have hrow4 := hm4.row HROW.out (fun k hk e => by have := (HROW.out.lt k hk).1; have := HS7.out; omega)
            have hmd4 := HMD.out.trans hm4 (fun _ _ e => e)
            have E4 := Lib.hid hw4
            have K4 := Lib.hid k4
            have HROW4 := Lib.hid hrow4
            have HMD4 := Lib.hid hmd4
            clear hw4 hm4 k4 hrow4 hmd4 HROW HMD
            go_wp2
            rw [← E4.out]
            go_roundg (N - (i + 1) + 1)
            case measure => have := HG.out; omega
            case rel =>
              have hs := HST.out [] (Li ++ bytesL p, true, false) (by simp [stepP, HPN.out])
              refine ⟨i + 1, Ri, Li ++ bytesL p, true, false, oa, j, oc, by go_num, rfl, rfl, by omega, hs.1, by rw [hs.2, List.append_nil]; exact HJ.out, HRT.out.skip _ (by have := HRL.out; omega), (fun e => by cases e), ?_, ?_, HMD4.out⟩
              · rw [← HRI.out]; exact K4.out
              · rw [hs.2, List.append_nil]
                exact HROW4.out
    · obtain rfl : i = N := by omega
      have htk : ps.take i = ps := List.take_of_length_le (by have := HNL.out.2; omega)
      rw [htk, HR.out.2.2.1] at hst hj hrow
      simp only [Prod.mk.injEq] at hst
      obtain ⟨rfl, rfl, rfl⟩ := hst
      simp only at hj hrow
      subst hj
      have l1 : decide ((i : Int) < i) = false := by simp
      have k2 := (hmd.block (X + 1) (blk_lt K72.out) (by omega)).trans K72.out
      have d0 := cell_blk hkx 0 _ rfl
      have d1 := cell_blk hkx 1 _ rfl
      have d2 := cell_blk hkx 2 _ rfl
      have d3 := cell_blk hkx 3 _ rfl
      have d4 := cell_blk hkx 4 _ rfl
      have e0 := cell_blk k2 0 _ rfl
      have e1 := cell_blk k2 1 _ rfl
      have e2 := cell_blk k2 2 _ rfl
      have e3 := cell_blk k2 3 _ rfl
      have e4 := cell_blk k2 4 _ rfl
      have ff := fun q => frozen_blk k2 q
      have f0 := ff 0
      have f1 := ff 1
      have f2 := ff 2
      have f3 := ff 3
      have f4 := ff 4
      have lxx := blk_lt hkx
      have lx2 := blk_lt k2
      have HMD := Lib.hid hmd
      have HROW := Lib.hid hrow
      have HRT := Lib.hid hrt
      have HKX := Lib.hid hkx
      have K2 := Lib.hid k2
      clear hmd hrow hrt hbc hgk hkx k2 ff htk
      go_wp2
      refine bodyPost_ret (v := .tuple #[.agg #[.slice a n' c', .int .i64 most, .string (strOfNums Ri), .bool bg', .bool cr'], .slice oa Ls.length oc]) (by simp [results, Try.results18, go_sem, *]) rfl ⟨a, n', c', Ri, oa, oc, rfl, ?_, HA7.out.2, HRT.out, ?_, ?_⟩
      · have hmf : Mod (fun k => k = X ∨ k = X + 1) w7 _ := (((((HMD.out.mono (T := fun k => k = X ∨ k = X + 1) (fun k _ e => .inl e)).setCell ⟨X + 1, 0, none⟩ (.inl (.inr rfl)) (.slice a n' c')).setCell ⟨X + 1, 1, none⟩ (.inl (.inr rfl)) (.int .i64 most)).setCell ⟨X + 1, 2, none⟩ (.inl (.inr rfl)) (.string (strOfNums Ri))).setCell ⟨X + 1, 3, none⟩ (.inl (.inr rfl)) (.bool bg')).setCell ⟨X + 1, 4, none⟩ (.inl (.inr rfl)) (.bool cr')
        exact (HA7.out.1.mod hmf (fun k hk e => by omega)).mono (fun k _ hk => by have := EX.out; omega)
      · have hmf : Mod (fun k => k = X + 1) wr _ := (((((Mod.refl (fun k => k = X + 1) wr).setCell ⟨X + 1, 0, none⟩ (.inl rfl) (.slice a n' c')).setCell ⟨X + 1, 1, none⟩ (.inl rfl) (.int .i64 most)).setCell ⟨X + 1, 2, none⟩ (.inl rfl) (.string (strOfNums Ri))).setCell ⟨X + 1, 3, none⟩ (.inl rfl) (.bool bg')).setCell ⟨X + 1, 4, none⟩ (.inl rfl) (.bool cr')
        exact (hmf.row HROW.out (fun k hk e => by have := (HROW.out.lt k hk).1; have := HX17.out; omega)).mono HB67.out
      · have hmf : Mod (fun k => k = X ∨ k = X + 1) w7 _ := (((((HMD.out.mono (T := fun k => k = X ∨ k = X + 1) (fun k _ e => .inl e)).setCell ⟨X + 1, 0, none⟩ (.inl (.inr rfl)) (.slice a n' c')).setCell ⟨X + 1, 1, none⟩ (.inl (.inr rfl)) (.int .i64 most)).setCell ⟨X + 1, 2, none⟩ (.inl (.inr rfl)) (.string (strOfNums Ri))).setCell ⟨X + 1, 3, none⟩ (.inl (.inr rfl)) (.bool bg')).setCell ⟨X + 1, 4, none⟩ (.inl (.inr rfl)) (.bool cr')
        exact ((Mod.of_below HB7.out (fun k => k = X ∨ k = X + 1)).trans hmf (fun _ _ e => e)).below (fun k hk e => by have := EX.out; omega)
end Go.Proofs.Ytfkfooclapogjaa
