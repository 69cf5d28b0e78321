/-
  LinesHold, walked.
-/
import Derived.Test.YtfkfooclapogjaaWl
namespace Go.Proofs.Ytfkfooclapogjaa
open Go.RowKit
set_option linter.unusedVariables false
set_option linter.unusedSimpArgs false

/-- Bytes of points that are no ends. -/
def Good (L : List Int) : Prop := ∃ ps, (∀ p ∈ ps, Pt p) ∧ NoEnd ps ∧ L = enc ps
theorem Good.nil : Good [] := ⟨[], by simp, by simp [NoEnd], rfl⟩
theorem Good.more {L : List Int} (h : Good L) {p : Int} (hp : Pt p) (h1 : p ≠ 13) (h2 : p ≠ 10) : Good (L ++ bytesL p) := by
  obtain ⟨ps, h3, h4, rfl⟩ := h
  refine ⟨ps ++ [p], fun q hq => ?_, fun q hq => ?_, by rw [enc_append]; simp [enc]⟩
  · rcases List.mem_append.1 hq with e | e
    · exact h3 q e
    · simp at e; subst e; exact hp
  · rcases List.mem_append.1 hq with e | e
    · exact h4 q e
    · simp at e; subst e; exact ⟨h1, h2⟩
theorem runP_good : ∀ (ps : List Int) (s : Ss), (∀ p ∈ ps, Pt p) → Good s.1 → (∀ L ∈ (runP s ps).1, Good L) ∧ Good (runP s ps).2.1
  | [], s, _, h => ⟨by simp [runP], h⟩
  | p :: ps, s, hp, h => by
    have key : (∀ L ∈ (stepP s p).1, Good L) ∧ Good (stepP s p).2.1 := by
      unfold stepP
      split
      · exact ⟨by simp, h⟩
      · split
        · exact ⟨by simp, h⟩
        · split
          · exact ⟨by simp; exact h, Good.nil⟩
          · rename_i h1
            exact ⟨by simp, h.more (hp p (by simp)) (fun e => h1 (.inl e)) (fun e => h1 (.inr e))⟩
    obtain ⟨h1, h2⟩ := runP_good ps (stepP s p).2 (fun q hq => hp q (by simp [hq])) key.2
    refine ⟨fun L hL => ?_, h2⟩
    rcases List.mem_append.1 hL with e | e
    · exact key.1 L e
    · exact h1 L e
theorem row_news {w : World} {base : Nat} {e : TypeId} {size : Nat} {a : Option Addr} {n c : Nat} {xs : List Value} (h : w.ownsRow base e size (.slice a n c) n xs) : (a = none → n = 0 ∧ c = 0) ∧ ∀ ad, a = some ad → ∀ j u, xs[j]? = some u → w.cell? (ad.add j) = some u := by
  have hc := fun g hg => h.cells (g := g) hg
  rcases h.2 with ⟨h2, h1⟩ | ⟨g, c', _, h1, _⟩
  · injection h2 with e1 e2 e3
    subst e1
    exact ⟨(fun _ => ⟨h1, e3⟩), (fun ad e => by cases e)⟩
  · injection h1 with e1 e2 e3
    subst e1
    exact ⟨(fun e => by cases e), (fun ad e => by cases e; exact hc g rfl)⟩
/-- What the law asks of a line. -/
structure Fine (most : Nat) (x : LV) : Prop where
  len : x.1.size ≤ most
  long : x.2 = true → x.1 = ⟨#[]⟩
  sound : ofL (nums x.1) = nums x.1
  clean : ∀ k (h : k < x.1.size), ∃ y : Int, ((x.1[k]'h).toNat : Int) = y ∧ y ≠ 13 ∧ y ≠ 10
theorem nums_at (s : ByteArray) (k : Nat) (h : k < s.size) : (((s[k]'h).toNat : Int)) ∈ nums s := by
  have hl : k < s.data.toList.length := by rw [Array.length_toList]; exact h
  have : s[k]'h = s.data.toList[k]'hl := rfl
  rw [this]
  exact List.mem_map.2 ⟨_, List.getElem_mem _, rfl⟩
theorem Fine.of_good {most : Nat} {L : List Int} (h : Good L) : Fine most (toldL most L) := by
  unfold toldL
  split
  · rename_i hle
    obtain ⟨ps, h1, h2, rfl⟩ := h
    have hb := enc_byt h1
    refine ⟨by simpa [strOfNums_size] using hle, fun e => (by cases e), ?_, fun k hk => ⟨_, rfl, ?_⟩⟩
    · simp only
      rw [nums_str hb, ofL_split, (pts_enc ps h1).1, (pts_enc ps h1).2]
      simp
    · have := nums_at (strOfNums (enc ps)) k hk
      rw [nums_str hb] at this
      exact enc_noend h1 h2 _ this
  · exact ⟨Nat.zero_le _, fun _ => rfl, by decide +kernel, fun k hk => absurd hk (Nat.not_lt_zero k)⟩
theorem lines_fine (most : Nat) (bs : List Int) (hb : Byt bs) : ∀ x ∈ (linesOf bs).map (toldL most), Fine most x := fun x hx => by
  obtain ⟨L, hL, rfl⟩ := List.mem_map.1 hx
  exact Fine.of_good ((runP_good (pts bs) ([], false, false) (pts_pt bs hb) Good.nil).1 L hL)
theorem lines_few (ps : List Int) : ∀ s : Ss, (runP s ps).1.length ≤ ps.length := by
  induction ps with
  | nil => intro s; simp [runP]
  | cons p ps ih =>
    intro s
    have h1 := ih (stepP s p).2
    have h2 : (stepP s p).1.length ≤ 1 := by
      unfold stepP
      split
      · simp
      · split
        · simp
        · split <;> simp
    simp only [runP, List.length_append, List.length_cons]
    omega

set_option maxHeartbeats 6400000 in
set_option maxRecDepth 100000 in
theorem holds_any (mz : Int) (a : Option Addr) (n cap : Nat) (zs : List Int) (ca : Option Addr) (cn ccap : Nat) (cs : List Int) (w : World) (h : InB w a n cap zs) (hc : InB w ca cn ccap cs) :
    Calls Try.prog 3 #[.int .i64 mz, .slice a n cap, .slice ca cn ccap] w fun e w' => e = .returned (.bool true) ∧ Below w.heap.size w w' := by
  have HWk := Lib.hid works_true
  have HNum := Lib.hid num_any
  obtain ⟨i0, hi0, hz0, hz1, hz2⟩ := info_parts Try.info35
  by_cases hbig : 300 < n ∨ mz < 1 ∨ 65536 < mz
  · obtain ⟨b1, b2, b3, hd1, hd2, hd3, hor⟩ : ∃ b1 b2 b3 : Bool, decide (300 < n) = b1 ∧ decide (mz < 1) = b2 ∧ decide (65536 < mz) = b3 ∧ (b1 = true ∨ b2 = true ∨ b3 = true) := ⟨_, _, _, rfl, rfl, rfl, by simpa using hbig⟩
    have hd1' : decide ((300 : Int) < n) = b1 := by rw [← hd1]; simp; omega
    clear h hc hbig
    cases b1 <;> cases b2 <;> cases b3 <;> first | (exfalso; simp at hor; done) | skip
    all_goals
      clear hor
      go_enter Try.func3, Try.ntmps3
      go_wp2_with (go_at_call 6; fail)
      refine (HWk.out _).mono ?_
      rintro e w1 ⟨rfl, hb⟩
      have HB := Lib.hid hb
      clear hb
      go_wp2
      go_ret
      exact ⟨rfl, HB.out⟩
  have hn300 : n ≤ 300 := by omega
  obtain ⟨most, rfl⟩ : ∃ m : Nat, mz = m := ⟨mz.toNat, by omega⟩
  have hm0 : 1 ≤ most := by omega
  have hm1 : most ≤ 65536 := by omega
  have d1 : decide (300 < n) = false := by simp; omega
  have d2 : decide ((300 : Int) < n) = false := by simp; omega
  have d3 : decide ((most : Int) < 1) = false := by simp; omega
  have d4 : decide (65536 < (most : Int)) = false := by simp; omega
  have d5 : decide (most < 1) = false := by simp; omega
  have d6 : decide (65536 < most) = false := by simp; omega
  have HA := Lib.hid h.1
  have HNn := Lib.hid h.2.1
  have hcap := h.2.2.1
  have HBy := Lib.hid h.2.2.2.2
  have HZL := Lib.hid h.1.1
  have HC := Lib.hid hc.1
  have HCB := Lib.hid hc.2.2.2.2
  have hcl : cn ≤ maxLen := Nat.le_trans hc.2.2.1 hc.2.2.2.1
  unfold maxLen at hcl
  have HCL := Lib.hid hc.1.1
  have HNew := Lib.hid (New_ls most w w hm0 hm1 (Below.refl _ _))
  clear h hc hbig
  go_enter Try.func3, Try.ntmps3
  go_wp2_with (go_at_call 7; fail)
  refine HNew.out.mono ?_
  rintro e w1 ⟨p, D, rfl, hq, _, _⟩
  have Q1 := Lib.hid (hq.mono (L := fun k => (Value.slice none 0 0).ownBlock = some k) (fun k e => by cases e))
  clear hq HNew
  go_wp2_with fail
  go_loopg [9, 10, 11] 5002 (fun gk v9 v10 v11 wr => ∃ (at' i : Nat) (oa : Option Addr) (m oc : Nat), v9 = .slice oa m oc ∧ v10 = .int .i64 (at' : Nat) ∧ v11 = .int .i64 (i : Nat) ∧ at' ≤ n ∧ i ≤ 5001 ∧ gk = 5002 - i ∧ m = (runP ([], false, false) (pts (zs.take at'))).1.length ∧
    LS w (fun k => (Value.slice oa m oc).ownBlock = some k) p D most (wts (zs.take at')) (runP ([], false, false) (pts (zs.take at'))).2 wr ∧ wr.ownsRow w.heap.size 35 2 (.slice oa m oc) m (tolds most (runP ([], false, false) (pts (zs.take at'))).1))
  case atStart => exact ⟨0, 0, none, 0, 0, rfl, rfl, rfl, by omega, by omega, rfl, by simp [pts_nil, runP], by simpa [wts_nil, pts_nil, runP] using Q1.out, by simpa [pts_nil, runP, tolds] using World.ownsRow_nil _ _ _ _⟩
  case round =>
    obtain ⟨at', i, oa, m, oc, rfl, rfl, rfl, hat, hi, hgk, hml, hq, hrow⟩ := hrel
    have HG := Lib.hid hgk
    have HQ := Lib.hid hq
    have HROW := Lib.hid hrow
    have hmm : m ≤ 300 := by
      have h1 := lines_few (pts (zs.take at')) ([], false, false)
      have h2 := pts_len (zs.take at')
      rw [List.length_take] at h2
      omega
    have HML := Lib.hid hml
    clear hgk hq hrow Q1 hml
    by_cases hgo : at' < n ∧ i ≤ 5000
    · obtain ⟨hlt, hi5⟩ := hgo
      have hatn : n ≠ 0 := by omega
      obtain ⟨b, off, hae, hb, _, hcz⟩ := HA.out.2 (by omega)
      subst hae
      clear hcz
      have l1 : decide (at' < n) = true := by simpa using hlt
      have l2 : decide ((at' : Int) < n) = true := by simpa using hlt
      have l3 : decide (i ≤ 5000) = true := by simpa using hi5
      have l4 : decide ((i : Int) ≤ 5000) = true := by simp; omega
      obtain ⟨bi, hbi⟩ : ∃ bi, decide (i < cn) = bi := ⟨_, rfl⟩
      have HBI := Lib.hid hbi
      go_upto_if 49 with fail
      clear hbi
      go_cut [12] from 46 to 60 (fun v12 wx => ∃ k : Nat, v12 = .int .i64 (k : Nat) ∧ at' + k ≤ n ∧ wr = wx)
      case first =>
        cases bi with
        | true =>
          have hic : i < cn := by simpa using HBI.out
          obtain ⟨cb, coff, rfl, hcb, _, hcc⟩ := HC.out.2 (by omega)
          have hci := (HQ.out.below.cell (p := ⟨cb, coff + i, none⟩) hcb).trans (hcc i hic)
          have hcbr : cb < wr.heap.size := Nat.lt_of_lt_of_le hcb HQ.out.below.size
          have hcby := byt_getD HCB.out (k := i) (by rw [HCL.out]; exact hic)
          obtain ⟨x, hx⟩ : ∃ x, x = cs.getD i 0 := ⟨_, rfl⟩
          rw [← hx] at hci hcby
          obtain ⟨hx0, hx1⟩ := hcby
          obtain ⟨y, hy⟩ : ∃ y : Int, (n : Int) - (at' : Int) = y := ⟨_, rfl⟩
          obtain ⟨z, hz⟩ : ∃ z : Int, (if y < x % 9 then y else x % 9) = z := ⟨_, rfl⟩
          have hz0 : 0 ≤ z ∧ at' + z ≤ n := by rw [← hz]; split <;> omega
          have HZ := Lib.hid hz0
          clear hcc hx hz0
          go_wp2
          go_meet
          exact ⟨z.toNat, by rw [Int.toNat_of_nonneg HZ.out.1], by have := HZ.out; omega, rfl⟩
        | false =>
          go_wp2
          go_meet
          exact ⟨1, rfl, by omega, rfl⟩
      case rest =>
        obtain ⟨k, rfl, hk, hww⟩ := hcut
        obtain rfl : wr = wc := hww
        have ha1 := (HA.out.below HQ.out.below).window at' k hk
        obtain ⟨bs, hbs⟩ : ∃ bs, bs = (zs.drop at').take k := ⟨_, rfl⟩
        rw [← hbs] at ha1
        have hbb : Byt bs := by rw [hbs]; exact (HBy.out.drop at').take k
        have HW := Lib.hid (Write_ls HQ.out (some ⟨b, off + at', none⟩) k (cap - at') ha1 (fun e => by cases e) hbb (by omega))
        have HZT : Hid (zs.take (at' + k) = zs.take at' ++ bs) := Lib.hid (by rw [hbs, List.take_add])
        obtain ⟨q1, q2⟩ := pts_append (zs.take at') bs
        rw [← HZT.out] at q1 q2
        obtain ⟨Rn, hRn⟩ : ∃ R, R = runP (runP ([], false, false) (pts (zs.take at'))).2 (pts (wts (zs.take at') ++ bs)) := ⟨_, rfl⟩
        have hall : runP ([], false, false) (pts (zs.take (at' + k))) = ((runP ([], false, false) (pts (zs.take at'))).1 ++ Rn.1, Rn.2) := by rw [q1, runP_append, hRn]
        have HALL := Lib.hid hall
        rw [← hRn, ← q2] at HW
        have hRl : Rn.1.length ≤ 400 := by
          rw [hRn]
          have h1 := lines_few (pts (wts (zs.take at') ++ bs)) (runP ([], false, false) (pts (zs.take at'))).2
          have h2 := pts_len (wts (zs.take at') ++ bs)
          have h3 := (wts_len (zs.take at')).2.1
          have h4 := ha1.1
          rw [List.length_append] at h2
          omega
        obtain ⟨rl, hrl⟩ : ∃ x, x = Rn.1.length := ⟨_, rfl⟩
        rw [← hrl] at HW hRl
        have HRL := Lib.hid hrl
        have k1 : (at' : Int) + (k : Int) ≤ cap := by omega
        have k2 : at' + k ≤ cap := by omega
        have k3 : at' ≤ cap := by omega
        clear ha1 hbs hbb q1 q2 hRn hall hrl
        go_wp2_with (go_at_call 8; fail)
        refine HW.out.mono ?_
        rintro e w2 ⟨ra, rc, rfl, hr2, hq2, hm2⟩
        have hlp := HQ.out.lt
        have hlD := HQ.out.lt2
        have hlop := HQ.out.lo
        have hloD := HQ.out.lo2
        have hkp := HQ.out.kp
        have hkD := HQ.out.kD
        obtain ⟨hne, hnw⟩ := row_news hr2
        have HN := Lib.hid hnw
        have HROW2 := Lib.hid (hm2.row HROW.out (fun k hk e => by
          rcases e with e | e
          · exact hkp (e ▸ hk)
          · exact hkD (e ▸ hk)))
        have HQ2 := Lib.hid hq2
        have HNE := Lib.hid hne
        have hb2 := hq2.below.size
        have htl : (tolds most Rn.1).length = rl * 2 := by rw [tolds_len, HRL.out]
        clear hq2 hr2 hm2 hnw HW HQ HROW hlp hlD hkp hkD hne hlop hloD
        go_wp2_with (first | (go_at_call 9; refine (HNum.out _ _).mono ?_; rintro e w' ⟨rfl, rfl⟩) | (at_builtin; go_loud (refine wpList_append_f _ rfl (.tmp 75) (.tmp 76) 28 rfl w.heap.size 35 i0 (.agg #[.string ⟨#[]⟩, .bool false]) 2 24 Try.underlying28 hi0 hz0 hz1 hz2 rfl (by decide) _ _ _ rfl HROW2.out ra rl rc (tolds most Rn.1) rfl htl HNE.out HN.out (tolds_one most Rn.1) ?c3 ?c4 hb2 ?_)))
        case c3 => unfold maxLen; omega
        case c4 => omega
        intro v' w7 hown hg hf _
        obtain ⟨o7, c7, rfl⟩ := row_slice hown
        have hmod : Mod (fun k => (Value.slice oa m oc).ownBlock = some k) w2 w7 := (Mod.refl _ w2).grown hg (fun k e => .inl e)
        have hq7 := (HQ2.out.turn hmod (fun k e => (HROW2.out.lt k e).1)).mono (L := fun k => (Value.slice o7 (m + rl) c7).ownBlock = some k) (fun k e => by
          rcases hf k e with h | h
          · exact .inl h
          · exact .inr ⟨h, (hown.lt k e).2⟩)
        have HQ7 : Hid (LS w (fun k => (Value.slice o7 (m + rl) c7).ownBlock = some k) p D most (wts (zs.take (at' + k))) (runP ([], false, false) (pts (zs.take (at' + k)))).2 w7) := Lib.hid (by rw [HALL.out]; exact hq7)
        have HROW7 : Hid (w7.ownsRow w.heap.size 35 2 (.slice o7 (m + rl) c7) (m + rl) (tolds most (runP ([], false, false) (pts (zs.take (at' + k)))).1)) := Lib.hid (by rw [HALL.out, tolds_append]; exact hown)
        have HM7 : Hid (m + rl = (runP ([], false, false) (pts (zs.take (at' + k)))).1.length) := Lib.hid (by rw [HALL.out, List.length_append, HML.out, HRL.out])
        clear hown hg hf hmod hq7 HROW2 HQ2 HN HNE hb2 htl
        go_wp2
        go_roundg (5002 - (i + 1))
        case measure => have := HG.out; omega
        case rel => exact ⟨at' + k, i + 1, o7, m + rl, c7, rfl, by go_num, by go_num, hk, by omega, rfl, HM7.out, HQ7.out, HROW7.out⟩
    · rcases Nat.lt_or_ge at' n with hlt | hge
      · have l1 : decide (at' < n) = true := by simpa using hlt
        have l2 : decide ((at' : Int) < n) = true := by simpa using hlt
        have l3 : decide (i ≤ 5000) = false := by simp; omega
        have l4 : decide ((i : Int) ≤ 5000) = false := by simp; omega
        have l5 : ((at' : Int) == n) = false := by simp; omega
        have l6 : (at' == n) = false := by simp; omega
        have HOf := Lib.hid (Of_ls most hm0 hm1 a n cap zs wr (HA.out.below HQ.out.below) HNn.out HBy.out (by omega))
        obtain ⟨LN, hLN⟩ : ∃ m, m = (linesOf zs).length := ⟨_, rfl⟩
        rw [← hLN] at HOf
        obtain ⟨XS, hXS⟩ : ∃ l, l = (linesOf zs).map (toldL most) := ⟨_, rfl⟩
        have hLN9 : LN ≤ 300 := by
          have h1 := lines_few (pts zs) ([], false, false)
          have h2 := pts_len zs
          have h3 := HZL.out
          rw [hLN]; unfold linesOf; omega
        have HF : Hid (∀ x ∈ XS, Fine most x) := Lib.hid (by rw [hXS]; exact lines_fine most zs HBy.out)
        have HX := Lib.hid (And.intro hLN hXS)
        clear hLN hXS
        go_wp2_with (go_at_call 10; fail)
        refine HOf.out.mono ?_
        rintro e w3 ⟨ra, rc, rfl, hr3, hb3⟩
        have hr3' := hr3
        rw [tolds_lv, ← HX.out.2] at hr3'
        have HL3 := Lib.hid (row_lrow hr3')
        have HB3 := Lib.hid (HQ.out.below.trans (hb3.mono HQ.out.below.size))
        have HL4 := HL3
        have HB4 := HB3
        clear hr3 hr3' hb3 HL3 HB3 HOf HQ HROW
        go_wp2_with (go_at_call 9; refine (HNum.out _ _).mono ?_; rintro e w' ⟨rfl, rfl⟩)
        go_wp2_with fail
        go_loopg [17, 18] (LN + 1) (fun gk v17 v18 wr => ∃ j : Nat, v17 = .int .i64 j ∧ gk = LN - j + 1 ∧ j ≤ LN ∧ Below w.heap.size w wr ∧ LRow wr ra LN XS)
        case atStart => exact ⟨0, rfl, rfl, Nat.zero_le _, HB4.out, HL4.out⟩
        case round =>
          obtain ⟨j, rfl, hgk, hj, hbw, hlr⟩ := hrel
          obtain ⟨wq, hwq⟩ : ∃ W, W = wr := ⟨_, rfl⟩
          subst hwq
          have HG := Lib.hid hgk
          have HB5 := Lib.hid hbw
          have HL5 := Lib.hid hlr
          clear hgk hbw hlr HB4 HL4
          rcases Nat.lt_or_ge j LN with hlt | hge
          · have l1 : decide ((j : Int) < LN) = true := by simpa using hlt
            obtain ⟨x, hx⟩ : ∃ x, XS[j]? = some x := ⟨XS[j]'(by have := HL5.out.1; omega), List.getElem?_eq_some_iff.2 ⟨by have := HL5.out.1; omega, rfl⟩⟩
            have hfine := HF.out x (List.mem_of_getElem? hx)
            obtain ⟨rb, rfl, hrb, hcells⟩ := HL5.out.2 (by omega)
            obtain ⟨c0, c1⟩ := hcells j x hx
            obtain ⟨s, bb⟩ := x
            obtain ⟨f1, f2, f3, f4⟩ := hfine
            simp only at c0 c1 f1 f2 f3 f4
            have HSd : Hid (∀ W, Calls Try.prog 12 #[.string s] W fun e w' => e = .returned (.bool true) ∧ Below W.heap.size W w') := Lib.hid fun W => (refSound_any s W (by omega)).mono fun e w' q => ⟨by rw [q.1, f3]; simp, q.2⟩
            have j0 : (0 : Int) ≤ j := by omega
            have j2 : (j : Int) < LN := by omega
            clear hcells hx f3
            cases bb with
            | true =>
              obtain rfl : s = ⟨#[]⟩ := f2 rfl
              have g1 : decide ((most : Int) < 0) = false := by simp
              have g2 : decide (most < 0) = false := by simp
              clear f1 f2 f4
              go_wp2_with (first | (go_at_call 12; fail))
              refine (HSd.out _).mono ?_
              rintro e w6 ⟨rfl, hb6⟩
              have HB6 := Lib.hid (HB5.out.trans (hb6.mono HB5.out.size))
              have HL6 := Lib.hid (HL5.out.below hb6)
              have c06 := (hb6.cell (p := ⟨rb, j * 2, none⟩) hrb).trans c0
              have lrb6 := Nat.lt_of_lt_of_le hrb hb6.size
              clear hb6 c0 c1 hrb HL5 HB5
              go_wp2_with fail
              go_loopg [18] (0 + 1) (fun gk v18 wr => ∃ k : Nat, v18 = .int .i64 k ∧ gk = 0 - k + 1 ∧ k ≤ 0 ∧ wr = w6)
              case atStart => exact ⟨0, rfl, rfl, Nat.zero_le _, rfl⟩
              case round =>
                obtain ⟨k, rfl, hgk, hk, hww⟩ := hrel
                subst hww
                have HG2 := Lib.hid hgk
                clear hgk
                by_cases hks : k < 0
                · exfalso; omega
                · obtain rfl : k = 0 := by omega
                  go_wp2
                  go_roundg (LN - (j + 1) + 1)
                  case measure => have := HG.out; omega
                  case rel => exact ⟨j + 1, by go_num, rfl, by omega, HB6.out, HL6.out⟩
            | false =>
              obtain ⟨sm, hsm⟩ : ∃ m, m = s.size := ⟨_, rfl⟩
              have zs1 : s.size = sm := hsm.symm
              have g1 : decide ((most : Int) < sm) = false := by simp; omega
              have g2 : decide (most < sm) = false := by simp; omega
              have g3 : sm ≤ 65536 := by omega
              have HCL2 := Lib.hid f4
              clear f1 f2 f4 hsm
              go_wp2_with (first | (go_at_call 12; fail))
              refine (HSd.out _).mono ?_
              rintro e w6 ⟨rfl, hb6⟩
              have HB6 := Lib.hid (HB5.out.trans (hb6.mono HB5.out.size))
              have HL6 := Lib.hid (HL5.out.below hb6)
              have c06 := (hb6.cell (p := ⟨rb, j * 2, none⟩) hrb).trans c0
              have lrb6 := Nat.lt_of_lt_of_le hrb hb6.size
              clear hb6 c0 c1 hrb HL5 HB5
              go_wp2_with fail
              go_loopg [18] (sm + 1) (fun gk v18 wr => ∃ k : Nat, v18 = .int .i64 k ∧ gk = sm - k + 1 ∧ k ≤ sm ∧ wr = w6)
              case atStart => exact ⟨0, rfl, rfl, Nat.zero_le _, rfl⟩
              case round =>
                obtain ⟨k, rfl, hgk, hk, hww⟩ := hrel
                subst hww
                have HG2 := Lib.hid hgk
                clear hgk
                by_cases hks : k < sm
                · have m1 : decide ((k : Int) < sm) = true := by simpa using hks
                  obtain ⟨y, hy, hy1, hy2⟩ := HCL2.out k (by rw [zs1]; exact hks)
                  have hget : ∀ h : k < s.size, ((s[k]'h).toNat : Int) = y := fun _ => hy
                  have y1 : (y == 13) = false := by simpa using hy1
                  have y2 : (y == 10) = false := by simpa using hy2
                  have kk0 : (0 : Int) ≤ k := by omega
                  have kk1 : (k : Int) < sm := by omega
                  clear hy hy1 hy2
                  go_wp2
                  go_roundg (sm - (k + 1) + 1)
                  case measure => have := HG2.out; omega
                  case rel => exact ⟨k + 1, by go_num, rfl, by omega, rfl⟩
                · obtain rfl : k = sm := by omega
                  have m1 : decide ((k : Int) < k) = false := by simp
                  go_wp2
                  go_roundg (LN - (j + 1) + 1)
                  case measure => have := HG.out; omega
                  case rel => exact ⟨j + 1, by go_num, rfl, by omega, HB6.out, HL6.out⟩
          · obtain rfl : j = LN := by omega
            have l1 : decide ((j : Int) < j) = false := by simp
            go_wp2_with (go_at_call 6; fail)
            refine (HWk.out _).mono ?_
            rintro e w9 ⟨rfl, hb9⟩
            have HB9 := Lib.hid (HB5.out.trans (hb9.mono HB5.out.size))
            clear hb9
            go_wp2
            go_ret
            exact ⟨rfl, HB9.out⟩
      · obtain rfl : at' = n := by omega
        have l1 : decide (at' < at') = false := by simp
        have l2 : decide ((at' : Int) < at') = false := by simp
        have hz : zs.take at' = zs := List.take_of_length_le (by rw [HZL.out]; omega)
        have HOf := Lib.hid (Of_ls most hm0 hm1 a at' cap zs wr (HA.out.below HQ.out.below) HNn.out HBy.out (by omega))
        obtain ⟨LN, hLN⟩ : ∃ m, m = (linesOf zs).length := ⟨_, rfl⟩
        rw [← hLN] at HOf
        obtain ⟨XS, hXS⟩ : ∃ l, l = (linesOf zs).map (toldL most) := ⟨_, rfl⟩
        have hLN9 : LN ≤ 300 := by
          have h1 := lines_few (pts zs) ([], false, false)
          have h2 := pts_len zs
          have h3 := HZL.out
          rw [hLN]; unfold linesOf; omega
        have HF : Hid (∀ x ∈ XS, Fine most x) := Lib.hid (by rw [hXS]; exact lines_fine most zs HBy.out)
        have HX := Lib.hid (And.intro hLN hXS)
        clear hLN hXS
        go_wp2_with (go_at_call 10; fail)
        refine HOf.out.mono ?_
        rintro e w3 ⟨ra, rc, rfl, hr3, hb3⟩
        have hr3' := hr3
        rw [tolds_lv, ← HX.out.2] at hr3'
        have HL3 := Lib.hid (row_lrow hr3')
        have HB3 := Lib.hid (HQ.out.below.trans (hb3.mono HQ.out.below.size))
        have hrA := (Mod.of_below hb3 (fun _ => False)).row HROW.out (fun _ _ h => h)
        rw [hz, show (runP ([], false, false) (pts zs)).1 = linesOf zs from rfl, tolds_lv, ← HX.out.2] at hrA
        have HSm := Lib.hid (Same_any oa ra m LN oc rc XS XS w3 (row_lrow hrA) HL3.out (by omega) true (by simp))
        clear hr3 hr3' hb3 HOf HQ HROW hrA
        go_wp2_with (first | (go_at_call 9; refine (HNum.out _ _).mono ?_; rintro e w' ⟨rfl, rfl⟩) | (go_at_call 11; fail))
        refine HSm.out.mono ?_
        rintro e w4 ⟨rfl, q4, hq4⟩
        have HL4 : Hid (LRow w4 ra LN XS) := Lib.hid (by rw [hq4]; exact HL3.out.below (Below.drewN' w3 q4))
        have HB4 : Hid (Below w.heap.size w w4) := Lib.hid (by rw [hq4]; exact HB3.out.trans ((Below.drewN' w3 q4).mono HB3.out.size))
        clear hq4 HSm HL3 HB3
        go_wp2_with fail
        go_loopg [17, 18] (LN + 1) (fun gk v17 v18 wr => ∃ j : Nat, v17 = .int .i64 j ∧ gk = LN - j + 1 ∧ j ≤ LN ∧ Below w.heap.size w wr ∧ LRow wr ra LN XS)
        case atStart => exact ⟨0, rfl, rfl, Nat.zero_le _, HB4.out, HL4.out⟩
        case round =>
          obtain ⟨j, rfl, hgk, hj, hbw, hlr⟩ := hrel
          obtain ⟨wq, hwq⟩ : ∃ W, W = wr := ⟨_, rfl⟩
          subst hwq
          have HG := Lib.hid hgk
          have HB5 := Lib.hid hbw
          have HL5 := Lib.hid hlr
          clear hgk hbw hlr HB4 HL4
          rcases Nat.lt_or_ge j LN with hlt | hge
          · have l1 : decide ((j : Int) < LN) = true := by simpa using hlt
            obtain ⟨x, hx⟩ : ∃ x, XS[j]? = some x := ⟨XS[j]'(by have := HL5.out.1; omega), List.getElem?_eq_some_iff.2 ⟨by have := HL5.out.1; omega, rfl⟩⟩
            have hfine := HF.out x (List.mem_of_getElem? hx)
            obtain ⟨rb, rfl, hrb, hcells⟩ := HL5.out.2 (by omega)
            obtain ⟨c0, c1⟩ := hcells j x hx
            obtain ⟨s, bb⟩ := x
            obtain ⟨f1, f2, f3, f4⟩ := hfine
            simp only at c0 c1 f1 f2 f3 f4
            have HSd : Hid (∀ W, Calls Try.prog 12 #[.string s] W fun e w' => e = .returned (.bool true) ∧ Below W.heap.size W w') := Lib.hid fun W => (refSound_any s W (by omega)).mono fun e w' q => ⟨by rw [q.1, f3]; simp, q.2⟩
            have j0 : (0 : Int) ≤ j := by omega
            have j2 : (j : Int) < LN := by omega
            clear hcells hx f3
            cases bb with
            | true =>
              obtain rfl : s = ⟨#[]⟩ := f2 rfl
              have g1 : decide ((most : Int) < 0) = false := by simp
              have g2 : decide (most < 0) = false := by simp
              clear f1 f2 f4
              go_wp2_with (first | (go_at_call 12; fail))
              refine (HSd.out _).mono ?_
              rintro e w6 ⟨rfl, hb6⟩
              have HB6 := Lib.hid (HB5.out.trans (hb6.mono HB5.out.size))
              have HL6 := Lib.hid (HL5.out.below hb6)
              have c06 := (hb6.cell (p := ⟨rb, j * 2, none⟩) hrb).trans c0
              have lrb6 := Nat.lt_of_lt_of_le hrb hb6.size
              clear hb6 c0 c1 hrb HL5 HB5
              go_wp2_with fail
              go_loopg [18] (0 + 1) (fun gk v18 wr => ∃ k : Nat, v18 = .int .i64 k ∧ gk = 0 - k + 1 ∧ k ≤ 0 ∧ wr = w6)
              case atStart => exact ⟨0, rfl, rfl, Nat.zero_le _, rfl⟩
              case round =>
                obtain ⟨k, rfl, hgk, hk, hww⟩ := hrel
                subst hww
                have HG2 := Lib.hid hgk
                clear hgk
                by_cases hks : k < 0
                · exfalso; omega
                · obtain rfl : k = 0 := by omega
                  go_wp2
                  go_roundg (LN - (j + 1) + 1)
                  case measure => have := HG.out; omega
                  case rel => exact ⟨j + 1, by go_num, rfl, by omega, HB6.out, HL6.out⟩
            | false =>
              obtain ⟨sm, hsm⟩ : ∃ m, m = s.size := ⟨_, rfl⟩
              have zs1 : s.size = sm := hsm.symm
              have g1 : decide ((most : Int) < sm) = false := by simp; omega
              have g2 : decide (most < sm) = false := by simp; omega
              have g3 : sm ≤ 65536 := by omega
              have HCL2 := Lib.hid f4
              clear f1 f2 f4 hsm
              go_wp2_with (first | (go_at_call 12; fail))
              refine (HSd.out _).mono ?_
              rintro e w6 ⟨rfl, hb6⟩
              have HB6 := Lib.hid (HB5.out.trans (hb6.mono HB5.out.size))
              have HL6 := Lib.hid (HL5.out.below hb6)
              have c06 := (hb6.cell (p := ⟨rb, j * 2, none⟩) hrb).trans c0
              have lrb6 := Nat.lt_of_lt_of_le hrb hb6.size
              clear hb6 c0 c1 hrb HL5 HB5
              go_wp2_with fail
              go_loopg [18] (sm + 1) (fun gk v18 wr => ∃ k : Nat, v18 = .int .i64 k ∧ gk = sm - k + 1 ∧ k ≤ sm ∧ wr = w6)
              case atStart => exact ⟨0, rfl, rfl, Nat.zero_le _, rfl⟩
              case round =>
                obtain ⟨k, rfl, hgk, hk, hww⟩ := hrel
                subst hww
                have HG2 := Lib.hid hgk
                clear hgk
                by_cases hks : k < sm
                · have m1 : decide ((k : Int) < sm) = true := by simpa using hks
                  obtain ⟨y, hy, hy1, hy2⟩ := HCL2.out k (by rw [zs1]; exact hks)
                  have hget : ∀ h : k < s.size, ((s[k]'h).toNat : Int) = y := fun _ => hy
                  have y1 : (y == 13) = false := by simpa using hy1
                  have y2 : (y == 10) = false := by simpa using hy2
                  have kk0 : (0 : Int) ≤ k := by omega
                  have kk1 : (k : Int) < sm := by omega
                  clear hy hy1 hy2
                  go_wp2
                  go_roundg (sm - (k + 1) + 1)
                  case measure => have := HG2.out; omega
                  case rel => exact ⟨k + 1, by go_num, rfl, by omega, rfl⟩
                · obtain rfl : k = sm := by omega
                  have m1 : decide ((k : Int) < k) = false := by simp
                  go_wp2
                  go_roundg (LN - (j + 1) + 1)
                  case measure => have := HG.out; omega
                  case rel => exact ⟨j + 1, by go_num, rfl, by omega, HB6.out, HL6.out⟩
          · obtain rfl : j = LN := by omega
            have l1 : decide ((j : Int) < j) = false := by simp
            go_wp2_with (go_at_call 6; fail)
            refine (HWk.out _).mono ?_
            rintro e w9 ⟨rfl, hb9⟩
            have HB9 := Lib.hid (HB5.out.trans (hb9.mono HB5.out.size))
            clear hb9
            go_wp2
            go_ret
            exact ⟨rfl, HB9.out⟩
end Go.Proofs.Ytfkfooclapogjaa
