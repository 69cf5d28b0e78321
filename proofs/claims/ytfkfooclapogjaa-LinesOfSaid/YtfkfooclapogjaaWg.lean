/-
  A splitter: lines.
-/
import Derived.Test.YtfkfooclapogjaaWf
namespace Go.Proofs.Ytfkfooclapogjaa
open Go.RowKit
set_option linter.unusedVariables false
set_option linter.unusedSimpArgs false

theorem Try.info35 : (Try.prog.info? 35).map (fun i => (i.zero, i.size, i.bytes)) = some (some (.agg #[.string ⟨#[]⟩, .bool false]), 2, 24) := by kernel_rfl
theorem Ln.mono {T U : Nat → Prop} {w : World} {a : Option Addr} {n c : Nat} {zs : List Int} (h : Ln T w a n c zs) (hu : ∀ k, k < w.heap.size → T k → U k) : Ln U w a n c zs := ⟨h.at_.mono hu, h.na, h.sp, h.nc, h.cm⟩
theorem Ln.mod {T S : Nat → Prop} {w w' : World} {a : Option Addr} {n c : Nat} {zs : List Int} (h : Ln T w a n c zs) (hm : Mod S w w') (ht : ∀ k, T k → ¬ S k) : Ln T w' a n c zs := ⟨h.at_.mod hm ht, h.na, h.sp, h.nc, h.cm⟩
theorem Ln.below {T : Nat → Prop} {w w' : World} {a : Option Addr} {n c : Nat} {zs : List Int} (h : Ln T w a n c zs) (hb : Below w.heap.size w w') : Ln T w' a n c zs := h.mod (Mod.of_below hb (fun _ => False)) (fun _ _ h => h)
theorem Ln.nil (T : Nat → Prop) (w : World) : Ln T w none 0 0 [] := ⟨⟨rfl, fun h => by omega⟩, fun _ => ⟨rfl, rfl⟩, (fun ad e => by cases e), Nat.le_refl _, by unfold maxLen; omega⟩
theorem told_any {T : Nat → Prop} (p D most : Nat) (a : Option Addr) (n c : Nat) (begun cr : Bool) (L : List Int) (w : World) (h : SpAt w p D most a n c begun cr) (hA : Ln T w a n c (L.take (most + 1))) (hm : most ≤ 65536) :
    Calls Try.prog 36 #[.pointer (some ⟨p, 0, none⟩)] w fun e w' => e = .returned (toldV most L) ∧ Below w.heap.size w w' := by
  have hl := hA.at_.1
  rw [List.length_take] at hl
  by_cases hle : L.length ≤ most
  · have := told_short p D most a n c begun cr (L.take (most + 1)) w h hA.at_ hA.na (by omega) (by omega)
    rw [List.take_of_length_le (by omega)] at this
    unfold toldV
    rw [if_pos hle]
    exact this
  · have := told_long p D most a n c begun cr (L.take (most + 1)) w h hA.at_ hA.na (by omega) (by omega)
    unfold toldV
    rw [if_neg hle]
    exact this
theorem enc_at {xs ys : List Int} {e : Int} (he : e = 13 ∨ e = 10) : enc (xs ++ e :: ys) = enc xs ++ e :: enc ys := by
  rw [enc_append, enc_cons, bytesL_ascii (by omega) (by omega)]
  rfl

set_option maxHeartbeats 6400000 in
set_option maxRecDepth 100000 in
theorem lines_any {T : Nat → Prop} (p D most : Nat) (a : Option Addr) (n c : Nat) (bg cr : Bool) (L ps : List Int) (W0 : World) (h : SpAt W0 p D most a n c bg cr) (hL : Ln T W0 a n c (L.take (most + 1))) (hT : ∀ k, T k → k ≠ p) (hc : bg = false → cr = false) (hp : ∀ q ∈ ps, Pt q) (hm : most ≤ 65536) (hlen : (enc ps).length ≤ 900000)
    (Ls : List (List Int)) (L' : List Int) (bg' cr' : Bool) (hr : runP (L, bg, cr) ps = (Ls, (L', bg', cr'))) :
    Calls Try.prog 25 #[.pointer (some ⟨p, 0, none⟩), .string (strOfNums (enc ps))] W0 fun e w' => ∃ (ra : Option Addr) (rc : Nat) (a' : Option Addr) (n' c' : Nat), e = .returned (.slice ra Ls.length rc) ∧ w'.ownsRow W0.heap.size 35 2 (.slice ra Ls.length rc) Ls.length (tolds most Ls) ∧
      SpAt w' p D most a' n' c' bg' cr' ∧ Ln (fun k => (T k ∧ k < W0.heap.size) ∨ W0.heap.size ≤ k) w' a' n' c' (L'.take (most + 1)) ∧ Mod (fun k => k = p) W0 w' := by
  obtain ⟨i0, hi0, hz0, hz1, hz2⟩ := info_parts Try.info35
  have HEn := Lib.hid ends_any
  have lp := blk_lt h.blk
  obtain ⟨T', hT'⟩ : ∃ T' : Nat → Prop, T' = fun k => (T k ∧ k < W0.heap.size) ∨ W0.heap.size ≤ k := ⟨_, rfl⟩
  have HT' : Hid (∀ k, T' k → k ≠ p) := Lib.hid (fun k hk e => by
    rw [hT'] at hk
    rcases hk with hk | hk
    · exact hT k hk.1 e
    · omega)
  have HTN : Hid (∀ k, W0.heap.size ≤ k → T' k) := Lib.hid (fun k hk => by rw [hT']; exact .inr hk)
  have HL0 : Hid (Ln T' W0 a n c (L.take (most + 1))) := Lib.hid (hL.mono (fun k h1 h2 => by rw [hT']; exact .inl ⟨h2, h1⟩))
  rw [← hT']
  have HSP0 := Lib.hid h
  have HR0 := Lib.hid hr
  have HP0 := Lib.hid (And.intro hc hp)
  obtain ⟨EL, hEL⟩ : ∃ n, n = (enc ps).length := ⟨_, rfl⟩
  have HLEN := Lib.hid (And.intro hEL hlen)
  clear h hL hT hr hc hp hT' hEL hlen
  go_enter Try.func25, Try.ntmps25
  go_wp2_with (go_at_call 42; fail)
  refine (HEn.out W0).mono ?_
  rintro e w1 ⟨rfl, hb1⟩
  obtain ⟨B, hB⟩ : ∃ B, B = w1.heap.size := ⟨_, rfl⟩
  obtain ⟨w2, hw2⟩ : ∃ W, W = w1.alloc (.cells #[.int .u8 13, .int .u8 10] 89) := ⟨_, rfl⟩
  have hb2 : Below w1.heap.size w1 w2 := by rw [hw2]; exact (Below.refl _ w1).alloc (Nat.le_refl _) _
  have k2 : w2.heap[B]? = some (.cells #[.int .u8 13, .int .u8 10] 89 (0, 0)) := by rw [hw2, hB]; exact alloc_blk_new w1 _
  have hb02 := hb1.trans (hb2.mono hb1.size)
  have hBs : W0.heap.size ≤ B := by have := hb1.size; omega
  have HB02 := Lib.hid hb02
  have K2 := Lib.hid k2
  have E2 := Lib.hid hw2
  have EB := Lib.hid hB
  clear hb1 hb2 k2 hb02 hw2 hB
  go_wp2_with fail
  rw [← E2.out, ← EB.out]
  clear E2 EB
  go_loopg [1, 4, 6, 7, 8, 9] (ps.length + 1) (fun gk v1 v4 v6 v7 v8 v9 wr => ∃ (qs Li : List Int) (bgi cri : Bool) (Lsi : List (List Int)) (oa : Option Addr) (oc : Nat) (ai : Option Addr) (ni ci : Nat), v1 = .string (strOfNums (enc qs)) ∧ v4 = .slice oa Lsi.length oc ∧ gk = qs.length + 1 ∧ SpAt wr p D most ai ni ci bgi cri ∧ Ln T' wr ai ni ci (Li.take (most + 1)) ∧
    wr.ownsRow W0.heap.size 35 2 (.slice oa Lsi.length oc) Lsi.length (tolds most Lsi) ∧ (∀ k, (Value.slice oa Lsi.length oc).ownBlock = some k → k ≠ B) ∧ Mod (fun k => k = p) W0 wr ∧ wr.heap[B]? = some (.cells #[.int .u8 13, .int .u8 10] 89 (0, 0)) ∧
    (Lsi ++ (runP (Li, bgi, cri) qs).1, (runP (Li, bgi, cri) qs).2) = (Ls, (L', bg', cr')) ∧ (bgi = false → cri = false) ∧ (∀ q ∈ qs, Pt q) ∧ (enc qs).length ≤ EL ∧ Lsi.length + qs.length ≤ EL)
  case atStart =>
    have hle : ps.length ≤ EL := by
      rw [HLEN.out.1]
      have : ∀ l : List Int, l.length ≤ (enc l).length := fun l => by
        induction l with
        | nil => simp [enc_nil]
        | cons x l ih =>
          have := (bytesL_len x).1
          rw [enc_cons, List.length_append, List.length_cons]; omega
      exact this ps
    exact ⟨ps, L, bg, cr, [], none, 0, a, n, c, rfl, rfl, rfl, HSP0.out.below HB02.out, HL0.out.below HB02.out, World.ownsRow_nil _ _ _ _, (fun k e => by cases e), Mod.of_below HB02.out _, K2.out, by rw [HR0.out]; rfl, HP0.out.1, HP0.out.2, by rw [HLEN.out.1]; exact Nat.le_refl _, by simpa using hle⟩
  case round =>
    obtain ⟨qs, Li, bgi, cri, Lsi, oa, oc, ai, ni, ci, rfl, rfl, hgk, hsp, hln, hrow, hoB, hmd, hbk, hrun, hci, hpt, hel, hcnt⟩ := hrel
    have HGK := Lib.hid hgk
    have HROW := Lib.hid hrow
    have HOB := Lib.hid hoB
    obtain ⟨⟨b1, c1, qs2⟩, hbr⟩ : ∃ x, begR bgi cri qs = x := ⟨_, rfl⟩
    obtain ⟨hrun2, hst2, hql2, hqm2⟩ := begR_run Li bgi cri qs hci
    rw [hbr] at hrun2 hst2 hql2 hqm2
    simp only at hrun2 hst2 hql2 hqm2
    have hEL9 : EL ≤ 900000 := by have := HLEN.out; omega
    have hpt2 : ∀ q ∈ qs2, Pt q := fun q hq => hpt q (hqm2 q hq)
    have hel2 : (enc qs2).length ≤ EL := by
      have : enc qs2 <:+ enc qs ∨ enc qs2 = enc qs := by
        cases qs with
        | nil => simp [begR] at hbr; right; rw [← hbr.2.2]
        | cons x qs =>
          have hx : qs2 = x :: qs ∨ qs2 = qs := by
            simp only [begR] at hbr
            split at hbr
            · split at hbr
              · cases hbr; exact .inr rfl
              · cases hbr; exact .inl rfl
            · split at hbr
              · split at hbr
                · cases hbr; exact .inr rfl
                · cases hbr; exact .inl rfl
              · cases hbr; exact .inl rfl
          rcases hx with rfl | rfl
          · exact .inr rfl
          · exact .inl ⟨bytesL x, (enc_cons x qs2).symm⟩
      rcases this with h | h
      · have := h.length_le; omega
      · rw [h]; exact hel
    have HBe := Lib.hid (begins_any2 p D most ai ni ci bgi cri qs wr hsp hci hpt (by omega) b1 c1 qs2 hbr)
    have HLI := Lib.hid hln
    have HMD := Lib.hid hmd
    have HBK := Lib.hid hbk
    have HRUN : Hid ((Lsi ++ (runP (Li, b1, c1) qs2).1, (runP (Li, b1, c1) qs2).2) = (Ls, (L', bg', cr'))) := Lib.hid (by rw [← hrun2]; exact hrun)
    have HQ := Lib.hid (And.intro hst2 (And.intro hql2 (And.intro hpt2 hel2)))
    obtain ⟨NS, hNS⟩ : ∃ n, n = Lsi.length := ⟨_, rfl⟩
    rw [← hNS] at HROW HOB ⊢
    have HNS := Lib.hid (And.intro hNS hcnt)
    have hNSl : NS ≤ 900000 := by omega
    clear hgk hrow hoB hbr hrun2 hst2 hql2 hqm2 hpt2 hel2 hsp hln hmd hbk hrun hci hpt hel hNS hcnt HSP0 HL0 HR0 HP0 K2 HB02
    go_wp2_with (go_at_call 44; fail)
    refine HBe.out.mono ?_
    rintro e v1 ⟨rfl, hsp1, hm1⟩
    have HSP1 := Lib.hid hsp1
    have HM1 := Lib.hid hm1
    have hpB : p ≠ B := by omega
    have hbk1 := (hm1.block B (blk_lt HBK.out) (fun e => hpB e.symm)).trans HBK.out
    have HBK1 := Lib.hid hbk1
    have hx0 := cell_blk hbk1 0 _ rfl
    have hx1 := cell_blk hbk1 1 _ rfl
    have hxl := blk_lt hbk1
    obtain ⟨hst2, hql2, hpt2, hel2⟩ := HQ.out
    have hbyt := enc_byt hpt2
    have HLI1 := Lib.hid (HLI.out.mod hm1 (fun k hk e => HT'.out k hk e))
    have HROW1 := Lib.hid (hm1.row HROW.out (fun k hk e => by have := (HROW.out.lt k hk).1; omega))
    have HMD1 := Lib.hid (HMD.out.trans hm1 (fun k _ e => e))
    clear hsp1 hm1 hbk1 HBe HLI HROW HMD HBK
    rcases ahead_split qs2 with hall | ⟨ed, behind, hsplit, hed⟩
    · have hne := ahead_noend qs2
      rw [hall] at hne
      have hbne := enc_noend hpt2 hne
      have HCut := Lib.hid (cut_any B (enc qs2) (enc qs2).length v1 hx0 hx1 hxl hbyt (by omega) (Nat.le_refl _) (fun j x hj hx => hbne x (List.mem_of_getElem? hx)) (fun x hx => by simp at hx))
      have hcv : cutV (enc qs2) (enc qs2).length = .tuple #[.string (strOfNums (enc qs2)), .int .u8 0, .string ⟨#[]⟩, .bool false] := by simp [cutV]
      rw [hcv] at HCut
      have hfin : (runP (Li, b1, c1) qs2) = ([], (Li ++ enc qs2, b1, c1)) ∨ (qs2 = [] ) := by
        rcases hst2 with h | h
        · right
          cases qs2 with
          | nil => rfl
          | cons x l => subst h; simp at hql2
        · left; rw [h.1, h.2]; exact runP_noend Li qs2 hne
      have hfin2 : (runP (Li, b1, c1) qs2) = ([], (Li ++ enc qs2, b1, c1)) := by
        rcases hfin with h | h
        · exact h
        · subst h; simp [runP, enc_nil]
      have HFIN := Lib.hid hfin2
      obtain ⟨S, hS⟩ : ∃ s, s = strOfNums (enc qs2) := ⟨_, rfl⟩
      have HS := Lib.hid (And.intro hS (And.intro hbyt hel2))
      rw [← hS] at HCut
      clear hx0 hx1 hxl hst2 hql2 hpt2 hel2 hbyt hall hne hbne hcv hfin hfin2
      rw [← hS]
      clear hS
      go_wp2_with (go_at_call 43; fail)
      refine HCut.out.mono ?_
      rintro e v2 ⟨rfl, q2, rfl⟩
      obtain ⟨v3, hv3⟩ : ∃ W, W = (v1.drewN q2).alloc (.cells #[.string S] 9) := ⟨_, rfl⟩
      have hb3 : Below v1.heap.size v1 v3 := by rw [hv3]; exact (Below.drewN' v1 q2).trans ((Below.refl _ (v1.drewN q2)).alloc (Nat.le_refl _) _)
      have k3 : v3.heap[v1.heap.size]? = some (.cells #[.string S] 9 (0, 0)) := by rw [hv3]; exact alloc_blk_new (v1.drewN q2) _
      have hput := put_one (T := T') p D most ai ni ci b1 c1 (Li.take (most + 1)) (enc qs2) v1.heap.size 1 v3 (HSP1.out.below hb3) (HLI1.out.below hb3) HT'.out hm (by have := HLI1.out.at_.1; rw [List.length_take] at this; omega) HS.out.2.1 (by have := HS.out.2.2; omega) (by have := cell_blk k3 0 _ rfl; rw [← HS.out.1]; exact this) (blk_lt k3)
      have hni := HLI1.out.at_.1
      rw [← hni, take_more] at hput
      have HPut := Lib.hid hput
      have HB3 := Lib.hid hb3
      have E3 := Lib.hid hv3
      clear hput hb3 k3 hv3 hni HCut
      go_wp2_with (go_at_call 47; fail)
      rw [← E3.out]
      refine HPut.out.mono ?_
      rintro e v4 ⟨⟨u, rfl⟩, a4, n4, c4, hsp4, hln4, hm4⟩
      have HZ := Lib.hid (And.intro hsp4 (And.intro hln4 hm4))
      clear hsp4 hln4 hm4 HPut
      go_wp2
      go_ret
      obtain ⟨hsp4, hln4, hm4⟩ := HZ.out
      have hrun := HRUN.out
      rw [HFIN.out] at hrun
      simp only [List.append_nil, Prod.mk.injEq] at hrun
      obtain ⟨r1, r2, r3, r4⟩ := hrun
      subst r1 r2 r3 r4
      have hs0 := HMD1.out.size
      have hs3 := HB3.out.size
      refine ⟨oa, oc, a4, n4, c4, by first | rfl | (rw [← HNS.out.1]; rfl) | (rw [HNS.out.1]), ?_, hsp4, hln4.mono (fun k _ hk => ?_), (HMD1.out.trans (Mod.of_below HB3.out (fun k => k = p)) (fun _ _ e => e)).trans hm4 (fun _ _ e => e)⟩
      · rw [← HNS.out.1]
        exact hm4.row ((Mod.of_below HB3.out (fun _ => False)).row HROW1.out (fun _ _ h => h)) (fun k hk e => by have := (HROW1.out.lt k hk).1; omega)
      · rcases hk with hk | hk
        · exact hk.1
        · exact HTN.out k (by omega)
    · obtain ⟨A, hA⟩ : ∃ l, l = ahead qs2 := ⟨_, rfl⟩
      have hne : NoEnd A := by rw [hA]; exact ahead_noend qs2
      rw [← hA] at hsplit
      clear hA
      have henc := enc_at (xs := A) (ys := behind) hed
      have hptA : ∀ q ∈ A, Pt q := fun q hq => hpt2 q (by rw [hsplit]; simp [hq])
      have hptB : ∀ q ∈ behind, Pt q := fun q hq => hpt2 q (by rw [hsplit]; simp [hq])
      have hbneA := enc_noend hptA hne
      have hbytA := enc_byt hptA
      rw [hsplit] at hbyt hel2 hql2
      have hcl : (enc (A ++ ed :: behind)).length = (enc A).length + (enc behind).length + 1 := by rw [henc]; simp; omega
      have hcl2 : (A ++ ed :: behind).length = A.length + behind.length + 1 := by simp; omega
      have hst : b1 = true ∧ c1 = false := by
        rcases hst2 with h | h
        · subst h
          simp at hql2
        · exact h
      obtain ⟨rfl, rfl⟩ := hst
      have hpre : ∀ j x, j < (enc A).length → (enc (A ++ ed :: behind))[j]? = some x → x ≠ 13 ∧ x ≠ 10 := fun j x hj hx => by
        rw [henc, List.getElem?_append_left hj] at hx
        exact hbneA x (List.mem_of_getElem? hx)
      have hat : (enc (A ++ ed :: behind))[(enc A).length]? = some ed := by rw [henc, List.getElem?_append_right (Nat.le_refl _)]; simp
      have HCut := Lib.hid (cut_any B (enc (A ++ ed :: behind)) (enc A).length v1 hx0 hx1 hxl hbyt (by omega) (by omega) hpre (fun x hx => by rw [hat] at hx; cases hx; exact hed))
      have hcv : cutV (enc (A ++ ed :: behind)) (enc A).length = .tuple #[.string (strOfNums (enc A)), .int .u8 ed, .string (strOfNums (enc behind)), .bool true] := by
        unfold cutV
        rw [hat]
        simp only
        rw [henc, List.take_left, show enc A ++ ed :: enc behind = (enc A ++ [ed]) ++ enc behind by simp, List.drop_left' (by simp)]
      rw [hcv] at HCut
      have HFIN : Hid (runP (Li, true, false) qs2 = ((Li ++ enc A) :: (runP ([], true, decide (ed = 13)) behind).1, (runP ([], true, decide (ed = 13)) behind).2)) := Lib.hid (by
        rw [hsplit, runP_append, runP_noend Li A hne]
        simp only [List.nil_append]
        rw [runP_end (Li ++ enc A) ed hed behind])
      obtain ⟨cr2, hcr2⟩ : ∃ b, b = decide (ed = 13) := ⟨_, rfl⟩
      rw [← hcr2] at HFIN
      have hcq : decide (ed = 13) = cr2 := hcr2.symm
      obtain ⟨S, hS⟩ : ∃ s, s = strOfNums (enc A) := ⟨_, rfl⟩
      obtain ⟨S2, hS2⟩ : ∃ s, s = strOfNums (enc behind) := ⟨_, rfl⟩
      obtain ⟨S0, hS0⟩ : ∃ s, s = strOfNums (enc qs2) := ⟨_, rfl⟩
      have HS := Lib.hid (And.intro hS (And.intro hbytA (And.intro hS2 (And.intro hptB (And.intro hcl (And.intro hcl2 (And.intro hel2 hql2)))))))
      rw [← hS, ← hS2, ← hsplit, ← hS0] at HCut
      clear hx0 hx1 hxl hst2 hql2 hpt2 hel2 hbyt hne hcv henc hptA hptB hbneA hbytA hcl hcl2 hpre hat hsplit hed hcr2
      rw [← hS0]
      clear hS hS2 hS0
      go_wp2_with (go_at_call 43; fail)
      refine HCut.out.mono ?_
      rintro e v2 ⟨rfl, q2, rfl⟩
      obtain ⟨v3, hv3⟩ : ∃ W, W = (v1.drewN q2).alloc (.cells #[.string S] 9) := ⟨_, rfl⟩
      have hb3 : Below v1.heap.size v1 v3 := by rw [hv3]; exact (Below.drewN' v1 q2).trans ((Below.refl _ (v1.drewN q2)).alloc (Nat.le_refl _) _)
      have k3 : v3.heap[v1.heap.size]? = some (.cells #[.string S] 9 (0, 0)) := by rw [hv3]; exact alloc_blk_new (v1.drewN q2) _
      have hput := put_one (T := T') p D most ai ni ci true false (Li.take (most + 1)) (enc A) v1.heap.size 1 v3 (HSP1.out.below hb3) (HLI1.out.below hb3) HT'.out hm (by have := HLI1.out.at_.1; rw [List.length_take] at this; omega) HS.out.2.1 (by have := HS.out; omega) (by have := cell_blk k3 0 _ rfl; rw [← HS.out.1]; exact this) (blk_lt k3)
      have hni := HLI1.out.at_.1
      rw [← hni, take_more] at hput
      have HPut := Lib.hid hput
      have HB3 := Lib.hid hb3
      have E3 := Lib.hid hv3
      clear hput hb3 k3 hv3 hni HCut
      go_wp2_with (go_at_call 47; fail)
      rw [← E3.out]
      refine HPut.out.mono ?_
      rintro e v4 ⟨⟨u, rfl⟩, a4, n4, c4, hsp4, hln4, hm4⟩
      have hs0 := HMD1.out.size
      have hs3 := HB3.out.size
      have hs4 := hm4.size
      have hm04 := (HMD1.out.trans (Mod.of_below HB3.out (fun k => k = p)) (fun _ _ e => e)).trans hm4 (fun _ _ e => e)
      have HROW4 := Lib.hid (hm4.row ((Mod.of_below HB3.out (fun _ => False)).row HROW1.out (fun _ _ h => h)) (fun k hk e => by have := (HROW1.out.lt k hk).1; omega))
      have hbk4 := (hm4.block B (by have := blk_lt HBK1.out; omega) (fun e => hpB e.symm)).trans ((HB3.out.block B (blk_lt HBK1.out)).trans HBK1.out)
      obtain ⟨LL, hLL⟩ : ∃ l, l = Li ++ enc A := ⟨_, rfl⟩
      rw [← hLL] at hln4 HFIN
      have HTold := Lib.hid (told_any p D most a4 n4 c4 true false LL v4 hsp4 hln4 hm)
      obtain ⟨ts, tb, htv, htc⟩ := toldV_eq most LL
      rw [htv] at HTold
      have HTC := Lib.hid htc
      have HM04 := Lib.hid hm04
      have HSP4 := Lib.hid hsp4
      have HBK4 := Lib.hid hbk4
      clear hsp4 hln4 hm4 HPut hm04 hbk4 hLL htv htc HROW1 HMD1 HBK1 HSP1 HLI1 hs0 hs3 hs4 HB3 E3
      go_wp2_with (go_at_call 36; fail)
      refine HTold.out.mono ?_
      rintro e v5 ⟨rfl, hb5⟩
      obtain ⟨v6, hv6⟩ : ∃ W, W = v5.alloc (.cells #[.string ts, .bool tb] 35) := ⟨_, rfl⟩
      have hb6 : Below v4.heap.size v4 v6 := by rw [hv6]; exact hb5.trans (((Below.refl _ v5).alloc (Nat.le_refl _) _).mono hb5.size)
      have k6 : v6.heap[v5.heap.size]? = some (.cells #[.string ts, .bool tb] 35 (0, 0)) := by rw [hv6]; exact alloc_blk_new v5 _
      have HN := Lib.hid (fun (ad : Addr) (e : some (⟨v5.heap.size, 0, none⟩ : Addr) = some ad) j u (hj : [Value.string ts, .bool tb][j]? = some u) => (show v6.cell? (ad.add j) = some u by
        cases e
        match j, hj with
        | 0, hj => cases hj; exact cell_blk k6 0 _ rfl
        | 1, hj => cases hj; exact cell_blk k6 1 _ rfl))
      have HROW6 := Lib.hid ((Mod.of_below hb6 (fun _ => False)).row HROW4.out (fun _ _ h => h))
      have HSP6 := Lib.hid (HSP4.out.below hb6)
      have hbk6 := (hb6.block B (blk_lt HBK4.out)).trans HBK4.out
      have HBK6 := Lib.hid hbk6
      have HM06 := Lib.hid (HM04.out.trans (Mod.of_below hb6 (fun k => k = p)) (fun _ _ e => e))
      have E6 := Lib.hid hv6
      have hbase6 := HM06.out.size
      clear hb5 hv6 hb6 k6 hbk6 HTold HROW4 HSP4 HBK4 HM04
      go_wp2_with (at_builtin; go_loud (rw [← E6.out]); go_loud (refine wpList_append_f _ rfl (.tmp 28) (.tmp 31) 28 rfl W0.heap.size 35 i0 (.agg #[.string ⟨#[]⟩, .bool false]) 2 24 Try.underlying28 hi0 hz0 hz1 hz2 rfl (by decide) _ _ _ rfl HROW6.out (some ⟨v5.heap.size, 0, none⟩) 1 1 [.string ts, .bool tb] rfl rfl (fun e => by cases e) HN.out (by simp [Value.oneCell']) ?c3 ?c4 (by omega) ?_))
      case c3 => unfold maxLen; omega
      case c4 => omega
      intro v' w7 hown hg hf _
      have hb7 : Mod (fun k => some k = (Value.slice oa NS oc).ownBlock) v6 w7 := (Mod.refl _ v6).grown hg (fun k e => .inl e.symm)
      have HSP7 := Lib.hid (HSP6.out.mod hb7 (fun e => by have := (HROW6.out.lt p e.symm).1; omega))
      have hbk7 := (hb7.block B (blk_lt HBK6.out) (fun e => HOB.out B e.symm rfl)).trans HBK6.out
      have hM07 : Mod (fun k => k = p) W0 w7 := HM06.out.trans hb7 (fun k hk e => by have := (HROW6.out.lt k e.symm).1; omega)
      have HOB7 : Hid (∀ k, v'.ownBlock = some k → k ≠ B) := Lib.hid (fun k hk e => by
        rcases hf k hk with h | h
        · exact HOB.out k h e
        · have := blk_lt HBK6.out; omega)
      have HROW7 : Hid (w7.ownsRow W0.heap.size 35 2 v' (Lsi ++ [LL]).length (tolds most (Lsi ++ [LL]))) := Lib.hid (by
        rw [tolds_append, List.length_append, ← HNS.out.1, show tolds most [LL] = toldC most LL by simp [tolds], HTC.out]; exact hown)
      obtain ⟨o7, c7, rfl⟩ := row_slice hown
      have HM07 := Lib.hid hM07
      have HBK7 := Lib.hid hbk7
      have hx0 := cell_blk hbk7 0 _ rfl
      have hxl := blk_lt hbk7
      obtain ⟨_, _, s2, _, s4, sf, sl⟩ := HSP7.out.cells
      have sf2 := sf 2
      have sf4 := sf 4
      clear hown hg hf hb7 hM07 hbk7 HROW6 HSP6 HBK6 HM06 HN E6 HOB hbase6 sf
      go_wp2_with fail
      go_roundg (behind.length + 1)
      case measure => have := HGK.out; have := HS.out; omega
      case rel =>
        have hcq' : (ed == 13) = cr2 := hcq
        obtain ⟨_, _, e2, qB, q1, q2, q3, q4⟩ := HS.out
        have hlp : p < W0.heap.size := by
          rcases Nat.lt_or_ge p W0.heap.size with h | h
          · exact h
          · exact absurd rfl (HT'.out p (HTN.out p h))
        have h8 := ((HSP7.out.set_line none 0 0).set_cr (ed == 13))
        have hrun := HRUN.out
        rw [HFIN.out] at hrun
        have hbp : B ≠ p := fun e => hpB e.symm
        have hcnt := HNS.out
        refine ⟨behind, [], true, (ed == 13), Lsi ++ [LL], o7, c7, none, 0, 0, by rw [e2], by rw [List.length_append, ← hcnt.1]; go_num, rfl, h8, Ln.nil _ _, ?_, ?_, ?_, ?_, ?_, (fun h => by cases h), qB, by omega, by rw [List.length_append, List.length_singleton]; omega⟩
        · have hm := ((Mod.refl (fun k => k = p) w7).setCell ⟨p, 2, none⟩ (.inl rfl) (.slice none 0 0)).setCell ⟨p, 4, none⟩ (.inl rfl) (.bool (ed == 13))
          have hr7 := HROW7.out
          have := hm.row hr7 (fun k hk e => by have := (hr7.lt k hk).1; omega)
          rw [List.length_append, ← hcnt.1] at this ⊢
          exact this
        · rw [List.length_append, ← hcnt.1]; exact HOB7.out
        · exact (HM07.out.setCell ⟨p, 2, none⟩ (.inl rfl) (.slice none 0 0)).setCell ⟨p, 4, none⟩ (.inl rfl) (.bool (ed == 13))
        · have hm := ((Mod.refl (fun k => k = p) w7).setCell ⟨p, 2, none⟩ (.inl rfl) (.slice none 0 0)).setCell ⟨p, 4, none⟩ (.inl rfl) (.bool (ed == 13))
          exact (hm.block B (blk_lt HBK7.out) hbp).trans HBK7.out
        · rw [hcq', List.append_assoc]
          exact hrun
end Go.Proofs.Ytfkfooclapogjaa
