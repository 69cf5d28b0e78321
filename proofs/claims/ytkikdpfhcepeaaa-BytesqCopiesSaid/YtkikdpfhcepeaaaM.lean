/-
  BytesqHolds, walked.
-/
import Derived.Test.YtkikdpfhcepeaaaK
namespace Go.Proofs.Ytkikdpfhcepeaaa
open Go.RowKit
set_option linter.unusedVariables false
set_option linter.unusedSimpArgs false

theorem AV.Ok.below {T : Nat → Prop} {w w' : World} {v : AV} (h : v.Ok T w) (hb : Below w.heap.size w w') : v.Ok T w' := { h with ra := h.ra.below hb, rb := h.rb.below hb }
/-- Two parts, laid out in an array. -/
theorem two_parts {w W : World} {K : Nat → Prop} {p : Nat} {m : Int} {bs : List Int} {z : AV} {T : Nat → Prop} (h : QS w K p m bs W) (hz : z.Ok T W) (hT : ∀ k, k < W.heap.size → T k → k < w.heap.size ∨ K k) :
    QS w (More K W (W.alloc (.cells #[.slice z.a z.xa.length z.ca, .slice z.b z.xb.length z.cb] 29))) p m bs (W.alloc (.cells #[.slice z.a z.xa.length z.ca, .slice z.b z.xb.length z.cb] 29)) ∧
    Parts (fun k => k < w.heap.size ∨ More K W (W.alloc (.cells #[.slice z.a z.xa.length z.ca, .slice z.b z.xb.length z.cb] 29)) k) (W.alloc (.cells #[.slice z.a z.xa.length z.ca, .slice z.b z.xb.length z.cb] 29)) (some ⟨W.heap.size, 0, none⟩) [z.xa, z.xb] := by
  have hb := (Below.refl _ W).alloc (Nat.le_refl _) (.cells #[.slice z.a z.xa.length z.ca, .slice z.b z.xb.length z.cb] 29)
  have hk := alloc_blk_new W (.cells #[.slice z.a z.xa.length z.ca, .slice z.b z.xb.length z.cb] 29)
  refine ⟨h.grow hb, parts_two hk (.inr (.inr ⟨Nat.le_refl _, by simp⟩)) ?_ ?_ hz.na hz.nb⟩
  · exact (hz.ra.mono (U := fun k => k < w.heap.size ∨ K k) hT).below hb |>.mono fun k _ e => e.imp id .inl
  · exact (hz.rb.mono (U := fun k => k < w.heap.size ∨ K k) hT).below hb |>.mono fun k _ e => e.imp id .inl
theorem flat_two (a b : List Int) : [a, b].flatten = a ++ b := by simp

set_option maxHeartbeats 6400000 in
set_option maxRecDepth 100000 in
theorem holds_any (m : Int) (ao : Option Addr) (n cap : Nat) (zs : List AV) (w : World) (h : Acts w ao n zs) :
    Calls Try.prog 3 #[.int .i64 m, .slice ao n cap] w fun e w' => e = .returned (.bool true) ∧ Below w.heap.size w w' := by
  have HFew := Lib.hid (few_any ao n cap zs 60 w h (by decide))
  have HWorks := Lib.hid works_true
  have HNum := Lib.hid num_any
  have HA := Lib.hid h
  clear h
  go_enter Try.func3, Try.ntmps3
  go_wp2_with (go_at_call 7; fail)
  refine HFew.out.mono ?_
  rintro e w0 ⟨b, rfl, hfew, q0, rfl⟩
  have hbw := Below.drewN' w q0
  cases b with
  | false =>
    go_wp2_with (first | (go_at_call 8; refine (HWorks.out _).mono ?_; rintro e w' ⟨rfl, hb⟩))
    go_ret
    exact ⟨rfl, hbw.trans hb⟩
  | true =>
    by_cases hm0 : m < 0
    · have t0 : decide (m < 0) = true := by simpa using hm0
      go_wp2_with (first | (go_at_call 8; refine (HWorks.out _).mono ?_; rintro e w' ⟨rfl, hb⟩))
      go_ret
      exact ⟨rfl, hbw.trans hb⟩
    by_cases hm1 : 1048576 < m
    · have t0 : decide (m < 0) = false := by simpa using hm0
      have t1 : decide (1048576 < m) = true := by simpa using hm1
      go_wp2_with (first | (go_at_call 8; refine (HWorks.out _).mono ?_; rintro e w' ⟨rfl, hb⟩))
      go_ret
      exact ⟨rfl, hbw.trans hb⟩
    have t0 : decide (m < 0) = false := by simpa using hm0
    have t1 : decide (1048576 < m) = false := by simpa using hm1
    obtain ⟨hn60, hall⟩ := hfew rfl
    have HN60 := Lib.hid hn60
    have HAll := Lib.hid hall
    have HNew := Lib.hid (New_qs m w (w.drewN q0) (by omega) (by omega) hbw)
    clear hfew hall HFew hbw
    go_wp2_with (go_at_call 9; fail)
    refine HNew.out.mono ?_
    rintro e w1 ⟨p, rfl, hq, _, _⟩
    have Q1 := Lib.hid (hq.mono (L := fun _ => False) (fun k e => e.elim))
    clear hq HNew
    go_wp2_with fail
    go_loopg [7, 8, 9] n (fun gk v7 v8 v9 wr => ∃ i : Nat, ∃ in_ out_ bs : List Int, v7 = .string (strOfNums in_) ∧ v8 = .string (strOfNums out_) ∧ v9 = .int .i64 i ∧ i ≤ n ∧ gk = n - i ∧ in_ = out_ ++ bs ∧ in_.length ≤ 300 * i ∧ QS w (fun _ => False) p m bs wr)
    case atStart => exact ⟨0, [], [], [], rfl, rfl, rfl, by omega, rfl, rfl, by simp, Q1.out⟩
    case round =>
      obtain ⟨i, in_, out_, bs, rfl, rfl, rfl, hi, hgk, hio, hil, hq⟩ := hrel
      have HG := Lib.hid hgk
      have HIO := Lib.hid hio
      have HIL := Lib.hid hil
      have HQ0 := Lib.hid hq
      clear hgk hio hil hq Q1
      obtain ⟨S, hS⟩ : ∃ S, S = strOfNums in_ := ⟨_, rfl⟩
      obtain ⟨T, hT⟩ : ∃ T, T = strOfNums out_ := ⟨_, rfl⟩
      rw [← hS, ← hT]
      have hSs : S.size ≤ 20000 := by rw [hS, strOfNums_size]; have := HIL.out; omega
      have hTs : T.size ≤ 20000 := by rw [hT, strOfNums_size]; have h1 := HIL.out; have h2 := congrArg List.length HIO.out; rw [List.length_append] at h2; omega
      have HS0 := Lib.hid hS
      have HT0 := Lib.hid hT
      clear hS hT
      by_cases hlt : i < n
      · obtain ⟨b, off, rfl, hb, hc⟩ := HA.out.2.2 (by omega)
        obtain ⟨z, hz, z0, z1, z2, z3, hok⟩ := hc i hlt
        have hl3 := HAll.out i hlt
        rw [← hz] at hl3
        have hbr := HQ0.out.below
        have y0 := (hbr.cell (p := ⟨b, off + i * 4, none⟩) hb).trans z0
        have y1 := (hbr.cell (p := ⟨b, off + i * 4 + 1, none⟩) hb).trans z1
        have y2 := (hbr.cell (p := ⟨b, off + i * 4 + 2, none⟩) hb).trans z2
        have y3 := (hbr.cell (p := ⟨b, off + i * 4 + 3, none⟩) hb).trans z3
        have hblt : b < wr.heap.size := Nat.lt_of_lt_of_le hb hbr.size
        have HOk := Lib.hid (hok.below hbr)
        have HOk0 := Lib.hid hok
        have HZ2 := Lib.hid z2
        have HZ3 := Lib.hid z3
        clear hc z0 z1 z2 z3 hok hz hbr
        by_cases hw : 0 ≤ z.what ∧ z.what < 3
        · have d0 : decide (0 ≤ z.what) = true := by simpa using hw.1
          have d1 : decide (z.what < 3) = true := by simpa using hw.2
          have hfl : [z.xa, z.xb].flatten.length = z.xa.length + z.xb.length := by rw [flat_two, List.length_append]
          obtain ⟨hq2, hpt⟩ := two_parts (W := wr.drew) (HQ0.out.drewN 1) { HOk.out with ra := HOk.out.ra.drewN 1, rb := HOk.out.rb.drewN 1 } (fun k _ e => .inl e)
          by_cases hf : (bs.length : Int) + ((z.xa.length : Int) + z.xb.length) ≤ m
          · have HPush := Lib.hid (hq2.push_ok (some ⟨wr.heap.size, 0, none⟩) 2 2 [z.xa, z.xb] rfl (by simp) (by omega) hpt (by omega) (bs ++ (z.xa ++ z.xb)) (by rw [flat_two]))
            clear hq2 hpt hfl
            go_upto_region 9 with fail
            go_region_with (first | (go_at_call 11; refine HPush.out.mono ?_; rintro e w5 ⟨rfl, hq5, _⟩; have HQ := Lib.hid (hq5.mono (L := fun _ => False) (fun k e => e.elim)); clear hq5) | (go_at_call 10; refine (HNum.out _ _).mono ?_; rintro e w' ⟨rfl, rfl⟩))
            all_goals
              clear y0 y1 y2 y3
              have hbr5 := HQ.out.below
              have y2 := (hbr5.cell (p := ⟨b, off + i * 4 + 2, none⟩) hb).trans HZ2.out
              have y3 := (hbr5.cell (p := ⟨b, off + i * 4 + 3, none⟩) hb).trans HZ3.out
              have hblt5 : b < w5.heap.size := Nat.lt_of_lt_of_le hb hbr5.size
              have cva := fun k => conv_any z.ca ((HOk0.out.ra.below hbr5).drewN k) HOk0.out.na
              have cvb := fun k => conv_any z.cb ((HOk0.out.rb.below hbr5).drewN k) HOk0.out.nb
              obtain ⟨SA, hSA⟩ : ∃ X, X = strOfNums z.xa := ⟨_, rfl⟩
              obtain ⟨SB, hSB⟩ : ∃ X, X = strOfNums z.xb := ⟨_, rfl⟩
              rw [← hSA] at cva
              rw [← hSB] at cvb
              have hSAs : SA.size ≤ 300 := by rw [hSA, strOfNums_size]; omega
              have hSBs : SB.size ≤ 300 := by rw [hSB, strOfNums_size]; omega
              have e1 : (9223372036854775807 < S.size + SA.size) = False := eq_false (by omega)
              have e2 : (9223372036854775807 < S.size + SA.size + SB.size) = False := eq_false (by omega)
              have HSA := Lib.hid hSA
              have HSB := Lib.hid hSB
              clear hbr5 hSA hSB
              go_wp2_with fail
              go_quiet (fail)
              obtain ⟨in', hin⟩ : ∃ X, X = in_ ++ (z.xa ++ z.xb) := ⟨_, rfl⟩
              obtain ⟨out', hout⟩ : ∃ X, X = out_ := ⟨_, rfl⟩
              obtain ⟨bs', hbs⟩ : ∃ X, X = bs ++ (z.xa ++ z.xb) := ⟨_, rfl⟩
              obtain ⟨S', hS'⟩ : ∃ X, X = S ++ SA ++ SB := ⟨_, rfl⟩
              obtain ⟨T', hT'⟩ : ∃ X, X = T := ⟨_, rfl⟩
              rw [← hbs] at HQ
              rw [← hS', ← hT']
              have HS : Hid (S' = strOfNums in') := Lib.hid (by rw [hS', hin, HS0.out, HSA.out, HSB.out, strOfNums_append, strOfNums_append, ByteArray.append_assoc])
              have HT : Hid (T' = strOfNums out') := Lib.hid (by rw [hT', hout, HT0.out])
              have HI : Hid (in' = out' ++ bs') := Lib.hid (by rw [hin, hout, hbs, HIO.out, List.append_assoc])
              have HW : Hid (in'.length ≤ 300 * (i + 1)) := Lib.hid (by rw [hin, List.length_append, List.length_append]; have := HIL.out; omega)
              clear hin hout hbs hS' hT' y2 y3 cva cvb e1 e2 hSAs hSBs HSA HSB HPush HOk HOk0 HZ2 HZ3 hSs hTs HS0 HT0 HIO HIL
              have hbd := HQ.out.bounds
              obtain ⟨L, hL⟩ : ∃ L, L = bs'.length := ⟨_, rfl⟩
              obtain ⟨r, hr⟩ : ∃ r : Int, r = m - (bs'.length : Int) := ⟨_, rfl⟩
              have HL := Lib.hid hL
              have HR := Lib.hid hr
              have hsz : S'.size = T'.size + L := by rw [HS.out, HT.out, strOfNums_size, strOfNums_size, HI.out, List.length_append, hL]
              have hS2 : S'.size ≤ 20000 := by rw [HS.out, strOfNums_size]; have := HW.out; have := HN60.out; omega
              have f1 : decide (m < (L : Int)) = false := by simp; omega
              have f2 : ((L : Int) + r != m) = false := by simp; omega
              have f3 : ((S'.size : Int) != (T'.size : Int) + (L : Int)) = false := by simp; omega
              have g1 : 0 ≤ r := by omega
              have g2 : r ≤ 1048576 := by omega
              have g3 : L ≤ 1048576 := by omega
              have g4 : T'.size ≤ 20000 := by omega
              clear hbd hL hr hsz
              go_wp2_with (first | (go_at_call 13; refine (QS.len (m := m) (w := w) (K := fun _ => False) (bs := bs') (by first | exact HQ.out | exact HQ.out.drewN _)).mono ?_; rintro e w' ⟨rfl, q, rfl⟩; rw [← HL.out]; try rw [World.drewN_drewN]) | (go_at_call 14; refine (QS.room (m := m) (w := w) (K := fun _ => False) (bs := bs') (by first | exact HQ.out | exact HQ.out.drewN _)).mono ?_; rintro e w' ⟨rfl, q, rfl⟩; rw [← HR.out]; try rw [World.drewN_drewN]))
              go_roundg (n - (i + 1))
              case measure => have := HG.out; omega
              case rel => exact ⟨i + 1, in', out', bs', by rw [HS.out], by rw [HT.out], by go_num, by omega, rfl, HI.out, HW.out, HQ.out.drewN _⟩
          · have HPush := Lib.hid (hq2.push_no (some ⟨wr.heap.size, 0, none⟩) 2 2 [z.xa, z.xb] rfl (by simp) (by omega) hpt (by omega))
            clear hq2 hpt hfl
            go_upto_region 9 with fail
            go_region_with (first | (go_at_call 11; refine HPush.out.mono ?_; rintro e w5 ⟨rfl, hq5, _⟩; have HQ := Lib.hid (hq5.mono (L := fun _ => False) (fun k e => e.elim)); clear hq5) | (go_at_call 10; refine (HNum.out _ _).mono ?_; rintro e w' ⟨rfl, rfl⟩))
            all_goals
              clear y0 y1 y2 y3
              obtain ⟨in', hin⟩ : ∃ X, X = in_ := ⟨_, rfl⟩
              obtain ⟨out', hout⟩ : ∃ X, X = out_ := ⟨_, rfl⟩
              obtain ⟨bs', hbs⟩ : ∃ X, X = bs := ⟨_, rfl⟩
              obtain ⟨S', hS'⟩ : ∃ X, X = S := ⟨_, rfl⟩
              obtain ⟨T', hT'⟩ : ∃ X, X = T := ⟨_, rfl⟩
              rw [← hbs] at HQ
              rw [← hS', ← hT']
              have HS : Hid (S' = strOfNums in') := Lib.hid (by rw [hS', hin, HS0.out])
              have HT : Hid (T' = strOfNums out') := Lib.hid (by rw [hT', hout, HT0.out])
              have HI : Hid (in' = out' ++ bs') := Lib.hid (by rw [hin, hout, hbs, HIO.out])
              have HW : Hid (in'.length ≤ 300 * (i + 1)) := Lib.hid (by rw [hin]; have := HIL.out; omega)
              clear hin hout hbs hS' hT' HPush HOk HOk0 HZ2 HZ3 hSs hTs HS0 HT0 HIO HIL
              have hbd := HQ.out.bounds
              obtain ⟨L, hL⟩ : ∃ L, L = bs'.length := ⟨_, rfl⟩
              obtain ⟨r, hr⟩ : ∃ r : Int, r = m - (bs'.length : Int) := ⟨_, rfl⟩
              have HL := Lib.hid hL
              have HR := Lib.hid hr
              have hsz : S'.size = T'.size + L := by rw [HS.out, HT.out, strOfNums_size, strOfNums_size, HI.out, List.length_append, hL]
              have hS2 : S'.size ≤ 20000 := by rw [HS.out, strOfNums_size]; have := HW.out; have := HN60.out; omega
              have f1 : decide (m < (L : Int)) = false := by simp; omega
              have f2 : ((L : Int) + r != m) = false := by simp; omega
              have f3 : ((S'.size : Int) != (T'.size : Int) + (L : Int)) = false := by simp; omega
              have g1 : 0 ≤ r := by omega
              have g2 : r ≤ 1048576 := by omega
              have g3 : L ≤ 1048576 := by omega
              have g4 : T'.size ≤ 20000 := by omega
              clear hbd hL hr hsz
              go_wp2_with (first | (go_at_call 13; refine (QS.len (m := m) (w := w) (K := fun _ => False) (bs := bs') (by first | exact HQ.out | exact HQ.out.drewN _)).mono ?_; rintro e w' ⟨rfl, q, rfl⟩; rw [← HL.out]; try rw [World.drewN_drewN]) | (go_at_call 14; refine (QS.room (m := m) (w := w) (K := fun _ => False) (bs := bs') (by first | exact HQ.out | exact HQ.out.drewN _)).mono ?_; rintro e w' ⟨rfl, q, rfl⟩; rw [← HR.out]; try rw [World.drewN_drewN]))
              go_roundg (n - (i + 1))
              case measure => have := HG.out; omega
              case rel => exact ⟨i + 1, in', out', bs', by rw [HS.out], by rw [HT.out], by go_num, by omega, rfl, HI.out, HW.out, HQ.out.drewN _⟩
        · have hd : decide (0 ≤ z.what) = false ∨ (decide (0 ≤ z.what) = true ∧ decide (z.what < 3) = false) := by
            by_cases h0 : 0 ≤ z.what
            · exact .inr ⟨by simpa using h0, by simp; omega⟩
            · exact .inl (by simpa using h0)
          have HD := Lib.hid hd
          clear hd hw
          by_cases hneg : z.n < 0
          · have HTake := Lib.hid (HQ0.out.take_bad z.n hneg)
            have cva := fun (W : World) => conv_any (xs := []) 0 (⟨rfl, fun h => by simp at h⟩ : Arg (fun _ => True) W none 0 []) (fun _ => ⟨rfl, rfl⟩)
            have cvb : ∀ (W : World), (convert 29 9 (.slice none 0 0)).run Try.prog W = .ok (.string ByteArray.empty) W := cva
            have e1 : (9223372036854775807 < T.size + ByteArray.empty.size) = False := eq_false (by show ¬ (9223372036854775807 < T.size + 0); omega)
            clear cva
            rcases HD.out with d0 | ⟨d0, d1⟩
            all_goals
              go_wp2_with (go_at_call 12; refine HTake.out.mono ?_; rintro e w' ⟨rfl, rfl⟩)
              have HQ := Lib.hid HQ0.out
              obtain ⟨in', hin⟩ : ∃ X, X = in_ := ⟨_, rfl⟩
              obtain ⟨out', hout⟩ : ∃ X, X = out_ := ⟨_, rfl⟩
              obtain ⟨bs', hbs⟩ : ∃ X, X = bs := ⟨_, rfl⟩
              obtain ⟨S', hS'⟩ : ∃ X, X = S := ⟨_, rfl⟩
              obtain ⟨T', hT'⟩ : ∃ X, X = T := ⟨_, rfl⟩
              rw [← hbs] at HQ
              rw [← hS', ← hT']
              have HS : Hid (S' = strOfNums in') := Lib.hid (by rw [hS', hin, HS0.out])
              have HT : Hid (T' = strOfNums out') := Lib.hid (by rw [hT', hout, HT0.out])
              have HI : Hid (in' = out' ++ bs') := Lib.hid (by rw [hin, hout, hbs, HIO.out])
              have HW : Hid (in'.length ≤ 300 * (i + 1)) := Lib.hid (by rw [hin]; have := HIL.out; omega)
              clear hin hout hbs hS' hT' HTake cvb e1 y0 y1 y2 y3 HOk HOk0 HZ2 HZ3 hSs hTs HS0 HT0 HIO HIL
              have hbd := HQ.out.bounds
              obtain ⟨L, hL⟩ : ∃ L, L = bs'.length := ⟨_, rfl⟩
              obtain ⟨r, hr⟩ : ∃ r : Int, r = m - (bs'.length : Int) := ⟨_, rfl⟩
              have HL := Lib.hid hL
              have HR := Lib.hid hr
              have hsz : S'.size = T'.size + L := by rw [HS.out, HT.out, strOfNums_size, strOfNums_size, HI.out, List.length_append, hL]
              have hS2 : S'.size ≤ 20000 := by rw [HS.out, strOfNums_size]; have := HW.out; have := HN60.out; omega
              have f1 : decide (m < (L : Int)) = false := by simp; omega
              have f2 : ((L : Int) + r != m) = false := by simp; omega
              have f3 : ((S'.size : Int) != (T'.size : Int) + (L : Int)) = false := by simp; omega
              have g1 : 0 ≤ r := by omega
              have g2 : r ≤ 1048576 := by omega
              have g3 : L ≤ 1048576 := by omega
              have g4 : T'.size ≤ 20000 := by omega
              clear hbd hL hr hsz
              go_wp2_with (first | (go_at_call 13; refine (QS.len (m := m) (w := w) (K := fun _ => False) (bs := bs') (by first | exact HQ.out | exact HQ.out.drewN _)).mono ?_; rintro e w' ⟨rfl, q, rfl⟩; rw [← HL.out]; try rw [World.drewN_drewN]) | (go_at_call 14; refine (QS.room (m := m) (w := w) (K := fun _ => False) (bs := bs') (by first | exact HQ.out | exact HQ.out.drewN _)).mono ?_; rintro e w' ⟨rfl, q, rfl⟩; rw [← HR.out]; try rw [World.drewN_drewN]))
              go_roundg (n - (i + 1))
              case measure => have := HG.out; omega
              case rel => exact ⟨i + 1, in', out', bs', by rw [HS.out], by rw [HT.out], by go_num, by omega, rfl, HI.out, HW.out, HQ.out.drewN _⟩
          · have hk1 := kOf_le z.n bs.length
            obtain ⟨k, hk⟩ : ∃ k, kOf z.n bs.length = k := ⟨_, rfl⟩
            rw [hk] at hk1
            have hbl : bs.length ≤ 18000 := by have h1 := HIL.out; have h2 := congrArg List.length HIO.out; rw [List.length_append] at h2; omega
            have HTake := Lib.hid (HQ0.out.take z.n (by omega) k hk (bs.take k) (bs.drop k) rfl rfl)
            clear hk
            rcases HD.out with d0 | ⟨d0, d1⟩
            all_goals
              go_wp2_with (go_at_call 12; fail)
              refine HTake.out.mono ?_
              rintro e w5 ⟨a5, c5, rfl, hr5, hq5, _⟩
              obtain ⟨hl5, hA5, hn5⟩ := row_arg hr5
              have cvb := conv_any c5 hA5 hn5
              rw [hl5] at cvb
              obtain ⟨SB, hSB⟩ : ∃ X, X = strOfNums (bs.take k) := ⟨_, rfl⟩
              rw [← hSB] at cvb
              have e1 : (9223372036854775807 < T.size + SB.size) = False := eq_false (by rw [hSB, strOfNums_size, hl5]; omega)
              have HSB := Lib.hid hSB
              have HQ := Lib.hid (hq5.mono (L := fun _ => False) (fun k e => e.elim))
              clear hr5 hq5 hA5 hn5 hSB HTake hl5
              go_wp2_with (go_at_call 13; fail)
              obtain ⟨in', hin⟩ : ∃ X, X = in_ := ⟨_, rfl⟩
              obtain ⟨out', hout⟩ : ∃ X, X = out_ ++ bs.take k := ⟨_, rfl⟩
              obtain ⟨bs', hbs⟩ : ∃ X, X = bs.drop k := ⟨_, rfl⟩
              obtain ⟨S', hS'⟩ : ∃ X, X = S := ⟨_, rfl⟩
              obtain ⟨T', hT'⟩ : ∃ X, X = T ++ SB := ⟨_, rfl⟩
              rw [← hbs] at HQ
              rw [← hS', ← hT']
              have HS : Hid (S' = strOfNums in') := Lib.hid (by rw [hS', hin, HS0.out])
              have HT : Hid (T' = strOfNums out') := Lib.hid (by rw [hT', hout, HT0.out, HSB.out, strOfNums_append])
              have HI : Hid (in' = out' ++ bs') := Lib.hid (by rw [hin, hout, hbs, HIO.out, List.append_assoc, List.take_append_drop])
              have HW : Hid (in'.length ≤ 300 * (i + 1)) := Lib.hid (by rw [hin]; have := HIL.out; omega)
              clear hin hout hbs hS' hT' cvb e1 HSB y0 y1 y2 y3 HOk HOk0 HZ2 HZ3 hSs hTs HS0 HT0 HIO HIL
              have hbd := HQ.out.bounds
              obtain ⟨L, hL⟩ : ∃ L, L = bs'.length := ⟨_, rfl⟩
              obtain ⟨r, hr⟩ : ∃ r : Int, r = m - (bs'.length : Int) := ⟨_, rfl⟩
              have HL := Lib.hid hL
              have HR := Lib.hid hr
              have hsz : S'.size = T'.size + L := by rw [HS.out, HT.out, strOfNums_size, strOfNums_size, HI.out, List.length_append, hL]
              have hS2 : S'.size ≤ 20000 := by rw [HS.out, strOfNums_size]; have := HW.out; have := HN60.out; omega
              have f1 : decide (m < (L : Int)) = false := by simp; omega
              have f2 : ((L : Int) + r != m) = false := by simp; omega
              have f3 : ((S'.size : Int) != (T'.size : Int) + (L : Int)) = false := by simp; omega
              have g1 : 0 ≤ r := by omega
              have g2 : r ≤ 1048576 := by omega
              have g3 : L ≤ 1048576 := by omega
              have g4 : T'.size ≤ 20000 := by omega
              clear hbd hL hr hsz
              go_wp2_with (first | (go_at_call 13; refine (QS.len (m := m) (w := w) (K := fun _ => False) (bs := bs') (by first | exact HQ.out | exact HQ.out.drewN _)).mono ?_; rintro e w' ⟨rfl, q, rfl⟩; rw [← HL.out]; try rw [World.drewN_drewN]) | (go_at_call 14; refine (QS.room (m := m) (w := w) (K := fun _ => False) (bs := bs') (by first | exact HQ.out | exact HQ.out.drewN _)).mono ?_; rintro e w' ⟨rfl, q, rfl⟩; rw [← HR.out]; try rw [World.drewN_drewN]))
              go_roundg (n - (i + 1))
              case measure => have := HG.out; omega
              case rel => exact ⟨i + 1, in', out', bs', by rw [HS.out], by rw [HT.out], by go_num, by omega, rfl, HI.out, HW.out, HQ.out.drewN _⟩
      · obtain rfl : i = n := by omega
        have hbd := HQ0.out.bounds
        have HTake := Lib.hid (HQ0.out.take m (by omega) bs.length (by unfold kOf; omega) bs [] (by simp) (by simp))
        have hbl : bs.length ≤ 18000 := by have h1 := HIL.out; have h2 := congrArg List.length HIO.out; rw [List.length_append] at h2; omega
        go_wp2_with (go_at_call 12; fail)
        refine HTake.out.mono ?_
        rintro e w5 ⟨a5, c5, rfl, hr5, hq5, _⟩
        obtain ⟨hl5, hA5, hn5⟩ := row_arg hr5
        have cvb := conv_any c5 hA5 hn5
        obtain ⟨SB, hSB⟩ : ∃ X, X = strOfNums bs := ⟨_, rfl⟩
        rw [← hSB] at cvb
        have e1 : (9223372036854775807 < T.size + SB.size) = False := eq_false (by rw [hSB, strOfNums_size]; omega)
        have e3 : T ++ SB = S := by
          rw [HS0.out, HT0.out, hSB, HIO.out, strOfNums_append]
        have HBW := Lib.hid hq5.below
        clear hr5 hq5 hA5 hn5 hSB HTake
        go_wp2_with (first | (go_at_call 10; refine (HNum.out _ _).mono ?_; rintro e w' ⟨rfl, rfl⟩) | (go_at_call 8; refine (HWorks.out _).mono ?_; rintro e w6 ⟨rfl, hb6⟩))
        go_ret
        exact ⟨rfl, HBW.out.trans (hb6.mono HBW.out.size)⟩
end Go.Proofs.Ytkikdpfhcepeaaa
