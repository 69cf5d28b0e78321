/-
  UtfHolds, walked.
-/
import Derived.Test.YtplpgjcdoodmlaaSf
namespace Go.Proofs.Ytplpgjcdoodmlaa
open Go.RowKit
set_option linter.unusedVariables false
set_option linter.unusedSimpArgs false

/-- Bytes that came in, as an argument. -/
def InB (w : World) (a : Option Addr) (n cap : Nat) (zs : List Int) : Prop := Arg (fun k => k < w.heap.size) w a n zs ∧ (a = none → n = 0 ∧ cap = 0) ∧ n ≤ cap ∧ cap ≤ maxLen ∧ Byt zs
theorem Arg.window {T : Nat → Prop} {w : World} {b off n : Nat} {zs : List Int} (h : Arg T w (some ⟨b, off, none⟩) n zs) (g k : Nat) (hk : g + k ≤ n) : Arg T w (some ⟨b, off + g, none⟩) k ((zs.drop g).take k) :=
  ⟨by have := h.1; simp; omega, fun hp => by
    obtain ⟨b', off', e, hb, hT, hc⟩ := h.2 (by omega)
    cases e
    refine ⟨b, off + g, rfl, hb, hT, fun j hj => ?_⟩
    have hl := h.1
    have h2 := hc (g + j) (by omega)
    rw [Nat.add_assoc, h2]
    have hlt : g + j < zs.length := by omega
    simp [List.getD, List.getElem?_take_of_lt hj, List.getElem?_drop, hlt]⟩
theorem pts_len (zs : List Int) : (pts zs).length ≤ zs.length := by
  have := told_len zs 0
  rw [← told_pts 0 zs, List.length_map]
  omega
theorem ofL_split (zs : List Int) : ofL zs = enc (pts zs) ++ (if wts zs = [] then [] else bytesL 65533) := by
  unfold ofL ofP
  rw [enc_append]
  by_cases h : wts zs = [] <;> simp [h, enc]

set_option maxHeartbeats 6400000 in
set_option maxRecDepth 100000 in
theorem holds_any (a : Option Addr) (n cap : Nat) (zs : List Int) (ca : Option Addr) (cn ccap : Nat) (cs : List Int) (w : World) (h : InB w a n cap zs) (hc : InB w ca cn ccap cs) :
    Calls Try.prog 6 #[.slice a n cap, .slice ca cn ccap] w fun e w' => e = .returned (.bool true) ∧ Below w.heap.size w w' := by
  have HWk := Lib.hid works_true
  have HNum := Lib.hid num_any
  by_cases hbig : 300 < n
  · have d1 : decide (300 < n) = true := by simpa using hbig
    have d2 : decide ((300 : Int) < n) = true := by simp; omega
    clear h hc hbig
    go_enter Try.func6, Try.ntmps6
    go_wp2_with (go_at_call 8; fail)
    refine (HWk.out _).mono ?_
    rintro e w1 ⟨rfl, hb⟩
    have HB := Lib.hid hb
    clear hb
    go_wp2
    go_ret
    exact ⟨rfl, HB.out⟩
  have hn300 : n ≤ 300 := by omega
  have d1 : decide (300 < n) = false := by simp; omega
  have d2 : decide ((300 : Int) < n) = false := by simp; omega
  have HA := Lib.hid h.1
  have HNn := Lib.hid h.2.1
  have hcap := h.2.2.1
  have HBy := Lib.hid h.2.2.2.2
  have HZL := Lib.hid h.1.1
  have HC := Lib.hid hc.1
  have HCB := Lib.hid hc.2.2.2.2
  have hcl : cn ≤ maxLen := Nat.le_trans hc.2.2.1 hc.2.2.2.1
  unfold maxLen at hcl
  have HCL := Lib.hid hc.1.1
  have HNew := Lib.hid (New_ds w w (Below.refl _ _))
  clear h hc hbig
  go_enter Try.func6, Try.ntmps6
  go_wp2_with (go_at_call 18; fail)
  refine HNew.out.mono ?_
  rintro e w1 ⟨D, rfl, hq, _, _⟩
  have Q1 := Lib.hid (hq.mono (L := fun _ => False) (fun k e => e.elim))
  clear hq HNew
  go_wp2_with fail
  go_loopg [6, 7, 8] 5002 (fun gk v6 v7 v8 wr => ∃ (at' i : Nat), v6 = .string (strOfNums (enc (pts (zs.take at')))) ∧ v7 = .int .i64 (at' : Nat) ∧ v8 = .int .i64 (i : Nat) ∧ at' ≤ n ∧ i ≤ 5001 ∧ gk = 5002 - i ∧ DS w (fun _ => False) D (wts (zs.take at')) wr)
  case atStart => exact ⟨0, 0, by simp [pts_nil, enc_nil]; rfl, rfl, rfl, by omega, by omega, rfl, by simpa [wts_nil] using Q1.out⟩
  case round =>
    obtain ⟨at', i, rfl, rfl, rfl, hat, hi, hgk, hq⟩ := hrel
    have HG := Lib.hid hgk
    have HQ := Lib.hid hq
    obtain ⟨S, hS⟩ : ∃ S, S = strOfNums (enc (pts (zs.take at'))) := ⟨_, rfl⟩
    rw [← hS]
    have hSs : S.size ≤ 1200 := by
      rw [hS, strOfNums_size]
      have h1 := enc_len (pts (zs.take at'))
      have h2 := pts_len (zs.take at')
      rw [List.length_take] at h2
      omega
    have HS := Lib.hid hS
    clear hgk hq Q1 hS
    by_cases hlt : at' < n
    · have hatn : n ≠ 0 := by omega
      obtain ⟨b, off, hae, hb, _, hcz⟩ := HA.out.2 (by omega)
      subst hae
      clear hcz
      have l1 : decide (at' < n) = true := by simpa using hlt
      have l2 : decide ((at' : Int) < n) = true := by simpa using hlt
      obtain ⟨bi, hbi⟩ : ∃ bi, decide (i < cn) = bi := ⟨_, rfl⟩
      have HBI := Lib.hid hbi
      go_upto_if 30 with fail
      clear hbi
      go_cut [9] from 27 to 41 (fun v9 wx => ∃ k : Nat, v9 = .int .i64 (k : Nat) ∧ at' + k ≤ n ∧ wr = wx)
      case first =>
        cases bi with
        | true =>
          have hic : i < cn := by simpa using HBI.out
          obtain ⟨cb, coff, rfl, hcb, _, hcc⟩ := HC.out.2 (by omega)
          have hci := (HQ.out.below.cell (p := ⟨cb, coff + i, none⟩) hcb).trans (hcc i hic)
          have hcbr : cb < wr.heap.size := Nat.lt_of_lt_of_le hcb HQ.out.below.size
          have hcby := byt_getD HCB.out (k := i) (by rw [HCL.out]; exact hic)
          obtain ⟨x, hx⟩ : ∃ x, x = cs.getD i 0 := ⟨_, rfl⟩
          rw [← hx] at hci hcby
          obtain ⟨hx0, hx1⟩ := hcby
          obtain ⟨y, hy⟩ : ∃ y : Int, (n : Int) - (at' : Int) = y := ⟨_, rfl⟩
          obtain ⟨z, hz⟩ : ∃ z : Int, (if y < x % 9 then y else x % 9) = z := ⟨_, rfl⟩
          have hz0 : 0 ≤ z ∧ at' + z ≤ n := by rw [← hz]; split <;> omega
          have HZ := Lib.hid hz0
          clear hcc hx hz0
          go_wp2
          go_meet
          exact ⟨z.toNat, by rw [Int.toNat_of_nonneg HZ.out.1], by have := HZ.out; omega, rfl⟩
        | false =>
          go_wp2
          go_meet
          exact ⟨1, rfl, by omega, rfl⟩
      case rest =>
        obtain ⟨k, rfl, hk, hww⟩ := hcut
        obtain rfl : wr = wc := hww
        have ha1 := (HA.out.below HQ.out.below).window at' k hk
        obtain ⟨bs, hbs⟩ : ∃ bs, bs = (zs.drop at').take k := ⟨_, rfl⟩
        rw [← hbs] at ha1
        have hbb : Byt bs := by rw [hbs]; exact (HBy.out.drop at').take k
        have HW := Lib.hid (HQ.out.write (some ⟨b, off + at', none⟩) k (cap - at') ha1 (fun e => by cases e) hbb (by omega))
        have HZT : Hid (zs.take (at' + k) = zs.take at' ++ bs) := Lib.hid (by rw [hbs, List.take_add])
        obtain ⟨q1, q2⟩ := pts_append (zs.take at') bs
        rw [← HZT.out] at q1 q2
        obtain ⟨Tt, hT⟩ : ∃ Tt, Tt = strOfNums (enc (pts (wts (zs.take at') ++ bs))) := ⟨_, rfl⟩
        have hTs : Tt.size ≤ 1300 := by
          rw [hT, strOfNums_size]
          have h1 := enc_len (pts (wts (zs.take at') ++ bs))
          have h2 := pts_len (wts (zs.take at') ++ bs)
          have h3 := (wts_len (zs.take at')).2.1
          have h4 := ha1.1
          rw [List.length_append] at h2
          omega
        have HST : Hid (S ++ Tt = strOfNums (enc (pts (zs.take (at' + k))))) := Lib.hid (by rw [HS.out, hT, q1, enc_append, strOfNums_append])
        have HQ2 := Lib.hid q2
        rw [← hT, ← q2] at HW
        have e0 : (9223372036854775807 < S.size + Tt.size) = False := eq_false (by omega)
        have k1 : (at' : Int) + (k : Int) ≤ cap := by omega
        have k2 : at' + k ≤ cap := by omega
        have k3 : at' ≤ cap := by omega
        clear ha1 hbs hbb q1 q2 hT
        go_wp2_with (go_at_call 19; fail)
        refine HW.out.mono ?_
        rintro e w2 ⟨rfl, hq2, _⟩
        obtain ⟨L, hL⟩ : ∃ L, L = (wts (zs.take (at' + k))).length := ⟨_, rfl⟩
        have hL3 : L ≤ 3 := by rw [hL]; exact hq2.l3
        have t3 : decide (3 < L) = false := by simp; omega
        have t3' : decide ((3 : Int) < L) = false := by simp; omega
        have HWt := Lib.hid hq2.waits
        rw [← hL] at HWt
        have Q2 := Lib.hid hq2
        have HLL := Lib.hid hL
        clear hq2 HW hL
        go_wp2_with (first | (go_at_call 20; refine (HNum.out _ _).mono ?_; rintro e w' ⟨rfl, rfl⟩) | (go_at_call 21; fail))
        refine HWt.out.mono ?_
        rintro e w3 ⟨a3, c3, rfl, _, hb3⟩
        have Q3 := Lib.hid ((Q2.out.grow hb3).mono (L := fun _ => False) (fun k e => e.elim))
        clear hb3 HWt Q2
        by_cases hi5 : 5000 < i
        · have f1 : decide (5000 < i) = true := by simpa using hi5
          have f2 : decide ((5000 : Int) < i) = true := by simp; omega
          clear hi5
          go_wp2_with (go_at_call 8; fail)
          refine (HWk.out _).mono ?_
          rintro e w4 ⟨rfl, hb4⟩
          have HB4 := Lib.hid (Q3.out.below.trans (hb4.mono Q3.out.below.size))
          clear hb4
          go_wp2
          go_ret
          exact ⟨rfl, HB4.out⟩
        · have f1 : decide (5000 < i) = false := by simpa using hi5
          have f2 : decide ((5000 : Int) < i) = false := by simp; omega
          have HI := Lib.hid hi5
          clear hi5
          go_wp2
          go_roundg (5002 - (i + 1))
          case measure => have := HG.out; omega
          case rel => exact ⟨at' + k, i + 1, by rw [HST.out], by go_num, by go_num, hk, by have := HI.out; omega, rfl, Q3.out⟩
    · obtain rfl : at' = n := by omega
      have hz : zs.take at' = zs := List.take_of_length_le (by rw [HZL.out]; omega)
      have Q4 := Lib.hid HQ.out
      rw [hz] at Q4 HS
      obtain ⟨E, hE⟩ : ∃ E, E = strOfNums (if wts zs = [] then [] else bytesL 65533) := ⟨_, rfl⟩
      have HE4 := Lib.hid Q4.out.end_
      rw [← hE] at HE4
      have hEs : E.size ≤ 4 := by
        rw [hE, strOfNums_size]
        split
        · simp
        · exact (bytesL_len _).2
      obtain ⟨X, hX⟩ : ∃ X, S ++ E = X := ⟨_, rfl⟩
      have hXX : X = strOfNums (ofL zs) := by rw [← hX, HS.out, hE, ← strOfNums_append, ← ofL_split]
      have hXs : X.size ≤ 1204 := by rw [← hX, ByteArray.size_append]; omega
      have HXX := Lib.hid hXX
      have e0 : (9223372036854775807 < S.size + E.size) = False := eq_false (by omega)
      have HOf : Hid (∀ W, Below w.heap.size w W → Calls Try.prog 11 #[.slice a at' cap] W fun e w' => e = .returned (.string X) ∧ Below W.heap.size W w') := Lib.hid fun W hW => by rw [HXX.out]; exact Of_any a at' cap zs W (HA.out.below hW) HNn.out HBy.out (by omega)
      have HSd : Hid (∀ W, Calls Try.prog 13 #[.string X] W fun e w' => e = .returned (.bool true) ∧ Below W.heap.size W w') := Lib.hid fun W => (Sound_any X W (by omega)).mono fun e w' q => ⟨by
        rw [q.1, HXX.out, nums_str (ofL_byt HBy.out), ofL_ofL HBy.out]; simp, q.2⟩
      have l1 : decide (at' < at') = false := by simp
      clear hz hE hXX hEs
      go_wp2_with (go_at_call 22; fail)
      refine HE4.out.mono ?_
      rintro e w5 ⟨rfl, hq5, _⟩
      have Q5 := Lib.hid hq5
      have HE5 := Lib.hid hq5.end_
      rw [if_pos rfl, show strOfNums [] = ⟨#[]⟩ from rfl] at HE5
      clear hq5 HE4
      go_wp2_with (go_at_call 22; fail)
      refine HE5.out.mono ?_
      rintro e w6 ⟨rfl, hq6, _⟩
      have Q6 := Lib.hid hq6
      clear hq6 HE5 Q5
      go_wp2_with (first | (go_at_call 20; refine (HNum.out _ _).mono ?_; rintro e w' ⟨rfl, rfl⟩) | (go_at_call 11; refine (HOf.out _ Q6.out.below).mono ?_; rintro e w7 ⟨rfl, hb7⟩) | (go_at_call 13; refine (HSd.out _).mono ?_; rintro e w8 ⟨rfl, hb8⟩) | (go_at_call 8; refine (HWk.out _).mono ?_; rintro e w9 ⟨rfl, hb9⟩))
      go_ret
      have hb := Q6.out.below
      have h7 := hb.trans (hb7.mono hb.size)
      have h8 := h7.trans (hb8.mono h7.size)
      exact ⟨rfl, h8.trans (hb9.mono h8.size)⟩
end Go.Proofs.Ytplpgjcdoodmlaa
