/-
  joined; Write's own function.
-/
import Derived.Test.YtfkfooclapogjaaL
namespace Go.Proofs.Ytfkfooclapogjaa
open Go.RowKit
set_option linter.unusedVariables false
set_option linter.unusedSimpArgs false

theorem Try.info3 : (Try.prog.info? 3).map (fun i => (i.zero, i.size, i.bytes)) = some (some (.int .i64 0), 1, 8) := by kernel_rfl
theorem num_any (x : Int) (w : World) : Calls Try.prog 9 #[.int .i64 x] w fun e w' => e = .returned (.int .i64 x) ∧ w = w' := by
  go_enter Try.func9, Try.ntmps9
  go_wp2
  go_ret
  exact ⟨rfl, rfl⟩

/-- Integers that may be read. -/
def Ints (w : World) (ao : Option Addr) (n : Nat) (ps : List Int) : Prop :=
  ps.length = n ∧ (0 < n → ∃ b off, ao = some ⟨b, off, none⟩ ∧ b < w.heap.size ∧ ∀ j, j < n → w.cell? ⟨b, off + j, none⟩ = some (.int .i64 (ps.getD j 0)))
theorem Ints.below {w w' : World} {ao : Option Addr} {n : Nat} {ps : List Int} (h : Ints w ao n ps) (hb : Below w.heap.size w w') : Ints w' ao n ps :=
  ⟨h.1, fun hp => by
    obtain ⟨b, off, e, hl, hc⟩ := h.2 hp
    exact ⟨b, off, e, Nat.lt_of_lt_of_le hl hb.size, fun j hj => (hb.cell (p := ⟨b, off + j, none⟩) hl).trans (hc j hj)⟩⟩
theorem row_ints {w : World} {base : Nat} {ao : Option Addr} {n cap : Nat} {ps : List Int} (h : w.ownsRow base 3 1 (.slice ao n cap) n (ps.map (.int .i64))) : Ints w ao n ps := by
  have hl : ps.length = n := by simpa using h.1
  refine ⟨hl, fun hp => ?_⟩
  obtain ⟨b, cap', cur, hv, hbb, hgg, hnc, hcm, hcs, htk⟩ := row_some h (by omega)
  injection hv with e1 e2 e3
  subst e1
  refine ⟨b, 0, rfl, blk_lt hgg, fun j hj => ?_⟩
  rw [Nat.zero_add]
  refine cell_blk hgg j _ ?_
  have := congrArg (fun l => l[j]?) htk
  simp only [Nat.mul_one] at this
  rw [List.getElem?_take_of_lt (by omega)] at this
  rw [← Array.getElem?_toList, this, List.getElem?_map]
  have hlt : j < ps.length := by omega
  simp [List.getD, hlt]
theorem enc_take {ps : List Int} {i : Nat} (h : i < ps.length) : enc (ps.take (i + 1)) = enc (ps.take i) ++ bytesL (ps.getD i 0) := by
  rw [List.take_succ_eq_append_getElem h, enc_append, enc_cons, enc_nil, List.append_nil]
  simp [List.getD, h]
theorem enc_len (ps : List Int) : (enc ps).length ≤ 4 * ps.length := by
  induction ps with
  | nil => simp [enc_nil]
  | cons p ps ih => rw [enc_cons, List.length_append, List.length_cons]; have := bytesL_len p; omega

set_option maxHeartbeats 1600000 in
set_option maxRecDepth 100000 in
theorem joined_any (lo : Option Addr) (n c : Nat) (ps : List Int) (w : World) (h : Ints w lo n ps) (hp : ∀ p ∈ ps, Pt p) (hn : n ≤ 2000000) :
    Calls Try.prog 40 #[.func (.func 41) #[] #[], .slice lo n c] w fun e w' => e = .returned (.string (strOfNums (enc ps))) ∧ Below w.heap.size w w' := by
  obtain ⟨i0, hi0, hz0, hz1, hz2⟩ := info_parts Try.info5
  have HI := Lib.hid h
  have HP := Lib.hid hp
  have hl := h.1
  clear h hp
  go_enter Try.func40, Try.ntmps40
  go_wp2
  go_loopg [5, 10] n (fun gk v5 v10 wr => ∃ i : Nat, v10 = .int .i64 i ∧ i ≤ n ∧ gk = n - i ∧ wr.ownsRow w.heap.size 5 1 v5 (enc (ps.take i)).length ((enc (ps.take i)).map (.int .u8)) ∧ Below w.heap.size w wr)
  case atStart => exact ⟨0, rfl, by omega, rfl, by simpa [enc] using World.ownsRow_nil w w.heap.size 5 1, Below.refl _ _⟩
  case round =>
    obtain ⟨i, rfl, hi, hgk, hrow, hb⟩ := hrel
    have HG := Lib.hid hgk
    have HR := Lib.hid hrow
    have HB := Lib.hid hb
    obtain ⟨so, sc, rfl⟩ := row_slice hrow
    clear hgk hrow hb
    by_cases hlt : i < n
    · have d1 : decide (i < n) = true := by simpa using hlt
      obtain ⟨b, off, rfl, hbl, hc⟩ := (HI.out.below HB.out).2 (by omega)
      have hci := hc i hlt
      obtain ⟨p, hpp⟩ : ∃ p, p = ps.getD i 0 := ⟨_, rfl⟩
      rw [← hpp] at hci
      have hpt : Pt p := by rw [hpp]; exact HP.out _ (by simp [List.getD, show i < ps.length by omega])
      have HPo := Lib.hid (point_any p wr hpt)
      have HPP := Lib.hid hpp
      obtain ⟨E, hE⟩ : ∃ E, E = (enc (ps.take i)).length := ⟨_, rfl⟩
      have hEl : E ≤ 8000000 := by have := enc_len (ps.take i); rw [List.length_take] at this; omega
      have HE := Lib.hid hE
      rw [← hE] at HR ⊢
      have hbs := HB.out.size
      clear hc hpp hpt hE
      go_wp2_with (go_at_call 41; fail)
      refine HPo.out.mono ?_
      rintro e w1 ⟨a, c1, rfl, hA, han, hb1⟩
      have hrow1 := (Mod.of_below hb1 (fun _ => False)).row HR.out (fun _ _ h => h)
      have hs1 := hb1.size
      have HB1 := Lib.hid (HB.out.trans (hb1.mono HB.out.size))
      have HA1 := Lib.hid hA
      have hbl4 := bytesL_len p
      obtain ⟨K, hK⟩ : ∃ K, K = (bytesL p).length := ⟨_, rfl⟩
      rw [← hK] at HA1 hbl4
      have HKK := Lib.hid hK
      have HR1 := Lib.hid hrow1
      clear hb1 hA hK hrow1 HPo
      rw [← HKK.out]
      go_wp2_with (at_builtin; refine wpList_append_f _ rfl (.tmp 14) (.tmp 17) 22 rfl w.heap.size 5 i0 (.int .u8 0) 1 1 Try.underlying22 hi0 hz0 hz1 hz2 rfl (by decide) _ _ _ rfl HR1.out a K c1 ((bytesL p).map (.int .u8)) rfl (by simp [HKK.out]) (fun e => absurd e han) HA1.out.news (one_u8 _) ?c3 ?c4 (by omega) ?_)
      case c3 => unfold maxLen; omega
      case c4 => omega
      intro v' w2 hown hg hf _
      have hb2 : Below w.heap.size w w2 := HB1.out.grown hg HB1.out.size (fun k e => (HR1.out.lt k e).1)
      have HO := Lib.hid hown
      have HB2 := Lib.hid hb2
      clear hown hg hf hb2 HR1 HA1 HB1
      go_wp2
      go_roundg (n - (i + 1))
      case measure => have := HG.out; omega
      case rel =>
        refine ⟨i + 1, by go_num, by omega, rfl, ?_, HB2.out⟩
        have h1 := HO.out
        rw [HE.out, HKK.out, ← List.map_append, ← List.length_append, HPP.out, ← enc_take (by omega)] at h1
        exact h1
    · obtain rfl : i = n := by omega
      have hta : ps.take i = ps := List.take_of_length_le (by omega)
      have hr := HR.out
      rw [hta] at hr
      obtain ⟨hll, hA, hnn⟩ := row_arg hr
      have hcv := conv_any (w := wr) sc hA hnn
      rw [hta]
      obtain ⟨X, hX⟩ : ∃ X, X = strOfNums (enc ps) := ⟨_, rfl⟩
      rw [← hX] at hcv
      have HX := Lib.hid hX
      clear hA hnn hr hll hX
      go_wp2
      go_ret
      exact ⟨by rw [← HX.out]; rfl, HB.out⟩
end Go.Proofs.Ytfkfooclapogjaa
