/-
  The document's Of, Sound, walked.
-/
import Derived.Test.YtfkfooclapogjaaSm
namespace Go.Proofs.Ytfkfooclapogjaa
open Go.RowKit
set_option linter.unusedVariables false
set_option linter.unusedSimpArgs false

theorem getD_mem {l : List Int} {i : Nat} (h : i < l.length) : l.getD i 0 ∈ l := by simp [List.getD, h]
theorem conv_newc (s : ByteArray) (w : World) : ∃ c w', (convert 9 22 (.string s)).run Try.prog w = .ok (.slice (some ⟨w.heap.size, 0, none⟩) s.size c) w' ∧ Below w.heap.size w w' ∧ w'.heap.size = w.heap.size + 1 ∧
    Arg (fun k => k = w.heap.size) w' (some ⟨w.heap.size, 0, none⟩) s.size (nums s) ∧ s.size ≤ c := by
  obtain ⟨c, w', h1, h2, h3, h4⟩ := conv_new s w
  refine ⟨c, w', h1, h2, h3, h4, ?_⟩
  have h5 := Lib.run_convert_string_bytes w 9 22 5 s Try.underlying9 Try.underlying22 Try.underlying5
  rw [h1] at h5
  injection h5 with e1 e2
  injection e1 with e3 e4 e5
  rw [e5]
  exact grownCap_ge _ _ _ _
/-- Ones that may be read. -/
def Ons (w : World) (ao : Option Addr) (n : Nat) (l : List (Nat × Int)) : Prop :=
  l.length = n ∧ (0 < n → ∃ b, ao = some ⟨b, 0, none⟩ ∧ b < w.heap.size ∧ ∀ j, j < n → w.cell? ⟨b, j * 2, none⟩ = some (.int .i64 ((l.getD j (0, 0)).1 : Nat)) ∧ w.cell? ⟨b, j * 2 + 1, none⟩ = some (.int .i64 (l.getD j (0, 0)).2))
theorem Ons.mod {S : Nat → Prop} {w w' : World} {ao : Option Addr} {n : Nat} {l : List (Nat × Int)} (h : Ons w ao n l) (hm : Mod S w w') (hs : ∀ b, ao = some ⟨b, 0, none⟩ → ¬ S b) : Ons w' ao n l :=
  ⟨h.1, fun hp => by
    obtain ⟨b, e, hl, hc⟩ := h.2 hp
    exact ⟨b, e, Nat.lt_of_lt_of_le hl hm.size, fun j hj => ⟨(hm.cell (p := ⟨b, j * 2, none⟩) hl (hs b e)).trans (hc j hj).1, (hm.cell (p := ⟨b, j * 2 + 1, none⟩) hl (hs b e)).trans (hc j hj).2⟩⟩⟩
theorem Ons.below {w w' : World} {ao : Option Addr} {n : Nat} {l : List (Nat × Int)} (h : Ons w ao n l) (hb : Below w.heap.size w w') : Ons w' ao n l := h.mod (Mod.of_below hb (fun _ => False)) (fun _ _ e => e)
theorem row_ons {w : World} {base : Nat} {ao : Option Addr} {n cap : Nat} {l : List (Nat × Int)} (h : w.ownsRow base 77 2 (.slice ao n cap) n (ones l)) : Ons w ao n l := by
  have hl : l.length = n := by have := h.1; rw [ones_len] at this; omega
  refine ⟨hl, fun hp => ?_⟩
  obtain ⟨b, cap', cur, hv, hbb, hgg, hnc, hcm, hcs, htk⟩ := row_some h (by omega)
  injection hv with e1 e2 e3
  subst e1
  have at_ : ∀ i, i < n * 2 → cur[i]? = (ones l)[i]? := fun i hi => by
    have := congrArg (fun l => l[i]?) htk
    rw [List.getElem?_take_of_lt hi] at this
    rw [← Array.getElem?_toList, this]
  refine ⟨b, rfl, blk_lt hgg, fun j hj => ?_⟩
  obtain ⟨h1, h2⟩ := ones_at l j (by omega)
  exact ⟨cell_blk hgg _ _ ((at_ (j * 2) (by omega)).trans h1), cell_blk hgg _ _ ((at_ (j * 2 + 1) (by omega)).trans h2)⟩

set_option maxHeartbeats 3200000 in
set_option maxRecDepth 100000 in
theorem refOf_any {T : Nat → Prop} (ao : Option Addr) (n cap : Nat) (zs : List Int) (w : World) (h : Arg T w ao n zs) (hnn : ao = none → n = 0 ∧ cap = 0) (hcap : n ≤ cap) (hby : Byt zs) (hn : n ≤ 1000000) :
    Calls Try.prog 26 #[.slice ao n cap] w fun e w' => e = .returned (.string (strOfNums (ofL zs))) ∧ Below w.heap.size w w' := by
  obtain ⟨i0, hi0, hz0, hz1, hz2⟩ := info_parts Try.info5
  have HAll := Lib.hid (refAll_any ao n cap zs w h hnn hcap hby hn)
  have hap := allP_len zs
  have hzl := h.1
  have hpt := ofP_pt hby
  rw [← allP_pts] at hpt
  obtain ⟨l, hl⟩ : ∃ l, l = allP zs := ⟨_, rfl⟩
  have HX : Hid (strOfNums (ofL zs) = strOfNums (enc (l.map (·.2)))) := Lib.hid (by rw [hl, allP_pts]; rfl)
  rw [HX.out]
  rw [← hl] at HAll hpt hap
  obtain ⟨N, hN⟩ : ∃ N, N = l.length := ⟨_, rfl⟩
  rw [← hN] at HAll hap
  have HNN := Lib.hid hN
  have HP := Lib.hid hpt
  have hN2 : N ≤ 1000000 := by omega
  clear h hnn hby hpt hl hN HX
  go_enter Try.func26, Try.ntmps26
  go_wp2_with (go_at_call 33; fail)
  refine HAll.out.mono ?_
  rintro e w1 ⟨la, lc, rfl, hrow, hb1⟩
  have HI := Lib.hid (row_ons hrow)
  have HB1 := Lib.hid hb1
  clear hrow hb1 HAll
  go_wp2_with fail
  go_loopg [3, 5] N (fun gk v5 v10 wr => ∃ i : Nat, v10 = .int .i64 i ∧ i ≤ N ∧ gk = N - i ∧ wr.ownsRow w1.heap.size 5 1 v5 (enc ((l.map (·.2)).take i)).length ((enc ((l.map (·.2)).take i)).map (.int .u8)) ∧ Below w1.heap.size w1 wr)
  case atStart => exact ⟨0, rfl, by omega, rfl, by simpa [enc] using World.ownsRow_nil w1 w1.heap.size 5 1, Below.refl _ _⟩
  case round =>
    obtain ⟨i, rfl, hi, hgk, hrow, hb⟩ := hrel
    have HG := Lib.hid hgk
    have HR := Lib.hid hrow
    have HB := Lib.hid hb
    obtain ⟨so, sc, rfl⟩ := row_slice hrow
    clear hgk hrow hb
    by_cases hlt : i < N
    · have d1 : decide (i < N) = true := by simpa using hlt
      obtain ⟨b, rfl, hbl, hc⟩ := (HI.out.below HB.out).2 (by omega)
      have hci := (hc i hlt).2
      obtain ⟨p, hpp⟩ : ∃ p, p = (l.getD i (0, 0)).2 := ⟨_, rfl⟩
      rw [← hpp] at hci
      have hpd : p = (l.map (·.2)).getD i 0 := by
        rw [hpp]
        have : i < l.length := by rw [← HNN.out]; exact hlt
        simp [List.getD, this]
      have hpt : Pt p := by
        have : i < (l.map (·.2)).length := by rw [List.length_map, ← HNN.out]; exact hlt
        rw [hpd]; exact HP.out _ (getD_mem this)
      have HPo := Lib.hid (refBytes_any p wr hpt)
      have HPP := Lib.hid hpd
      obtain ⟨E, hE⟩ : ∃ E, E = (enc ((l.map (·.2)).take i)).length := ⟨_, rfl⟩
      have hEl : E ≤ 8000000 := by have := enc_len ((l.map (·.2)).take i); rw [List.length_take] at this; omega
      have HE := Lib.hid hE
      rw [← hE] at HR ⊢
      have hbs := HB.out.size
      clear hc hpp hpd hpt hE
      go_wp2_with (go_at_call 35; fail)
      refine HPo.out.mono ?_
      rintro e w2 ⟨a, c1, rfl, hA, han, hb1⟩
      have hrow1 := (Mod.of_below hb1 (fun _ => False)).row HR.out (fun _ _ h => h)
      have hs1 := hb1.size
      have HB2 := Lib.hid (HB.out.trans (hb1.mono HB.out.size))
      have HA1 := Lib.hid hA
      have hbl4 := bytesL_len p
      obtain ⟨K, hK⟩ : ∃ K, K = (bytesL p).length := ⟨_, rfl⟩
      rw [← hK] at HA1 hbl4
      have HKK := Lib.hid hK
      have HR1 := Lib.hid hrow1
      clear hb1 hA hK hrow1 HPo
      rw [← HKK.out]
      go_wp2_with (at_builtin; go_loud (refine wpList_append_f _ rfl (.tmp 14) (.tmp 20) 22 rfl w1.heap.size 5 i0 (.int .u8 0) 1 1 Try.underlying22 hi0 hz0 hz1 hz2 rfl (by decide) _ _ _ rfl HR1.out a K c1 ((bytesL p).map (.int .u8)) rfl (by simp [HKK.out]) (fun e => absurd e han) HA1.out.news (one_u8 _) ?c3 ?c4 (by omega) ?_))
      case c3 => unfold maxLen; omega
      case c4 => omega
      intro v' w3 hown hg hf _
      have hb2 : Below w1.heap.size w1 w3 := HB2.out.grown hg HB2.out.size (fun k e => (HR1.out.lt k e).1)
      have HO := Lib.hid hown
      have HB3 := Lib.hid hb2
      clear hown hg hf hb2 HR1 HA1 HB2
      go_wp2
      go_roundg (N - (i + 1))
      case measure => have := HG.out; omega
      case rel =>
        refine ⟨i + 1, by go_num, by omega, rfl, ?_, HB3.out⟩
        have h1 := HO.out
        rw [HE.out, HKK.out, ← List.map_append, ← List.length_append, HPP.out, ← enc_take (by rw [List.length_map, ← HNN.out]; exact hlt)] at h1
        exact h1
    · obtain rfl : i = N := by omega
      have hta : (l.map (·.2)).take i = l.map (·.2) := List.take_of_length_le (by rw [List.length_map, ← HNN.out]; exact Nat.le_refl _)
      have hr := HR.out
      rw [hta] at hr
      obtain ⟨hll, hA, hnn⟩ := row_arg hr
      have hcv := conv_any (w := wr) sc hA hnn
      rw [hta]
      obtain ⟨X, hX⟩ : ∃ X, X = strOfNums (enc (l.map (·.2))) := ⟨_, rfl⟩
      rw [← hX] at hcv
      have HX := Lib.hid hX
      clear hA hnn hr hll hX hta
      go_wp2
      go_ret
      exact ⟨by rw [← HX.out]; rfl, HB1.out.trans (HB.out.mono HB1.out.size)⟩

set_option maxHeartbeats 1600000 in
theorem refSound_any (s : ByteArray) (w : World) (hn : s.size ≤ 1000000) : Calls Try.prog 12 #[.string s] w fun e w' => e = .returned (.bool (decide (ofL (nums s) = nums s))) ∧ Below w.heap.size w w' := by
  obtain ⟨c, w1, hrun, hb1, hs1, hA, hcc⟩ := conv_newc s w
  have HOf := Lib.hid (refOf_any (some ⟨w.heap.size, 0, none⟩) s.size c (nums s) w1 hA (fun e => by cases e) hcc (nums_byt s) hn)
  have HB1 := Lib.hid hb1
  have HS1 := Lib.hid hs1
  obtain ⟨b, hb⟩ : ∃ b, b = decide (ofL (nums s) = nums s) := ⟨_, rfl⟩
  obtain ⟨X, hX⟩ : ∃ X, X = strOfNums (ofL (nums s)) := ⟨_, rfl⟩
  have hd : (X.toList == s.toList) = b := by
    rw [hb]
    refine toList_beq X s _ ?_
    rw [hX]
    conv => lhs; rhs; rw [← str_nums s]
    exact str_eq (ofL_byt (nums_byt s)) (nums_byt s)
  rw [← hb]
  rw [← hX] at HOf
  clear hA hb1 hs1 hX hb hcc
  go_enter Try.func12, Try.ntmps12
  go_wp2_with (go_at_call 26; fail)
  refine HOf.out.mono ?_
  rintro e w2 ⟨rfl, hb2⟩
  have HB2 := Lib.hid (HB1.out.trans (hb2.mono HB1.out.size))
  clear hb2 HOf
  go_wp2
  go_ret
  exact ⟨rfl, HB2.out⟩
end Go.Proofs.Ytfkfooclapogjaa
