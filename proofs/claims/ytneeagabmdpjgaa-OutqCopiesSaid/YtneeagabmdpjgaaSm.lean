/-
  Same of two queues.
-/
import Derived.Test.YtneeagabmdpjgaaNa
namespace Go.Proofs.Ytneeagabmdpjgaa
open Go.RowKit
set_option linter.unusedVariables false
set_option linter.unusedSimpArgs false
attribute [local go_sem high] eql89

set_option maxHeartbeats 800000 in
theorem left_gen (base p g : Nat) (m : Int) (sv : Value) (vs : List Int) (w : World) (h : QAt w base p sv g m vs) (hg : g ≤ vs.length) (hl : vs.length ≤ 4194304) :
    ∃ ao, (ao = none → vs.length = 0) ∧ Arg (fun k => sv.ownBlock = some k) w ao (vs.length - g) (vs.drop g) ∧
    ∀ k, Calls Try.prog 57 #[.pointer (some ⟨p, 0, none⟩)] (w.drewN k) fun e w' => e = .returned (.slice ao (vs.length - g) (vs.length - g)) ∧ ∃ q, w' = (w.drewN k).drewN q := by
  have c0 := h.c0
  have c1 := h.c1
  obtain ⟨a0, cap, rfl⟩ := row_slice h.row
  cases a0 with
  | none =>
    have h0 : vs.length = 0 ∧ cap = 0 := by
      rcases h.row.2 with ⟨e, _⟩ | ⟨g', c', cur, e, _⟩
      · injection e with e1 e2 e3
        exact ⟨e2, e3⟩
      · cases e
    obtain ⟨e1, rfl⟩ := h0
    obtain rfl : g = 0 := by omega
    refine ⟨none, fun _ => e1, ⟨by simp, fun hp => by omega⟩, fun kk => ?_⟩
    rw [e1] at c0 ⊢
    replace c0 : (w.drewN kk).cell? ⟨p, 0, none⟩ = _ := c0
    replace c1 : (w.drewN kk).cell? ⟨p, 1, none⟩ = _ := c1
    generalize w.drewN kk = W at c0 c1 ⊢
    clear h
    go_enter Try.func57, Try.ntmps57
    go_wp2
    go_quiet (fail)
    go_wp2
    go_ret
    exact ⟨rfl, _, rfl⟩
  | some ad =>
    obtain ⟨b, cap', cur, hv, hbb, hgg, hnc, hcm, hcs, htk⟩ : ∃ g' cap' cur, (Value.slice (some ad) vs.length cap) = .slice (some ⟨g', 0, none⟩) vs.length cap' ∧ base ≤ g' ∧ w.heap[g']? = some (.cells cur 5 (0, 0)) ∧ vs.length ≤ cap' ∧ cap' ≤ maxLen ∧ cur.size = cap' * 1 ∧ cur.toList.take (vs.length * 1) = vs.map (.int .u8) := by
      rcases h.row.2 with ⟨e, _⟩ | h'
      · cases e
      · exact h'
    injection hv with e1 e2 e3
    injection e1 with e1
    subst e1; subst e3
    have hw := row_window h.row g (vs.length - g) (by omega)
    clear hgg htk hcs h
    by_cases hlt : g < vs.length
    · obtain ⟨b', e, ha⟩ := hw (by omega)
      cases e
      refine ⟨some ⟨b, g, none⟩, by simp, by rw [List.take_of_length_le (by simp)] at ha; exact ha, fun kk => ?_⟩
      replace c0 : (w.drewN kk).cell? ⟨p, 0, none⟩ = _ := c0
      replace c1 : (w.drewN kk).cell? ⟨p, 1, none⟩ = _ := c1
      clear hw ha
      generalize w.drewN kk = W at c0 c1 ⊢
      go_enter Try.func57, Try.ntmps57
      go_wp2
      go_quiet (fail)
      go_wp2
      go_ret
      exact ⟨rfl, _, rfl⟩
    · obtain rfl : g = vs.length := by omega
      refine ⟨some ⟨b, 0, none⟩, by simp, ⟨by simp, fun hp => by omega⟩, fun kk => ?_⟩
      replace c0 : (w.drewN kk).cell? ⟨p, 0, none⟩ = _ := c0
      replace c1 : (w.drewN kk).cell? ⟨p, 1, none⟩ = _ := c1
      clear hw
      generalize w.drewN kk = W at c0 c1 ⊢
      go_enter Try.func57, Try.ntmps57
      go_wp2
      go_quiet (fail)
      go_wp2
      go_ret
      exact ⟨by rw [Nat.sub_self]; rfl, _, rfl⟩

set_option maxHeartbeats 1600000 in
set_option maxRecDepth 100000 in
theorem Same_qu {base base' p p2 g g' : Nat} {m m2 : Int} {sv sv' : Value} {vs vs' bs bs' : List Int} {w : World} (h : Qu w base p m sv g vs bs) (h2 : Qu w base' p2 m2 sv' g' vs' bs') :
    Calls Try.prog 50 #[.pointer (some ⟨p, 0, none⟩), .pointer (some ⟨p2, 0, none⟩)] w fun e w' => e = .returned (.bool (decide (m = m2 ∧ bs = bs'))) ∧ ∃ q, w' = w.drewN q := by
  have hl4 : vs.length ≤ 4194304 := by have := h.hl; have := h.hm1; omega
  have hl4' : vs'.length ≤ 4194304 := by have := h2.hl; have := h2.hm1; omega
  have HN := Lib.hid (none_q p w h.at_.c3)
  have HN2 := Lib.hid (none_q p2 w h2.at_.c3)
  have c2 := h.at_.c2
  have d2 := h2.at_.c2
  have l1 := h.len
  have l2 := h2.len
  obtain ⟨a1, _, hA1, hL1⟩ := left_gen base p g m sv vs w h.at_ h.hg hl4
  obtain ⟨a2, _, hA2, hL2⟩ := left_gen base' p2 g' m2 sv' vs' w h2.at_ h2.hg hl4'
  rw [l1] at hL1 hA1
  rw [l2] at hL2 hA2
  rw [h.hb] at hA1
  rw [h2.hb] at hA2
  have HL1 := Lib.hid hL1
  have HL2 := Lib.hid hL2
  have HE := Lib.hid (fun k => Equal_any _ _ a1 a2 bs.length bs'.length bs bs' (w.drewN k) (hA1.drewN k) (hA2.drewN k) (by omega) (by omega))
  by_cases hm : m = m2
  · subst hm
    have hb : (m == m) = true := by simp
    have HD : Hid (decide (m = m ∧ bs = bs') = decide (bs = bs')) := Lib.hid (by simp)
    clear h h2 hL1 hL2 hA1 hA2 hl4 hl4' l1 l2
    obtain ⟨bb, hbb⟩ : ∃ b, b = decide (bs = bs') := ⟨_, rfl⟩
    rw [← hbb] at HE HD
    rw [HD.out]
    clear HD hbb
    go_enter Try.func50, Try.ntmps50
    go_wp2_with (first | (go_at_call 52; with_reducible refine HN.out.mono ?_; rintro e w' ⟨rfl, rfl⟩) | (go_at_call 52; with_reducible refine HN2.out.mono ?_; rintro e w' ⟨rfl, rfl⟩))
    go_quiet (first | (go_at_call 57; with_reducible exact Calls.quiet_of (HL1.out _)) | (go_at_call 57; with_reducible exact Calls.quiet_of (HL2.out _)) | (go_at_call 59; exact Calls.quiet_of (HE.out _)))
    go_wp2
    go_ret
    exact ⟨rfl, _, rfl⟩
  · have hb : (m == m2) = false := by simpa using hm
    have HD : Hid (decide (m = m2 ∧ bs = bs') = false) := Lib.hid (by simp [hm])
    clear h h2 hL1 hL2 hA1 hA2 hl4 hl4' l1 l2 hm
    rw [HD.out]
    clear HD
    go_enter Try.func50, Try.ntmps50
    go_wp2_with (first | (go_at_call 52; with_reducible refine HN.out.mono ?_; rintro e w' ⟨rfl, rfl⟩) | (go_at_call 52; with_reducible refine HN2.out.mono ?_; rintro e w' ⟨rfl, rfl⟩))
    go_quiet (fail)
    go_wp2
    go_ret
    exact ⟨rfl, _, rfl⟩
theorem QS.same {w w2 wr : World} {K K2 : Nat → Prop} {p p2 : Nat} {m m2 : Int} {bs bs2 : List Int} (h : QS w K p m bs wr) (h2 : QS w2 K2 p2 m2 bs2 wr) :
    Calls Try.prog 50 #[.pointer (some ⟨p, 0, none⟩), .pointer (some ⟨p2, 0, none⟩)] wr fun e w' => e = .returned (.bool (decide (m = m2 ∧ bs = bs2))) ∧ ∃ q, w' = wr.drewN q := by
  obtain ⟨sv, g, vs, hq, _⟩ := h.qu
  obtain ⟨sv2, g2, vs2, hq2, _⟩ := h2.qu
  exact Same_qu hq hq2
/-- Bytes are told by their string. -/
theorem strOfNums_inj {a b : List Int} (ha : ∀ x ∈ a, 0 ≤ x ∧ x < 256) (hb : ∀ x ∈ b, 0 ≤ x ∧ x < 256) (h : strOfNums a = strOfNums b) : a = b := by
  induction a generalizing b with
  | nil =>
    cases b with
    | nil => rfl
    | cons y b => have := congrArg ByteArray.size h; simp [strOfNums_size] at this
  | cons x a ih =>
    cases b with
    | nil => have := congrArg ByteArray.size h; simp [strOfNums_size] at this
    | cons y b =>
      have h1 := congrArg (fun s : ByteArray => s.data.toList) h
      simp only [strOfNums_data, List.map_cons, List.cons.injEq] at h1
      obtain ⟨h1, h2⟩ := h1
      have hx := ha x (by simp)
      have hy := hb y (by simp)
      have h3 := congrArg UInt8.toNat h1
      simp only [UInt8.toNat_ofNat'] at h3
      rw [Nat.mod_eq_of_lt (by omega), Nat.mod_eq_of_lt (by omega)] at h3
      have hab : a = b := ih (fun x h => ha x (by simp [h])) (fun x h => hb x (by simp [h])) (by
        apply ByteArray.ext
        apply Array.ext'
        exact h2)
      rw [hab, show x = y by omega]
end Go.Proofs.Ytneeagabmdpjgaa
