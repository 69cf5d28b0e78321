/-
  The document's All, Of, Sound, walked.
-/
import Derived.Test.YtfkfooclapogjaaSi
import Derived.Test.YtfkfooclapogjaaSj
import Derived.Test.YtfkfooclapogjaaNu
namespace Go.Proofs.Ytfkfooclapogjaa
open Go.RowKit
set_option linter.unusedVariables false
set_option linter.unusedSimpArgs false

theorem Try.info77 : (Try.prog.info? 77).map (fun i => (i.zero, i.size, i.bytes)) = some (some (.agg #[.int .i64 0, .int .i64 0]), 2, 16) := by kernel_rfl
/-- Ones, as they lie. -/
def ones (l : List (Nat × Int)) : List Value := l.flatMap fun x => [.int .i64 (x.1 : Nat), .int .i64 x.2]
theorem ones_len (l : List (Nat × Int)) : (ones l).length = l.length * 2 := by
  induction l with
  | nil => rfl
  | cons x l ih => simp only [ones, List.flatMap_cons, List.length_append, List.length_cons, List.length_nil] at ih ⊢; rw [ih]; omega
theorem ones_append (a b : List (Nat × Int)) : ones (a ++ b) = ones a ++ ones b := by simp [ones]
theorem ones_at : ∀ (l : List (Nat × Int)) (j : Nat) (h : j < l.length), (ones l)[j * 2]? = some (.int .i64 ((l.getD j (0, 0)).1 : Nat)) ∧ (ones l)[j * 2 + 1]? = some (.int .i64 (l.getD j (0, 0)).2)
  | x :: l, 0, _ => by simp [ones]
  | x :: l, j + 1, h => by
    have := ones_at l j (by simpa using h)
    rw [show (j + 1) * 2 = j * 2 + 2 by omega]
    simpa [ones] using this

theorem fl_wait (zs : List Int) : ∀ (f : Nat) (pt lo hi : Int) (k : Nat), (fl zs f pt lo hi k).2.2 = false → (fl zs f pt lo hi k).1 = 65533
  | 0, pt, lo, hi, k, h => by simp [fl] at h
  | f + 1, pt, lo, hi, k, h => by
    simp only [fl] at h ⊢
    by_cases e : zs.length = k
    · rw [if_pos e]
    · rw [if_neg e] at h ⊢
      by_cases e3 : zs.getD k 0 < lo ∨ hi < zs.getD k 0
      · rw [if_pos e3]
      · rw [if_neg e3] at h ⊢
        exact fl_wait zs f _ _ _ _ h
theorem F_wait (zs : List Int) (h : (F zs).2.2 = false) : (F zs).1 = 65533 := by
  unfold F at h ⊢
  generalize lead (zs.getD 0 0) = l at h ⊢
  match l, h with
  | none, h => simp at h
  | some (m, lo, hi), h => exact fl_wait zs _ _ _ _ _ h
/-- All that are told, from a place on. -/
def allA (a : Nat) (zs : List Int) : List (Nat × Int) := (told a zs).1 ++ (if wts zs = [] then [] else [(a + zs.length - (wts zs).length, 65533)])
theorem allA_zero (zs : List Int) : allA 0 zs = allP zs := by
  unfold allA allP
  rw [Nat.zero_add]
theorem allA_nil (a : Nat) : allA a [] = [] := by simp [allA, told_nil, wts_nil]
theorem allA_step (a : Nat) (zs : List Int) (h0 : 0 < zs.length) : allA a zs = (a, (F zs).1) :: allA (a + (F zs).2.1) (zs.drop (F zs).2.1) := by
  have hl := F_len zs h0
  cases hw : (F zs).2.2 with
  | true =>
    unfold allA
    rw [told_step a zs h0 hw, wts_step zs h0 hw, List.length_drop, show a + (F zs).2.1 + (zs.length - (F zs).2.1) = a + zs.length by omega]
    rfl
  | false =>
    obtain ⟨h1, h2⟩ := hl.2.2.2 hw
    rw [h1, List.drop_length, allA_nil]
    unfold allA
    rw [told_wait a zs h0 hw, wts_wait zs h0 hw, if_neg (List.length_pos_iff.1 h0), F_wait zs hw, show a + zs.length - zs.length = a by omega]
    rfl

set_option maxHeartbeats 3200000 in
set_option maxRecDepth 100000 in
theorem refAll_any {T : Nat → Prop} (ao : Option Addr) (n cap : Nat) (zs : List Int) (w : World) (h : Arg T w ao n zs) (hnn : ao = none → n = 0 ∧ cap = 0) (hcap : n ≤ cap) (hby : Byt zs) (hn : n ≤ 1000000) :
    Calls Try.prog 33 #[.slice ao n cap] w fun e w' => ∃ a c, e = .returned (.slice a (allP zs).length c) ∧ w'.ownsRow w.heap.size 77 2 (.slice a (allP zs).length c) (allP zs).length (ones (allP zs)) ∧ Below w.heap.size w w' := by
  obtain ⟨i0, hi, hz0, hz1, hz2⟩ := info_parts Try.info77
  have hzl := h.1
  have HZ := Lib.hid h
  have HNN := Lib.hid hnn
  have HBy := Lib.hid hby
  have HZL := Lib.hid h.1
  have HF : Hid (∀ (k : Nat) (b off : Nat) wr, k < n → ao = some ⟨b, off, none⟩ → Below w.heap.size w wr → Calls Try.prog 50 #[.slice (some ⟨b, off + k, none⟩) (n - k) (cap - k)] wr fun e w' => e = .returned (.tuple #[.int .i64 (F (zs.drop k)).1, .int .i64 ((F (zs.drop k)).2.1 : Nat), .bool (F (zs.drop k)).2.2]) ∧ Below wr.heap.size wr w') :=
    Lib.hid fun k b off wr hk e hw => by
      subst e
      have ha := (h.below hw).window k (n - k) (by omega)
      rw [List.take_of_length_le (by rw [List.length_drop]; omega)] at ha
      exact refFirst_any (T := T) _ (n - k) (cap - k) (zs.drop k) wr ha (by omega) (by omega) (by omega) (hby.drop k)
  clear h hnn hby
  go_enter Try.func33, Try.ntmps33
  go_wp2_with fail
  go_loopg [3, 4] n (fun gk v3 v4 wr => ∃ (at' : Nat) (pre : List (Nat × Int)), v4 = .int .i64 (at' : Nat) ∧ at' ≤ n ∧ gk = n - at' ∧ wr.ownsRow w.heap.size 77 2 v3 pre.length (ones pre) ∧ Below w.heap.size w wr ∧ Hid (allP zs = pre ++ allA at' (zs.drop at')) ∧ pre.length ≤ at')
  case atStart => exact ⟨0, [], rfl, by omega, rfl, World.ownsRow_nil w w.heap.size 77 2, Below.refl _ _, Lib.hid (by rw [List.drop_zero, allA_zero]; rfl), by simp⟩
  case round =>
    obtain ⟨at', pre, rfl, hat, hgk, hrow, hbw, HA, hpl⟩ := hrel
    have HG := Lib.hid hgk
    have HB := Lib.hid hbw
    obtain ⟨so, sc, rfl⟩ := row_slice hrow
    have HR := Lib.hid hrow
    clear hgk hbw hrow
    by_cases hlt : at' < n
    · obtain ⟨b, off, hae, hb, _, hcz⟩ := HZ.out.2 (by omega)
      have hd0 : 0 < (zs.drop at').length := by rw [List.length_drop]; omega
      have hfl := F_len (zs.drop at') hd0
      rw [List.length_drop] at hfl
      have HF1 := Lib.hid (HF.out at' b off wr hlt hae HB.out)
      subst hae
      have HA2 : Hid (allP zs = (pre ++ [(at', (F (zs.drop at')).1)]) ++ allA (at' + (F (zs.drop at')).2.1) (zs.drop (at' + (F (zs.drop at')).2.1))) := Lib.hid (by
        rw [HA.out, allA_step at' _ hd0, List.drop_drop]; simp)
      obtain ⟨fp, hfp⟩ : ∃ fp, fp = (F (zs.drop at')).1 := ⟨_, rfl⟩
      obtain ⟨fk, hfk⟩ : ∃ fk, fk = (F (zs.drop at')).2.1 := ⟨_, rfl⟩
      obtain ⟨fw, hfw⟩ : ∃ fw, fw = (F (zs.drop at')).2.2 := ⟨_, rfl⟩
      rw [← hfp, ← hfk, ← hfw] at HF1
      rw [← hfp, ← hfk] at HA2
      rw [← hfk] at hfl
      obtain ⟨hk1, hk2, _⟩ := hfl
      have l1 : decide (at' < n) = true := by simpa using hlt
      have l2 : decide ((at' : Int) < n) = true := by simpa using hlt
      have k3 : at' ≤ cap := by omega
      clear hcz hfp hfk hfw hd0 HA
      go_wp2_with (go_at_call 50; fail)
      refine HF1.out.mono ?_
      rintro e w2 ⟨rfl, hb2⟩
      have HB2 := Lib.hid (HB.out.trans (hb2.mono HB.out.size))
      have HR2 := Lib.hid ((Mod.of_below hb2 (fun _ => False)).row HR.out (fun _ _ h => h))
      obtain ⟨w3, hw3⟩ : ∃ W, W = w2.alloc (.cells #[.int .i64 (at' : Nat), .int .i64 fp] 77) := ⟨_, rfl⟩
      have b3 : Below w2.heap.size w2 w3 := by rw [hw3]; exact (Below.refl _ w2).alloc (Nat.le_refl _) _
      have k1 : w3.heap[w2.heap.size]? = some (.cells #[.int .i64 (at' : Nat), .int .i64 fp] 77 (0, 0)) := by rw [hw3]; exact alloc_blk_new _ _
      have HR3 := Lib.hid ((Mod.of_below b3 (fun _ => False)).row HR2.out (fun _ _ h => h))
      have HB3 := Lib.hid (HB2.out.trans (b3.mono HB2.out.size))
      have HN := Lib.hid (fun (ad : Addr) (e : some (⟨w2.heap.size, 0, none⟩ : Addr) = some ad) j u (hj : [Value.int .i64 (at' : Nat), Value.int .i64 fp][j]? = some u) => (show w3.cell? (ad.add j) = some u by
        cases e
        match j, hj with
        | 0, hj => cases hj; exact cell_blk k1 0 _ rfl
        | 1, hj => cases hj; exact cell_blk k1 1 _ rfl))
      have E3 := Lib.hid hw3
      have hbs := HB3.out.size
      clear hb2 hw3 b3 k1 HF1 HB HR HB2 HR2
      go_wp2_with (at_builtin; go_loud (rw [← E3.out]); go_loud (refine wpList_append_f _ rfl (.tmp 20) (.tmp 24) 74 rfl w.heap.size 77 i0 (.agg #[.int .i64 0, .int .i64 0]) 2 16 Try.underlying74 hi hz0 hz1 hz2 rfl (by decide) _ _ _ rfl HR3.out (some ⟨w2.heap.size, 0, none⟩) 1 1 [.int .i64 (at' : Nat), .int .i64 fp] rfl rfl (fun e => by cases e) HN.out (by simp [Value.oneCell']) ?c3 ?c4 (by omega) ?_))
      case c3 => unfold maxLen; omega
      case c4 => omega
      intro v' w4 hown hg hf _
      have hb4 : Below w.heap.size w w4 := HB3.out.grown hg hbs (fun k e => (HR3.out.lt k e).1)
      have HB4 := Lib.hid hb4
      have HR4 : Hid (w4.ownsRow w.heap.size 77 2 v' (pre ++ [(at', fp)]).length (ones (pre ++ [(at', fp)]))) := Lib.hid (by
        rw [ones_append, List.length_append]; exact hown)
      obtain ⟨so', sc', rfl⟩ := row_slice hown
      clear hown hg hf hb4 HR3 HB3 HN E3
      go_wp2_with fail
      go_roundg (n - (at' + fk))
      case measure => have := HG.out; omega
      case rel => exact ⟨at' + fk, pre ++ [(at', fp)], by go_num, by omega, rfl, by simpa using HR4.out, HB4.out, HA2, by rw [List.length_append, List.length_singleton]; omega⟩
    · obtain rfl : at' = n := by omega
      have hall : allP zs = pre := by rw [HA.out, List.drop_of_length_le (by rw [HZL.out]; exact Nat.le_refl _), allA_nil, List.append_nil]
      have HAl := Lib.hid hall
      have l1 : decide (at' < at') = false := by simp
      clear HA hall HF
      go_wp2
      go_ret
      exact ⟨so, sc, by rw [HAl.out]; rfl, by rw [HAl.out]; exact HR.out, HB.out⟩
end Go.Proofs.Ytfkfooclapogjaa
