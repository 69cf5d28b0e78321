/-
  Lines of points, in plain Lean.
-/
import Derived.Test.YtfkfooclapogjaaWb
namespace Go.Proofs.Ytfkfooclapogjaa
open Go.RowKit
set_option linter.unusedVariables false
set_option linter.unusedSimpArgs false

/-- What a splitter carries: the line that waits (whole), whether a point came, whether the last one was a CR. -/
abbrev Ss := List Int × Bool × Bool
def stepP (s : Ss) (p : Int) : List (List Int) × Ss :=
  if s.2.1 = false ∧ p = 65279 then ([], (s.1, true, s.2.2))
  else if s.2.2 = true ∧ p = 10 then ([], (s.1, true, false))
  else if p = 13 ∨ p = 10 then ([s.1], ([], true, decide (p = 13)))
  else ([], (s.1 ++ bytesL p, true, false))
def runP : Ss → List Int → List (List Int) × Ss
  | s, [] => ([], s)
  | s, p :: ps => ((stepP s p).1 ++ (runP (stepP s p).2 ps).1, (runP (stepP s p).2 ps).2)
theorem runP_append (s : Ss) (a b : List Int) : runP s (a ++ b) = ((runP s a).1 ++ (runP (runP s a).2 b).1, (runP (runP s a).2 b).2) := by
  induction a generalizing s with
  | nil => simp [runP]
  | cons p a ih => simp [runP, ih, List.append_assoc]
/-- No end among them. -/
def NoEnd (ps : List Int) : Prop := ∀ p ∈ ps, p ≠ 13 ∧ p ≠ 10
theorem runP_noend (L : List Int) : ∀ ps, NoEnd ps → runP (L, true, false) ps = ([], (L ++ enc ps, true, false))
  | [], _ => by simp [runP, enc_nil]
  | p :: ps, h => by
    have hp := h p (by simp)
    have h1 : stepP (L, true, false) p = ([], (L ++ bytesL p, true, false)) := by simp [stepP, hp.1, hp.2]
    have := runP_noend (L ++ bytesL p) ps (fun q hq => h q (by simp [hq]))
    simp [runP, h1, this, enc_cons, List.append_assoc]
theorem runP_end (L : List Int) (e : Int) (he : e = 13 ∨ e = 10) (ps : List Int) : runP (L, true, false) (e :: ps) = (L :: (runP ([], true, decide (e = 13)) ps).1, (runP ([], true, decide (e = 13)) ps).2) := by
  have h1 : stepP (L, true, false) e = ([L], ([], true, decide (e = 13))) := by simp [stepP, he]
  simp [runP, h1]
/-- Cut at the first end. -/
def ahead : List Int → List Int
  | [] => []
  | p :: ps => if p = 13 ∨ p = 10 then [] else p :: ahead ps
theorem ahead_noend : ∀ ps, NoEnd (ahead ps)
  | [] => fun p h => by simp [ahead] at h
  | q :: ps => fun p h => by
    by_cases hq : q = 13 ∨ q = 10
    · simp [ahead, hq] at h
    · simp only [ahead, if_neg hq, List.mem_cons] at h
      rcases h with rfl | h
      · exact ⟨fun e => hq (.inl e), fun e => hq (.inr e)⟩
      · exact ahead_noend ps p h
theorem ahead_split : ∀ ps, (ahead ps = ps) ∨ ∃ e behind, ps = ahead ps ++ e :: behind ∧ (e = 13 ∨ e = 10)
  | [] => .inl rfl
  | q :: ps => by
    by_cases hq : q = 13 ∨ q = 10
    · exact .inr ⟨q, ps, by simp [ahead, hq], hq⟩
    · rcases ahead_split ps with h | ⟨e, b, h, he⟩
      · exact .inl (by simp [ahead, hq, h])
      · exact .inr ⟨e, b, by simp only [ahead, if_neg hq, List.cons_append]; rw [← h], he⟩
theorem bytesL_first {p : Int} (h : Pt p) : ∀ x ∈ bytesL p, (x = p ∧ p ≤ 127) ∨ 128 ≤ x := by
  intro x hx
  have h0 := h.1
  have h1 := h.2.1
  unfold bytesL at hx
  split at hx
  · simp at hx; omega
  · split at hx
    · simp at hx; omega
    · split at hx
      · simp at hx; omega
      · simp at hx; omega
theorem bytesL_ascii {p : Int} (h0 : 0 ≤ p) (h : p ≤ 127) : bytesL p = [p] := by
  unfold bytesL
  rw [if_pos (by omega)]
theorem enc_noend {ps : List Int} (hp : ∀ p ∈ ps, Pt p) (h : NoEnd ps) : ∀ x ∈ enc ps, x ≠ 13 ∧ x ≠ 10 := by
  intro x hx
  obtain ⟨p, hpm, hxp⟩ := List.mem_flatMap.1 hx
  have hne := h p hpm
  rcases bytesL_first (hp p hpm) x hxp with ⟨rfl, _⟩ | h2
  · exact hne
  · exact ⟨by omega, by omega⟩
theorem enc_ne_nil {p : Int} {ps : List Int} : enc (p :: ps) ≠ [] := fun e => by
  have h1 := (bytesL_len p).1
  have := congrArg List.length e
  rw [enc_cons, List.length_append, List.length_nil] at this
  omega
/-- The mark's bytes begin points' bytes just where the mark is the first point. -/
theorem enc_pre {q p : Int} {ps : List Int} (hq : Pt q) (hp : Pt p) (hb : ∀ x ∈ ps, Pt x) : bytesL q <+: enc (p :: ps) ↔ p = q := by
  constructor
  · rintro ⟨r, hr⟩
    have h1 := F_bytes q hq r
    have h2 := F_bytes p hp (enc ps)
    rw [hr, enc_cons] at h1
    rw [h1] at h2
    exact (Prod.mk.inj h2).1.symm
  · rintro rfl
    exact ⟨enc ps, rfl⟩
/-- A line that is too long is none. -/
def toldV (most : Nat) (L : List Int) : Value := if L.length ≤ most then .agg #[.string (strOfNums L), .bool false] else .agg #[.string ⟨#[]⟩, .bool true]
def toldC (most : Nat) (L : List Int) : List Value := if L.length ≤ most then [.string (strOfNums L), .bool false] else [.string ⟨#[]⟩, .bool true]
theorem toldC_len (most : Nat) (L : List Int) : (toldC most L).length = 2 := by
  unfold toldC; split <;> rfl
theorem toldV_eq (most : Nat) (L : List Int) : ∃ s b, toldV most L = .agg #[.string s, .bool b] ∧ toldC most L = [.string s, .bool b] := by
  unfold toldV toldC; split <;> exact ⟨_, _, rfl, rfl⟩
def tolds (most : Nat) (Ls : List (List Int)) : List Value := Ls.flatMap (toldC most)
theorem tolds_len (most : Nat) (Ls : List (List Int)) : (tolds most Ls).length = Ls.length * 2 := by
  induction Ls with
  | nil => rfl
  | cons L Ls ih =>
    simp only [tolds, List.flatMap_cons, List.length_append, toldC_len, List.length_cons] at ih ⊢
    omega
theorem tolds_append (most : Nat) (a b : List (List Int)) : tolds most (a ++ b) = tolds most a ++ tolds most b := by simp [tolds]
theorem tolds_one (most : Nat) : ∀ Ls, ∀ u ∈ tolds most Ls, u.oneCell' = true := fun Ls u hu => by
  obtain ⟨L, _, h⟩ := List.mem_flatMap.1 hu
  obtain ⟨s, b, _, e⟩ := toldV_eq most L
  rw [e] at h
  simp at h
  rcases h with rfl | rfl <;> rfl
theorem take_more (most : Nat) (L A : List Int) : (L.take (most + 1)) ++ A.take (most + 1 - (L.take (most + 1)).length) = (L ++ A).take (most + 1) := by
  rw [List.take_append]
  congr 2
  rw [List.length_take]
  omega
/-- A splitter's beginning: the mark, or a LF behind a CR, are left out. -/
def begR (bg cr : Bool) (ps : List Int) : Bool × Bool × List Int :=
  match ps with
  | [] => (bg, cr, [])
  | p :: ps' => if bg = false then (if p = 65279 then (true, cr, ps') else (true, cr, p :: ps')) else if cr = true then (if p = 10 then (true, false, ps') else (true, false, p :: ps')) else (true, false, p :: ps')
theorem begR_run (L : List Int) (bg cr : Bool) (ps : List Int) (hc : bg = false → cr = false) : runP (L, bg, cr) ps = runP (L, (begR bg cr ps).1, (begR bg cr ps).2.1) (begR bg cr ps).2.2 ∧ (ps = [] ∨ ((begR bg cr ps).1 = true ∧ (begR bg cr ps).2.1 = false)) ∧ (begR bg cr ps).2.2.length ≤ ps.length ∧ (∀ p ∈ (begR bg cr ps).2.2, p ∈ ps) := by
  cases ps with
  | nil => exact ⟨rfl, .inl rfl, Nat.le_refl _, fun p h => h⟩
  | cons p ps' =>
    cases bg with
    | false =>
      obtain rfl := hc rfl
      by_cases hp : p = 65279
      · subst hp
        refine ⟨?_, .inr ?_, ?_, fun q hq => ?_⟩
        · simp [begR, runP, stepP]
        · simp [begR]
        · simp [begR]
        · simp [begR] at hq; simp [hq]
      · refine ⟨?_, .inr ?_, ?_, fun q hq => ?_⟩
        · simp [begR, hp, runP, stepP]
        · simp [begR, hp]
        · simp [begR, hp]
        · simpa [begR, hp] using hq
    | true =>
      cases cr with
      | false => exact ⟨by simp [begR], .inr (by simp [begR]), by simp [begR], fun q hq => by simpa [begR] using hq⟩
      | true =>
        by_cases hp : p = 10
        · subst hp
          refine ⟨?_, .inr ?_, ?_, fun q hq => ?_⟩
          · simp [begR, runP, stepP]
          · simp [begR]
          · simp [begR]
          · simp [begR] at hq; simp [hq]
        · refine ⟨?_, .inr ?_, ?_, fun q hq => ?_⟩
          · simp [begR, hp, runP, stepP]
          · simp [begR, hp]
          · simp [begR, hp]
          · simpa [begR, hp] using hq
end Go.Proofs.Ytfkfooclapogjaa
