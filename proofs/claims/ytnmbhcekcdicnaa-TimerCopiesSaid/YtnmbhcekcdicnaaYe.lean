/-
  Calls, as the document tells them.
-/
import Derived.Test.YtnmbhcekcdicnaaYc
import Derived.Test.YtnmbhcekcdicnaaYd
import Derived.Test.YtnmbhcekcdicnaaCp
namespace Go.Proofs.Ytnmbhcekcdicnaa
open Go.RowKit
set_option linter.unusedVariables false
set_option linter.unusedSimpArgs false

/-- What Set tells: an error's number. -/
def setErr (most : Int) (l : List Rw) (k i : Int) : Int := if isKind k = true then (if dueOf l k i = none ∧ most ≤ (l.length : Int) then 3 else 0) else 2
def setWas (most : Int) (l : List Rw) (k i : Int) : Int := if setErr most l k i = 0 then (dueOf l k i).getD 0 else 0
def setHad (most : Int) (l : List Rw) (k i : Int) : Bool := if setErr most l k i = 0 then (dueOf l k i).isSome else false
def setL (most : Int) (l : List Rw) (k i d : Int) : List Rw := if setErr most l k i = 0 then ins (wo l k i) ⟨k, i, d⟩ else l
/-- What Pop tells. -/
def popIs (l : List Rw) (now : Int) : Bool := match l with
  | [] => false
  | r :: _ => decide (r.d ≤ now)
def popR (l : List Rw) (now : Int) : Rw := if popIs l now = true then rAt l 0 else z0
def popL (l : List Rw) (now : Int) : List Rw := if popIs l now = true then l.drop 1 else l
section
variable {A K : Nat → Prop} {w : World} {p : Nat} {most : Int} {bo : Option Addr} {m bc : Nat} {l : List Rw}
theorem refSet_any (h : DR A w bo m bc l) (hm : m ≤ 10000) (most k i d : Int) :
    Calls Try.prog 26 #[.agg #[.slice bo m bc, .int .i64 most], tmV k i, .int .u64 d] w fun e w' => ∃ bo' m' bc', e = .returned (.tuple #[.agg #[.slice bo' m' bc', .int .i64 most], .int .u64 (setWas most l k i), .bool (setHad most l k i), .int .i64 (setErr most l k i)]) ∧ DR (fun q => (A q ∧ q < w.heap.size) ∨ w.heap.size ≤ q) w' bo' m' bc' (setL most l k i d) ∧ Below w.heap.size w w' := by
  have hs : ∀ w', Below w.heap.size w w' → DR (fun q => (A q ∧ q < w.heap.size) ∨ w.heap.size ≤ q) w' bo m bc l := fun w' hb => h.keep hb.size (fun q e hl => .inl ⟨e, hl⟩) fun q _ hl => hb.block q hl
  unfold setWas setHad setL
  cases hk : isKind k with
  | false =>
    have e : setErr most l k i = 2 := by unfold setErr; rw [hk]; rfl
    rw [e]
    refine (refSet_kind h hm most k i d hk).mono ?_
    rintro e w' ⟨rfl, hb⟩
    exact ⟨bo, m, bc, rfl, hs w' hb, hb⟩
  | true =>
    by_cases hf : dueOf l k i = none ∧ most ≤ (l.length : Int)
    · have e : setErr most l k i = 3 := by unfold setErr; rw [if_pos hk, if_pos hf]
      rw [e]
      refine (refSet_long h hm most k i d hk hf).mono ?_
      rintro e w' ⟨rfl, hb⟩
      exact ⟨bo, m, bc, rfl, hs w' hb, hb⟩
    · have e : setErr most l k i = 0 := by unfold setErr; rw [if_pos hk, if_neg hf]
      rw [e]
      refine (refSet_ok h hm most k i d hk (fun e => by
        have : ¬ most ≤ (l.length : Int) := fun g => hf ⟨e, g⟩
        omega)).mono ?_
      rintro e w' ⟨bo', m', bc', rfl, hd, hb⟩
      exact ⟨bo', m', bc', rfl, hd.keep (Nat.le_refl _) (fun q e _ => .inr e) (fun _ _ _ => rfl), hb⟩
theorem TS.set_all (h : TS K p most l w) {k i d : Int} (i0 : 0 ≤ i) (i1 : i ≤ 18446744073709551615) (d0 : 0 ≤ d) (d1 : d ≤ 18446744073709551615) :
    Calls Try.prog 18 #[.pointer (some ⟨p, 0, none⟩), tmV k i, .int .u64 d] w fun e w' => e = .returned (.tuple #[.int .u64 (setWas most l k i), .bool (setHad most l k i), .int .i64 (setErr most l k i)]) ∧ Turned K p most (setL most l k i d) w w' := by
  unfold setWas setHad setL
  cases hk : isKind k with
  | false =>
    have e : setErr most l k i = 2 := by unfold setErr; rw [hk]; rfl
    rw [e]
    refine (h.set_kind hk).mono ?_
    rintro e w' ⟨rfl, hb⟩
    exact ⟨rfl, h.turned hb⟩
  | true =>
    by_cases hf : dueOf l k i = none ∧ most ≤ (l.length : Int)
    · have e : setErr most l k i = 3 := by unfold setErr; rw [if_pos hk, if_pos hf]
      rw [e]
      exact h.set_long hk i0 i1 d0 d1 ⟨hf.1, by have := h.le; have := hf.2; omega⟩
    · have e : setErr most l k i = 0 := by unfold setErr; rw [if_pos hk, if_neg hf]
      rw [e]
      exact h.set_ok hk i0 i1 d0 d1 (fun e => by
        have : ¬ most ≤ (l.length : Int) := fun g => hf ⟨e, g⟩
        omega)
theorem refPop_any (h : DR A w bo m bc l) (hm : m ≤ 10000) (most now : Int) :
    Calls Try.prog 29 #[.agg #[.slice bo m bc, .int .i64 most], .int .u64 now] w fun e w' => ∃ bo' m' bc', e = .returned (.tuple #[.agg #[.slice bo' m' bc', .int .i64 most], rwV (popR l now), .bool (popIs l now)]) ∧ DR A w' bo' m' bc' (popL l now) ∧ Below w.heap.size w w' := by
  unfold popR popL
  cases l with
  | nil =>
    refine (refPop_empty h most now).mono ?_
    rintro e w' ⟨rfl, hb⟩
    exact ⟨bo, m, bc, rfl, h.below hb, hb⟩
  | cons r t =>
    obtain ⟨rk, ri, rd⟩ := r
    by_cases hn : rd ≤ now
    · have e : popIs (⟨rk, ri, rd⟩ :: t) now = true := by simp [popIs, hn]
      rw [e]
      exact refPop_yes h hm most now hn
    · have e : popIs (⟨rk, ri, rd⟩ :: t) now = false := by simp [popIs, hn]
      rw [e]
      refine (refPop_early h hm most now (by omega)).mono ?_
      rintro e w' ⟨rfl, hb⟩
      exact ⟨bo, m, bc, rfl, h.below hb, hb⟩
theorem TS.pop_any (h : TS K p most l w) (now : Int) :
    Calls Try.prog 21 #[.pointer (some ⟨p, 0, none⟩), .int .u64 now] w fun e w' => e = .returned (.tuple #[tmV (popR l now).k (popR l now).i, .int .u64 (popR l now).d, .bool (popIs l now)]) ∧ Turned K p most (popL l now) w w' := by
  unfold popR popL
  cases l with
  | nil =>
    refine (h.pop_empty now).mono ?_
    rintro e w' ⟨rfl, hb⟩
    exact ⟨rfl, h.turned hb⟩
  | cons r t =>
    obtain ⟨rk, ri, rd⟩ := r
    by_cases hn : rd ≤ now
    · have e : popIs (⟨rk, ri, rd⟩ :: t) now = true := by simp [popIs, hn]
      rw [e]
      exact h.pop_yes now hn
    · have e : popIs (⟨rk, ri, rd⟩ :: t) now = false := by simp [popIs, hn]
      rw [e]
      refine (h.pop_early now (by omega)).mono ?_
      rintro e w' ⟨rfl, hb⟩
      exact ⟨rfl, h.turned hb⟩
end
/-- What a call leaves of the rows. -/
def actL (most : Int) (l : List Rw) (what k i n : Int) : List Rw :=
  if 0 ≤ what ∧ what ≤ 3 then setL most l k i n else if what = 4 then wo l k i else if what = 5 ∨ what = 6 then popL l n else l
/-- Timers and the document's, side by side. -/
structure AS (K : Nat → Prop) (p : Nat) (most : Int) (l : List Rw) (bo : Option Addr) (m bc : Nat) (W : World) : Prop where
  ts : TS K p most l W
  dr : DR (fun q => ¬ K q) W bo m bc l
theorem AS.old {K : Nat → Prop} {p : Nat} {most : Int} {l : List Rw} {bo : Option Addr} {m bc : Nat} {W : World} (h : AS K p most l bo m bc W) : AS (fun q => K q ∧ q < W.heap.size) p most l bo m bc W :=
  ⟨h.ts.old, h.dr.keep (Nat.le_refl _) (fun q e _ g => e g.1) fun _ _ _ => rfl⟩
theorem AS.below {K : Nat → Prop} {p : Nat} {most : Int} {l : List Rw} {bo : Option Addr} {m bc : Nat} {W W' : World} (h : AS K p most l bo m bc W) (hb : Below W.heap.size W W') : AS K p most l bo m bc W' :=
  ⟨h.ts.below hb, h.dr.below hb⟩
theorem AS.m {K : Nat → Prop} {p : Nat} {most : Int} {l : List Rw} {bo : Option Addr} {m bc : Nat} {W : World} (h : AS K p most l bo m bc W) : m ≤ 8192 := by
  have h1 := h.ts.le
  have h2 := h.ts.m1
  have h3 := h.dr.len
  omega
/-- What act leaves. -/
structure Acted (K : Nat → Prop) (p' : Nat) (most : Int) (l' : List Rw) (bo' : Option Addr) (m' bc' : Nat) (W w' : World) : Prop where
  ex : ∃ K', (∀ q, K' q → K q ∨ (W.heap.size ≤ q ∧ q < w'.heap.size)) ∧ AS K' p' most l' bo' m' bc' w'
  mod : Mod K W w'
end Go.Proofs.Ytnmbhcekcdicnaa
