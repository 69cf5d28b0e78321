/-
  Timers, plainly: rows in order.
-/
import Derived.Test.YtnmbhcekcdicnaaCom
namespace Go.Proofs.Ytnmbhcekcdicnaa
set_option linter.unusedVariables false
set_option linter.unusedSimpArgs false

/-- A timer that runs (its kind, its id), and when it is due. -/
structure Rw where
  k : Int
  i : Int
  d : Int
deriving DecidableEq
theorem Rw.ext' {a b : Rw} (h1 : a.k = b.k) (h2 : a.i = b.i) (h3 : a.d = b.d) : a = b := by
  cases a; cases b; simp_all
structure Rw.Ok (r : Rw) : Prop where
  k0 : -9223372036854775808 ≤ r.k
  k1 : r.k ≤ 9223372036854775807
  i0 : 0 ≤ r.i
  i1 : r.i ≤ 18446744073709551615
  d0 : 0 ≤ r.d
  d1 : r.d ≤ 18446744073709551615
/-- The key of a row. -/
def Rw.is (r : Rw) (k i : Int) : Bool := r.k == k && r.i == i
theorem Rw.is_iff (r : Rw) (k i : Int) : r.is k i = true ↔ r.k = k ∧ r.i = i := by simp [Rw.is]
def cmpI (a b : Int) : Int := if a < b then -1 else if b < a then 1 else 0
theorem cmpI_neg (a b : Int) : cmpI a b < 0 ↔ a < b := by unfold cmpI; split <;> (try split) <;> omega
theorem cmpI_zero (a b : Int) : cmpI a b = 0 ↔ a = b := by unfold cmpI; split <;> (try split) <;> omega
/-- How two rows stand. -/
def ordR (a b : Rw) : Int := if cmpI a.d b.d ≠ 0 then cmpI a.d b.d else if cmpI a.k b.k ≠ 0 then cmpI a.k b.k else cmpI a.i b.i
/-- The one stands ahead of the other. -/
def lt (a b : Rw) : Bool := decide (ordR a b < 0)
theorem lt_iff (a b : Rw) : lt a b = true ↔ a.d < b.d ∨ a.d = b.d ∧ (a.k < b.k ∨ a.k = b.k ∧ a.i < b.i) := by
  unfold lt ordR
  rw [decide_eq_true_iff]
  have h1 := cmpI_neg a.d b.d
  have h2 := cmpI_zero a.d b.d
  have h3 := cmpI_neg a.k b.k
  have h4 := cmpI_zero a.k b.k
  have h5 := cmpI_neg a.i b.i
  split
  · rename_i h
    rw [h1]
    have : a.d ≠ b.d := fun e => h (h2.2 e)
    omega
  · rename_i h
    have e : a.d = b.d := h2.1 (by omega)
    split
    · rename_i h'
      rw [h3]
      have : a.k ≠ b.k := fun e => h' (h4.2 e)
      omega
    · rename_i h'
      have e' : a.k = b.k := h4.1 (by omega)
      rw [h5]
      omega
theorem ordR_zero (a b : Rw) : ordR a b = 0 ↔ a = b := by
  have h2 := cmpI_zero a.d b.d
  have h4 := cmpI_zero a.k b.k
  have h6 := cmpI_zero a.i b.i
  constructor
  · intro h
    unfold ordR at h
    split at h
    · rename_i g; exact absurd h g
    · rename_i g
      split at h
      · rename_i g'; exact absurd h g'
      · rename_i g'
        exact Rw.ext' (h4.1 (by omega)) (h6.1 h) (h2.1 (by omega))
  · rintro rfl
    simp [ordR, cmpI]
theorem lt_irrefl (a : Rw) : lt a a = false := by
  rw [Bool.eq_false_iff]
  intro h
  rw [lt_iff] at h
  omega
theorem lt_trans {a b c : Rw} (h : lt a b = true) (g : lt b c = true) : lt a c = true := by
  rw [lt_iff] at *
  omega
theorem lt_total (a b : Rw) (h : lt a b = false) : a = b ∨ lt b a = true := by
  rw [Bool.eq_false_iff, Ne, lt_iff] at h
  rw [lt_iff]
  by_cases e : a.d = b.d ∧ a.k = b.k ∧ a.i = b.i
  · exact .inl (Rw.ext' e.2.1 e.2.2 e.1)
  · right; omega
/-- Rows in order, a timer once. -/
structure Srt (l : List Rw) : Prop where
  o : l.Pairwise fun a b => lt a b = true
  u : l.Pairwise fun a b => b.is a.k a.i = false
  ok : ∀ r ∈ l, r.Ok
/-- When one is due. -/
def dueOf (l : List Rw) (k i : Int) : Option Int := (l.find? fun r => r.is k i).map (·.d)
/-- Those but one. -/
def wo (l : List Rw) (k i : Int) : List Rw := l.filter fun r => !(r.is k i)
/-- One more, where it stands. -/
def ins : List Rw → Rw → List Rw
  | [], r => [r]
  | x :: t, r => if lt r x = true then r :: x :: t else x :: ins t r
/-- How many stand ahead of it. -/
def posR (l : List Rw) (r : Rw) : Nat := (l.takeWhile fun x => lt x r).length
theorem posR_le (l : List Rw) (r : Rw) : posR l r ≤ l.length := (List.takeWhile_sublist _).length_le
theorem posR_cons (x : Rw) (t : List Rw) (r : Rw) : posR (x :: t) r = if lt x r = true then posR t r + 1 else 0 := by
  unfold posR
  rw [List.takeWhile_cons]
  split <;> simp
/-- Ahead of its place stand those that stand ahead; what stands at its place or behind does not. -/
theorem posR_lt {l : List Rw} (h : l.Pairwise fun a b => lt a b = true) (r : Rw) : ∀ (j : Nat) (x : Rw), l[j]? = some x → (lt x r = true ↔ j < posR l r) := by
  induction l with
  | nil => intro j x hx; simp at hx
  | cons y t ih =>
    rw [List.pairwise_cons] at h
    intro j x hx
    rw [posR_cons]
    cases j with
    | zero =>
      simp at hx
      subst hx
      split
      · rename_i g; simp [g]
      · rename_i g; simp [g]
    | succ j =>
      simp at hx
      have := ih h.2 j x hx
      split
      · rename_i g; rw [this]; omega
      · rename_i g
        constructor
        · intro g'
          have hm := h.1 x (List.mem_of_getElem? hx)
          exact absurd (lt_trans hm g') g
        · intro g'; omega
theorem ins_at {l : List Rw} (h : l.Pairwise fun a b => lt a b = true) (r : Rw) (hn : ∀ x ∈ l, x ≠ r) : ins l r = l.take (posR l r) ++ r :: l.drop (posR l r) := by
  induction l with
  | nil => simp [ins, posR]
  | cons y t ih =>
    rw [List.pairwise_cons] at h
    rw [posR_cons]
    unfold ins
    by_cases g : lt r y = true
    · rw [if_pos g, if_neg (by intro g'; have := lt_trans g g'; rw [lt_irrefl] at this; cases this)]
      simp
    · have g0 : lt r y = false := by simpa using g
      have g2 : lt y r = true := by
        rcases lt_total r y g0 with e | e
        · exact absurd e.symm (hn y (by simp))
        · exact e
      rw [if_neg g, if_pos g2, ih h.2 (fun x hx => hn x (by simp [hx]))]
      simp
theorem ins_length (l : List Rw) (r : Rw) : (ins l r).length = l.length + 1 := by
  induction l with
  | nil => simp [ins]
  | cons y t ih => unfold ins; split <;> simp [ih]
theorem ins_mem (l : List Rw) (r x : Rw) : x ∈ ins l r ↔ x = r ∨ x ∈ l := by
  induction l with
  | nil => simp [ins]
  | cons y t ih =>
    unfold ins
    split
    · simp
    · simp [ih]
      constructor
      · rintro (h | h | h) <;> simp [h]
      · rintro (h | h | h) <;> simp [h]
theorem is_swap (a b : Rw) : b.is a.k a.i = a.is b.k b.i := by
  unfold Rw.is
  rw [Bool.eq_iff_iff]
  simp
  constructor <;> (rintro ⟨h1, h2⟩; exact ⟨h1.symm, h2.symm⟩)
theorem Srt.ins {l : List Rw} (h : Srt l) (r : Rw) (hr : r.Ok) (hn : ∀ x ∈ l, x.is r.k r.i = false) : Srt (Ytnmbhcekcdicnaa.ins l r) := by
  have hne : ∀ x ∈ l, x ≠ r := fun x hx e => by
    have := hn x hx
    rw [e] at this
    simp [Rw.is] at this
  refine ⟨?_, ?_, fun x hx => ?_⟩
  · have h := h.o
    rename_i h0
    clear h0 hn hr
    induction l with
    | nil => simp [Ytnmbhcekcdicnaa.ins]
    | cons y t ih =>
      have h' := h
      rw [List.pairwise_cons] at h
      unfold Ytnmbhcekcdicnaa.ins
      split
      · rename_i g
        rw [List.pairwise_cons]
        refine ⟨fun x hx => ?_, h'⟩
        rcases List.mem_cons.1 hx with e | e
        · rw [e]; exact g
        · exact lt_trans g (h.1 x e)
      · rename_i g
        rw [List.pairwise_cons]
        refine ⟨fun x hx => ?_, ih (fun x hx => hne x (by simp [hx])) h.2⟩
        rcases (ins_mem t r x).1 hx with e | e
        · rw [e]
          rcases lt_total r y (by simpa using g) with q | q
          · exact absurd q.symm (hne y (by simp))
          · exact q
        · exact h.1 x e
  · have h := h.u
    rename_i h0
    clear h0 hne hr
    induction l with
    | nil => simp [Ytnmbhcekcdicnaa.ins]
    | cons y t ih =>
      have h' := h
      rw [List.pairwise_cons] at h
      unfold Ytnmbhcekcdicnaa.ins
      split
      · rw [List.pairwise_cons]
        exact ⟨fun x hx => hn x hx, h'⟩
      · rw [List.pairwise_cons]
        refine ⟨fun x hx => ?_, ih (fun x hx => hn x (by simp [hx])) h.2⟩
        rcases (ins_mem t r x).1 hx with e | e
        · rw [e, is_swap]; exact hn y (by simp)
        · exact h.1 x e
  · rcases (ins_mem l r x).1 hx with e | e
    · rw [e]; exact hr
    · exact h.ok x e
theorem Srt.wo {l : List Rw} (h : Srt l) (k i : Int) : Srt (Ytnmbhcekcdicnaa.wo l k i) :=
  ⟨h.o.filter _, h.u.filter _, fun r hr => h.ok r (List.mem_filter.1 hr).1⟩
theorem wo_not (l : List Rw) (k i : Int) : ∀ x ∈ wo l k i, x.is k i = false := fun x hx => by
  have := (List.mem_filter.1 hx).2
  simpa using this
theorem wo_none {l : List Rw} {k i : Int} (h : dueOf l k i = none) : wo l k i = l := by
  unfold dueOf at h
  rw [Option.map_eq_none_iff, List.find?_eq_none] at h
  exact List.filter_eq_self.2 fun x hx => by simpa using h x hx
theorem dueOf_some {l : List Rw} {k i d : Int} (h : dueOf l k i = some d) : (⟨k, i, d⟩ : Rw) ∈ l := by
  unfold dueOf at h
  obtain ⟨r, hr, rfl⟩ := Option.map_eq_some_iff.1 h
  have h1 := List.find?_some hr
  rw [Rw.is_iff] at h1
  obtain ⟨rfl, rfl⟩ := h1
  exact List.mem_of_find?_eq_some hr
theorem dueOf_none {l : List Rw} {k i : Int} (h : dueOf l k i = none) : ∀ x ∈ l, x.is k i = false := by
  unfold dueOf at h
  rw [Option.map_eq_none_iff, List.find?_eq_none] at h
  exact fun x hx => by simpa using h x hx
theorem dueOf_mem {l : List Rw} (h : Srt l) {r : Rw} (hr : r ∈ l) : dueOf l r.k r.i = some r.d := by
  have hu := h.u
  clear h
  unfold dueOf
  induction l with
  | nil => simp at hr
  | cons y t ih =>
    rw [List.pairwise_cons] at hu
    rw [List.find?_cons]
    rcases List.mem_cons.1 hr with e | e
    · subst e
      simp [Rw.is]
    · have hq := hu.1 r e
      rw [is_swap] at hq
      rw [hq]
      exact ih e hu.2
/-- What is taken out at its place is taken out. -/
theorem wo_at {l : List Rw} (h : Srt l) {k i d : Int} (hd : dueOf l k i = some d) : posR l ⟨k, i, d⟩ < l.length ∧ l[posR l ⟨k, i, d⟩]? = some ⟨k, i, d⟩ ∧ wo l k i = l.take (posR l ⟨k, i, d⟩) ++ l.drop (posR l ⟨k, i, d⟩ + 1) := by
  have hm := dueOf_some hd
  clear hd
  have ho := h.o
  have hu := h.u
  clear h
  induction l with
  | nil => simp at hm
  | cons y t ih =>
    rw [List.pairwise_cons] at ho hu
    rw [posR_cons]
    rcases List.mem_cons.1 hm with e | e
    · subst e
      rw [lt_irrefl]
      simp
      have : wo (⟨k, i, d⟩ :: t) k i = t := by
        unfold wo
        rw [List.filter_cons]
        simp only [Rw.is, beq_self_eq_true, Bool.and_self, Bool.not_true, if_neg Bool.false_ne_true]
        exact List.filter_eq_self.2 fun x hx => by
          have := hu.1 x hx
          unfold Rw.is at this
          rw [this]
          rfl
      exact this
    · have g := ho.1 _ e
      rw [if_pos g]
      obtain ⟨i1, i2, i3⟩ := ih e ho.2 hu.2
      have hy : y.is k i = false := by
        have := hu.1 _ e
        rw [is_swap] at this
        exact this
      refine ⟨by simp; exact i1, by simpa using i2, ?_⟩
      have : wo (y :: t) k i = y :: wo t k i := by
        unfold wo
        rw [List.filter_cons, hy]
        simp
      rw [this, i3]
      simp
end Go.Proofs.Ytnmbhcekcdicnaa
