/-
  What lines say, in plain lists.
-/
import Derived.Test.YtfnojmkiajdoaaaA
namespace Go.Proofs.Ytfnojmkiajdoaaa
set_option linter.unusedVariables false
set_option linter.unusedSimpArgs false

def dataN : List Int := [100, 97, 116, 97]
def eventN : List Int := [101, 118, 101, 110, 116]
def idN : List Int := [105, 100]
def retryN : List Int := [114, 101, 116, 114, 121]
def kindOf (n : List Int) : Int := if n = dataN then 3 else if n = eventN then 4 else if n = idN then 5 else if n = retryN then 6 else 7
theorem kindOf_range (n : List Int) : 3 ≤ kindOf n ∧ kindOf n ≤ 7 := by
  unfold kindOf
  split
  · omega
  split
  · omega
  split
  · omega
  split <;> omega
/-- A field. -/
structure Fd where
  k : Int
  n : List Int
  v : List Int
deriving DecidableEq
def trim1 : List Int → List Int
  | [] => []
  | x :: r => if x = 32 then r else x :: r
theorem trim1_len (l : List Int) : (trim1 l).length ≤ l.length := by
  cases l with
  | nil => simp [trim1]
  | cons x r =>
    simp only [trim1]
    split <;> simp
theorem trim1_byt {l : List Int} (h : Byt l) : Byt (trim1 l) := by
  cases l with
  | nil => exact h
  | cons x r =>
    simp only [trim1]
    split
    · exact (Byt.cons.1 h).2
    · exact h
/-- What a line says. -/
def ofF : List Int → Fd
  | [] => ⟨1, [], []⟩
  | x :: r => if x = 58 then ⟨2, [], r⟩ else match at1 58 (x :: r) with
    | none => ⟨kindOf (x :: r), x :: r, []⟩
    | some k => ⟨kindOf ((x :: r).take k), (x :: r).take k, trim1 ((x :: r).drop (k + 1))⟩
/-- A field's line. -/
def lineF (f : Fd) : List Int := if f.k = 2 then 58 :: f.v else if f.v = [] then f.n else f.n ++ 58 :: 32 :: f.v
theorem at1_free {c : Int} : ∀ {l : List Int}, (∀ x ∈ l, x ≠ c) → at1 c l = none
  | [], _ => rfl
  | x :: l, h => by
    unfold at1
    rw [if_neg (h x (by simp)), at1_free (fun y hy => h y (by simp [hy]))]
    rfl
theorem at1_mid {c : Int} (r : List Int) : ∀ {l : List Int}, (∀ x ∈ l, x ≠ c) → at1 c (l ++ c :: r) = some l.length
  | [], _ => by simp [at1]
  | x :: l, h => by
    rw [List.cons_append]
    unfold at1
    rw [if_neg (h x (by simp)), at1_mid r (fun y hy => h y (by simp [hy]))]
    rfl
theorem ofF_name {n : List Int} (h0 : n ≠ []) (h : ∀ x ∈ n, x ≠ 58) : ofF n = ⟨kindOf n, n, []⟩ := by
  cases n with
  | nil => exact absurd rfl h0
  | cons x r =>
    simp only [ofF]
    rw [if_neg (h x (by simp)), at1_free h]
theorem ofF_both {n v : List Int} (h0 : n ≠ []) (h : ∀ x ∈ n, x ≠ 58) : ofF (n ++ 58 :: v) = ⟨kindOf n, n, trim1 v⟩ := by
  cases n with
  | nil => exact absurd rfl h0
  | cons x r =>
    have e := at1_mid (c := 58) v (l := x :: r) h
    rw [List.cons_append] at e ⊢
    simp only [ofF]
    rw [if_neg (h x (by simp)), e]
    have t1 : (x :: (r ++ 58 :: v)).take (x :: r).length = x :: r := by
      rw [← List.cons_append, List.take_left]
    have t2 : (x :: (r ++ 58 :: v)).drop ((x :: r).length + 1) = v := by
      rw [← List.cons_append, List.drop_append]
      simp
    simp only [t1, t2]
/-- What a line says, case by case. -/
theorem ofF_cases (xs : List Int) : (xs = [] ∧ ofF xs = ⟨1, [], []⟩) ∨ (∃ r, xs = 58 :: r ∧ ofF xs = ⟨2, [], r⟩) ∨ (xs ≠ [] ∧ (∀ x ∈ xs, x ≠ 58) ∧ at1 58 xs = none ∧ ofF xs = ⟨kindOf xs, xs, []⟩) ∨
    (∃ k n v, at1 58 xs = some k ∧ n = xs.take k ∧ v = xs.drop (k + 1) ∧ k < xs.length ∧ xs = n ++ 58 :: v ∧ n ≠ [] ∧ (∀ x ∈ n, x ≠ 58) ∧ ofF xs = ⟨kindOf n, n, trim1 v⟩) := by
  cases xs with
  | nil => exact .inl ⟨rfl, rfl⟩
  | cons x r =>
    by_cases hx : x = 58
    · subst hx
      exact .inr (.inl ⟨r, rfl, by simp [ofF]⟩)
    · cases ha : at1 58 (x :: r) with
      | none =>
        refine .inr (.inr (.inl ⟨by simp, at1_none ha, rfl, ?_⟩))
        simp only [ofF]
        rw [if_neg hx, ha]
      | some k =>
        obtain ⟨h1, h2, h3⟩ := at1_some ha
        refine .inr (.inr (.inr ⟨k, _, _, rfl, rfl, rfl, h2, h1, ?_, h3, ?_⟩))
        · intro e
          rw [e] at h1
          rw [List.nil_append] at h1
          injection h1 with h1
          exact hx h1
        · simp only [ofF]
          rw [if_neg hx, ha]
theorem of_line (xs : List Int) : ofF (lineF (ofF xs)) = ofF xs := by
  rcases ofF_cases xs with ⟨_, e⟩ | ⟨r, _, e⟩ | ⟨h0, h1, _, e⟩ | ⟨k, n, v, _, _, _, _, _, h0, h1, e⟩
  · rw [e]; rfl
  · rw [e]; simp [lineF, ofF]
  · rw [e]
    have hk := kindOf_range xs
    unfold lineF
    rw [if_neg (by show kindOf xs ≠ 2; omega), if_pos rfl]
    exact ofF_name h0 h1
  · rw [e]
    have hk := kindOf_range n
    unfold lineF
    rw [if_neg (by show kindOf n ≠ 2; omega)]
    by_cases hv : trim1 v = []
    · rw [if_pos hv]
      show ofF n = _
      rw [ofF_name h0 h1, hv]
    · rw [if_neg hv]
      show ofF (n ++ 58 :: 32 :: trim1 v) = _
      rw [ofF_both h0 h1]
      simp [trim1]
theorem ofF_byt {xs : List Int} (h : Byt xs) : Byt (ofF xs).n ∧ Byt (ofF xs).v := by
  rcases ofF_cases xs with ⟨_, e⟩ | ⟨r, rfl, e⟩ | ⟨h0, h1, _, e⟩ | ⟨k, n, v, _, rfl, rfl, _, _, h0, h1, e⟩
  · rw [e]; exact ⟨Byt.nil, Byt.nil⟩
  · rw [e]; exact ⟨Byt.nil, (Byt.cons.1 h).2⟩
  · rw [e]; exact ⟨h, Byt.nil⟩
  · rw [e]; exact ⟨h.take _, trim1_byt (h.drop _)⟩
theorem ofF_len (xs : List Int) : (ofF xs).n.length + (ofF xs).v.length ≤ xs.length := by
  rcases ofF_cases xs with ⟨_, e⟩ | ⟨r, rfl, e⟩ | ⟨h0, h1, _, e⟩ | ⟨k, n, v, _, _, _, _, hs, h0, h1, e⟩
  · rw [e]; simp
  · rw [e]; simp
  · rw [e]; simp
  · rw [e]
    have := trim1_len v
    rw [hs]
    simp
    omega
theorem lineF_byt {f : Fd} (h1 : Byt f.n) (h2 : Byt f.v) : Byt (lineF f) := by
  unfold lineF
  split
  · exact Byt.cons.2 ⟨by omega, h2⟩
  split
  · exact h1
  · exact Byt.append.2 ⟨h1, Byt.cons.2 ⟨by omega, Byt.cons.2 ⟨by omega, h2⟩⟩⟩
theorem lineF_len (f : Fd) : (lineF f).length ≤ f.n.length + f.v.length + 2 := by
  unfold lineF
  split
  · simp only [List.length_cons]; omega
  split
  · omega
  · simp only [List.length_append, List.length_cons]; omega
/-- The number that digits say, on from one. -/
def numF (n : Int) : List Int → Option Int
  | [] => some n
  | x :: l => if 18446744073709551615 < n * 10 + (x - 48) then none else numF (n * 10 + (x - 48)) l
def allD (xs : List Int) : Bool := xs.all fun x => decide (48 ≤ x ∧ x ≤ 57)
/-- Digits read; an error. -/
def digF (xs : List Int) : Int × Int := if xs = [] ∨ allD xs = false then (0, 110) else match numF 0 xs with
  | none => (0, 111)
  | some n => (n, 0)
/-- Does it count? -/
def countsF (f : Fd) : Bool := decide (ofF (lineF f) = f) && (if f.k = 5 then decide (at1 0 f.v = none) else if f.k = 6 then decide ((digF f.v).2 = 0) else true)
def retryF (f : Fd) : Int × Bool := if f.k = 6 ∧ ofF (lineF f) = f then ((digF f.v).1, decide ((digF f.v).2 = 0)) else (0, false)
theorem digF_bad (xs : List Int) (h : (digF xs).2 ≠ 0) : (digF xs).1 = 0 := by
  unfold digF at h ⊢
  split
  · rfl
  · rename_i h1
    rw [if_neg h1] at h
    cases hn : numF 0 xs with
    | none => rfl
    | some n => rw [hn] at h; exact absurd rfl h
theorem retryF_counts (f : Fd) : retryF f = if f.k = 6 ∧ countsF f = true then ((digF f.v).1, true) else (0, false) := by
  unfold retryF countsF
  by_cases h6 : f.k = 6
  · by_cases hr : ofF (lineF f) = f
    · by_cases hd : (digF f.v).2 = 0
      · simp [h6, hr, hd]
      · simp [h6, hr, hd, digF_bad _ hd]
    · simp [hr]
  · simp [h6]
end Go.Proofs.Ytfnojmkiajdoaaa
