/-
  Points and their bytes, in plain lists of integers.
-/
import Derived.Test.YtfkfooclapogjaaCom
namespace Go.Proofs.Ytfkfooclapogjaa
set_option linter.unusedVariables false
set_option linter.unusedSimpArgs false

/-- All are bytes. -/
def Byt (zs : List Int) : Prop := ∀ x ∈ zs, 0 ≤ x ∧ x < 256
theorem Byt.nil : Byt [] := fun x h => by simp at h
theorem Byt.cons {b : Int} {l : List Int} : Byt (b :: l) ↔ (0 ≤ b ∧ b < 256) ∧ Byt l := by simp [Byt]
theorem Byt.append {a b : List Int} : Byt (a ++ b) ↔ Byt a ∧ Byt b := by
  simp only [Byt, List.mem_append]
  exact ⟨fun h => ⟨fun x hx => h x (.inl hx), fun x hx => h x (.inr hx)⟩, fun h x hx => hx.elim (h.1 x) (h.2 x)⟩
theorem Byt.drop {a : List Int} (h : Byt a) (n : Nat) : Byt (a.drop n) := fun x hx => h x (List.mem_of_mem_drop hx)
theorem Byt.take {a : List Int} (h : Byt a) (n : Nat) : Byt (a.take n) := fun x hx => h x (List.mem_of_mem_take hx)

/-- What begins a point's bytes: how many there are, the bounds of the second. -/
def lead (b : Int) : Option (Nat × Int × Int) :=
  if b ≤ 127 then some (1, 0, 0) else if b < 194 then none else if b ≤ 223 then some (2, 128, 191) else if b ≤ 224 then some (3, 160, 191) else if b ≤ 236 then some (3, 128, 191)
  else if b ≤ 237 then some (3, 128, 159) else if b ≤ 239 then some (3, 128, 191) else if b ≤ 240 then some (4, 144, 191) else if b ≤ 243 then some (4, 128, 191) else if b ≤ 244 then some (4, 128, 143) else none
/-- The bits of a first byte that are the point's. -/
def top (m : Nat) (b : Int) : Int := if m = 1 then b else if m = 2 then b % 32 else if m = 3 then b % 16 else b % 8
/-- The bytes behind the first. -/
def fl (zs : List Int) : Nat → Int → Int → Int → Nat → Int × Nat × Bool
  | 0, pt, _, _, k => (pt, k, true)
  | f + 1, pt, lo, hi, k => if zs.length = k then (65533, k, false) else if zs.getD k 0 < lo ∨ hi < zs.getD k 0 then (65533, k, true) else fl zs f (pt * 64 + zs.getD k 0 % 64) 128 191 (k + 1)
/-- The point that is told first. -/
def F (zs : List Int) : Int × Nat × Bool :=
  match lead (zs.getD 0 0) with
  | none => (65533, 1, true)
  | some (m, lo, hi) => fl zs (m - 1) (top m (zs.getD 0 0)) lo hi 1
/-- Is it a point? -/
def Pt (p : Int) : Prop := 0 ≤ p ∧ p ≤ 1114111 ∧ ¬ (55296 ≤ p ∧ p ≤ 57343)
/-- A point's bytes. -/
def bytesL (p : Int) : List Int :=
  if p < 128 then [p] else if p < 2048 then [192 + p / 64, 128 + p % 64] else if p < 65536 then [224 + p / 4096, 128 + p / 64 % 64, 128 + p % 64]
  else [240 + p / 262144, 128 + p / 4096 % 64, 128 + p / 64 % 64, 128 + p % 64]
theorem bytesL_byt {p : Int} (h : Pt p) : Byt (bytesL p) := by
  unfold Pt at h
  unfold bytesL
  split
  · intro x hx; simp at hx; omega
  split
  · intro x hx; simp at hx; rcases hx with rfl | rfl <;> omega
  split
  · intro x hx; simp at hx; rcases hx with rfl | rfl | rfl <;> omega
  · intro x hx; simp at hx; rcases hx with rfl | rfl | rfl | rfl <;> omega
theorem bytesL_len (p : Int) : 1 ≤ (bytesL p).length ∧ (bytesL p).length ≤ 4 := by
  unfold bytesL
  split
  · simp
  split
  · simp
  split <;> simp

theorem getD_append_lt {a b : List Int} {k : Nat} (h : k < a.length) : (a ++ b).getD k 0 = a.getD k 0 := by
  simp [List.getD, List.getElem?_append_left h]
/-- What is whole stays so, whatever comes behind. -/
theorem fl_more (zs ys : List Int) : ∀ (f : Nat) (pt lo hi : Int) (k : Nat), k ≤ zs.length → (fl zs f pt lo hi k).2.2 = true → fl (zs ++ ys) f pt lo hi k = fl zs f pt lo hi k
  | 0, pt, lo, hi, k, hk, h => rfl
  | f + 1, pt, lo, hi, k, hk, h => by
    simp only [fl] at h ⊢
    by_cases e : zs.length = k
    · rw [if_pos e] at h; simp at h
    · rw [if_neg e] at h
      have hlt : k < zs.length := by omega
      have e2 : ¬ (zs ++ ys).length = k := by simp; omega
      rw [if_neg e2, if_neg e, getD_append_lt hlt]
      by_cases e3 : zs.getD k 0 < lo ∨ hi < zs.getD k 0
      · rw [if_pos e3, if_pos e3]
      · rw [if_neg e3] at h
        rw [if_neg e3, if_neg e3]
        exact fl_more zs ys f _ _ _ _ (by omega) h
theorem F_more (zs ys : List Int) (h0 : 0 < zs.length) (h : (F zs).2.2 = true) : F (zs ++ ys) = F zs := by
  unfold F at h ⊢
  rw [getD_append_lt h0]
  generalize lead (zs.getD 0 0) = l at h
  match l, h with
  | none, _ => rfl
  | some (m, lo, hi), h => exact fl_more zs ys _ _ _ _ _ (by omega) h
theorem fl_len (zs : List Int) : ∀ (f : Nat) (pt lo hi : Int) (k : Nat), k ≤ zs.length → k ≤ (fl zs f pt lo hi k).2.1 ∧ (fl zs f pt lo hi k).2.1 ≤ zs.length ∧ (fl zs f pt lo hi k).2.1 ≤ k + f ∧ ((fl zs f pt lo hi k).2.2 = false → (fl zs f pt lo hi k).2.1 = zs.length ∧ zs.length < k + f)
  | 0, pt, lo, hi, k, hk => by simp [fl]; omega
  | f + 1, pt, lo, hi, k, hk => by
    simp only [fl]
    split
    · exact ⟨Nat.le_refl _, hk, by dsimp only; omega, fun _ => ⟨by dsimp only; omega, by omega⟩⟩
    · split
      · exact ⟨Nat.le_refl _, hk, by dsimp only; omega, fun h => by cases h⟩
      · obtain ⟨h1, h2, h3, h4⟩ := fl_len zs f (pt * 64 + zs.getD k 0 % 64) 128 191 (k + 1) (by omega)
        refine ⟨by omega, h2, by omega, fun h => ?_⟩
        have := h4 h
        omega
theorem lead_cases (b : Int) : lead b = none ∨ ∃ m lo hi, lead b = some (m, lo, hi) ∧ 1 ≤ m ∧ m ≤ 4 := by
  unfold lead
  repeat' split
  all_goals first | exact .inl rfl | exact .inr ⟨_, _, _, rfl, by omega, by omega⟩
theorem F_len (zs : List Int) (h0 : 0 < zs.length) : 1 ≤ (F zs).2.1 ∧ (F zs).2.1 ≤ zs.length ∧ (F zs).2.1 ≤ 4 ∧ ((F zs).2.2 = false → (F zs).2.1 = zs.length ∧ zs.length ≤ 3) := by
  unfold F
  rcases lead_cases (zs.getD 0 0) with h | ⟨m, lo, hi, h, h1, h2⟩
  · rw [h]; simp; omega
  · rw [h]
    obtain ⟨g1, g2, g3, g4⟩ := fl_len zs (m - 1) (top m (zs.getD 0 0)) lo hi 1 (by omega)
    refine ⟨g1, g2, ?_, fun e => ?_⟩
    · dsimp only; omega
    · have := g4 e
      refine ⟨this.1, by omega⟩

/-- Of a point's own bytes it is told. -/
theorem F_bytes (p : Int) (h : Pt p) (ys : List Int) : F (bytesL p ++ ys) = (p, (bytesL p).length, true) := by
  have core : F (bytesL p) = (p, (bytesL p).length, true) := by
    unfold Pt at h
    unfold bytesL
    split
    · rename_i h1
      have hl : lead p = some (1, 0, 0) := by unfold lead; rw [if_pos (by omega)]
      simp [F, hl, fl, top]
    split
    · rename_i h1 h2
      have hl : lead (192 + p / 64) = some (2, 128, 191) := by unfold lead; rw [if_neg (by omega), if_neg (by omega), if_pos (by omega)]
      have h3 : ¬ (128 + p % 64 < 128 ∨ 191 < 128 + p % 64) := by omega
      simp [F, hl, fl, top, h3]
      omega
    split
    · rename_i h1 h2 h3
      have ht : (128 + p % 64 < 128 ∨ 191 < 128 + p % 64) = False := by simp; omega
      have hv : (224 + p / 4096) % 16 * 64 + (128 + p / 64 % 64) % 64 = p / 64 := by omega
      have hv2 : p / 64 * 64 + (128 + p % 64) % 64 = p := by omega
      by_cases e1 : p < 4096
      · have hl : lead (224 + p / 4096) = some (3, 160, 191) := by unfold lead; rw [if_neg (by omega), if_neg (by omega), if_neg (by omega), if_pos (by omega)]
        have hs : (128 + p / 64 % 64 < 160 ∨ 191 < 128 + p / 64 % 64) = False := by simp; omega
        simp only [F, List.getD_cons_zero, hl, fl, top]
        simp [hs, ht]
        omega
      by_cases e2 : p < 53248
      · have hl : lead (224 + p / 4096) = some (3, 128, 191) := by unfold lead; rw [if_neg (by omega), if_neg (by omega), if_neg (by omega), if_neg (by omega), if_pos (by omega)]
        have hs : (128 + p / 64 % 64 < 128 ∨ 191 < 128 + p / 64 % 64) = False := by simp; omega
        simp only [F, List.getD_cons_zero, hl, fl, top]
        simp [hs, ht]
        omega
      by_cases e3 : p < 57344
      · have hl : lead (224 + p / 4096) = some (3, 128, 159) := by unfold lead; rw [if_neg (by omega), if_neg (by omega), if_neg (by omega), if_neg (by omega), if_neg (by omega), if_pos (by omega)]
        have hs : (128 + p / 64 % 64 < 128 ∨ 159 < 128 + p / 64 % 64) = False := by simp; omega
        simp only [F, List.getD_cons_zero, hl, fl, top]
        simp [hs, ht]
        omega
      · have hl : lead (224 + p / 4096) = some (3, 128, 191) := by unfold lead; rw [if_neg (by omega), if_neg (by omega), if_neg (by omega), if_neg (by omega), if_neg (by omega), if_neg (by omega), if_pos (by omega)]
        have hs : (128 + p / 64 % 64 < 128 ∨ 191 < 128 + p / 64 % 64) = False := by simp; omega
        simp only [F, List.getD_cons_zero, hl, fl, top]
        simp [hs, ht]
        omega
    · rename_i h1 h2 h3
      have hm : (128 + p / 64 % 64 < 128 ∨ 191 < 128 + p / 64 % 64) = False := by simp; omega
      have ht : (128 + p % 64 < 128 ∨ 191 < 128 + p % 64) = False := by simp; omega
      have hv : (240 + p / 262144) % 8 * 64 + (128 + p / 4096 % 64) % 64 = p / 4096 := by omega
      have hv1 : p / 4096 * 64 + (128 + p / 64 % 64) % 64 = p / 64 := by omega
      have hv2 : p / 64 * 64 + (128 + p % 64) % 64 = p := by omega
      by_cases e1 : p < 262144
      · have hl : lead (240 + p / 262144) = some (4, 144, 191) := by unfold lead; rw [if_neg (by omega), if_neg (by omega), if_neg (by omega), if_neg (by omega), if_neg (by omega), if_neg (by omega), if_neg (by omega), if_pos (by omega)]
        have hs : (128 + p / 4096 % 64 < 144 ∨ 191 < 128 + p / 4096 % 64) = False := by simp; omega
        simp only [F, List.getD_cons_zero, hl, fl, top]
        simp [hs, hm, ht]
        omega
      by_cases e2 : p < 1048576
      · have hl : lead (240 + p / 262144) = some (4, 128, 191) := by unfold lead; rw [if_neg (by omega), if_neg (by omega), if_neg (by omega), if_neg (by omega), if_neg (by omega), if_neg (by omega), if_neg (by omega), if_neg (by omega), if_pos (by omega)]
        have hs : (128 + p / 4096 % 64 < 128 ∨ 191 < 128 + p / 4096 % 64) = False := by simp; omega
        simp only [F, List.getD_cons_zero, hl, fl, top]
        simp [hs, hm, ht]
        omega
      · have hl : lead (240 + p / 262144) = some (4, 128, 143) := by unfold lead; rw [if_neg (by omega), if_neg (by omega), if_neg (by omega), if_neg (by omega), if_neg (by omega), if_neg (by omega), if_neg (by omega), if_neg (by omega), if_neg (by omega), if_pos (by omega)]
        have hs : (128 + p / 4096 % 64 < 128 ∨ 143 < 128 + p / 4096 % 64) = False := by simp; omega
        simp only [F, List.getD_cons_zero, hl, fl, top]
        simp [hs, hm, ht]
        omega
  rw [F_more _ _ (by have := bytesL_len p; omega) (by rw [core]), core]
end Go.Proofs.Ytfkfooclapogjaa
