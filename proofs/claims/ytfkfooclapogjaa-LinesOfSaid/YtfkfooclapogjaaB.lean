/-
  What is told of bytes, one by one and all: the plain law.
-/
import Derived.Test.YtfkfooclapogjaaA
namespace Go.Proofs.Ytfkfooclapogjaa
set_option linter.unusedVariables false
set_option linter.unusedSimpArgs false

theorem Pt.bad : Pt 65533 := by unfold Pt; omega
theorem byt_getD {zs : List Int} (h : Byt zs) {k : Nat} (hk : k < zs.length) : 0 ≤ zs.getD k 0 ∧ zs.getD k 0 < 256 := by
  have : zs.getD k 0 = zs[k] := by simp [List.getD, hk]
  rw [this]
  exact h _ (List.getElem_mem hk)
theorem lead_spec (b : Int) : lead b = none ∨ (lead b = some (1, 0, 0) ∧ b ≤ 127) ∨ (lead b = some (2, 128, 191) ∧ 194 ≤ b ∧ b ≤ 223) ∨ (lead b = some (3, 160, 191) ∧ b = 224) ∨ (lead b = some (3, 128, 191) ∧ 225 ≤ b ∧ b ≤ 236) ∨
    (lead b = some (3, 128, 159) ∧ b = 237) ∨ (lead b = some (3, 128, 191) ∧ 238 ≤ b ∧ b ≤ 239) ∨ (lead b = some (4, 144, 191) ∧ b = 240) ∨ (lead b = some (4, 128, 191) ∧ 241 ≤ b ∧ b ≤ 243) ∨ (lead b = some (4, 128, 143) ∧ b = 244) := by
  unfold lead
  by_cases h1 : b ≤ 127
  · simp [h1]
  by_cases h2 : b < 194
  · simp [h1, h2]
  by_cases h3 : b ≤ 223
  · simp [h1, h2, h3]; omega
  by_cases h4 : b ≤ 224
  · simp [h1, h2, h3, h4]; omega
  by_cases h5 : b ≤ 236
  · simp [h1, h2, h3, h4, h5]; omega
  by_cases h6 : b ≤ 237
  · simp [h1, h2, h3, h4, h5, h6]; omega
  by_cases h7 : b ≤ 239
  · simp [h1, h2, h3, h4, h5, h6, h7]; omega
  by_cases h8 : b ≤ 240
  · simp [h1, h2, h3, h4, h5, h6, h7, h8]; omega
  by_cases h9 : b ≤ 243
  · simp [h1, h2, h3, h4, h5, h6, h7, h8, h9]; omega
  by_cases h10 : b ≤ 244
  · simp [h1, h2, h3, h4, h5, h6, h7, h8, h9, h10]; omega
  simp [h1, h2, h3, h4, h5, h6, h7, h8, h9, h10]
/-- What is told is a point. -/
theorem F_pt (zs : List Int) (hb : Byt zs) (h0 : 0 < zs.length) : Pt (F zs).1 := by
  have hz := byt_getD hb h0
  generalize hb0 : zs.getD 0 0 = b0 at hz
  have h1 : 1 < zs.length → 0 ≤ zs.getD 1 0 ∧ zs.getD 1 0 < 256 := byt_getD hb
  unfold F
  rw [hb0]
  generalize zs.getD 1 0 = c at h1
  have core : ∀ (m : Nat) (lo hi : Int), 1 ≤ m → m ≤ 4 → (m = 1 → Pt (top m b0)) →
      (m = 2 → ∀ c, lo ≤ c → c ≤ hi → Pt (top m b0 * 64 + c % 64)) → (m = 3 → ∀ c d, lo ≤ c → c ≤ hi → 128 ≤ d → d ≤ 191 → Pt ((top m b0 * 64 + c % 64) * 64 + d % 64)) →
      (m = 4 → ∀ c d e, lo ≤ c → c ≤ hi → 128 ≤ d → d ≤ 191 → 128 ≤ e → e ≤ 191 → Pt (((top m b0 * 64 + c % 64) * 64 + d % 64) * 64 + e % 64)) → Pt (fl zs (m - 1) (top m b0) lo hi 1).1 := by
    intro m lo hi hm1 hm4 g1 g2 g3 g4
    match m, hm1, hm4 with
    | 1, _, _ => exact g1 rfl
    | 2, _, _ =>
      simp only [Nat.reduceSub, fl]
      split
      · exact Pt.bad
      split
      · exact Pt.bad
      · rename_i h
        exact g2 rfl _ (by omega) (by omega)
    | 3, _, _ =>
      simp only [Nat.reduceSub, Nat.reduceAdd, fl]
      split
      · exact Pt.bad
      split
      · exact Pt.bad
      split
      · exact Pt.bad
      split
      · exact Pt.bad
      · rename_i h _ h'
        exact g3 rfl _ _ (by omega) (by omega) (by omega) (by omega)
    | 4, _, _ =>
      simp only [Nat.reduceSub, Nat.reduceAdd, fl]
      split
      · exact Pt.bad
      split
      · exact Pt.bad
      split
      · exact Pt.bad
      split
      · exact Pt.bad
      split
      · exact Pt.bad
      split
      · exact Pt.bad
      · rename_i h _ h' _ h''
        exact g4 rfl _ _ _ (by omega) (by omega) (by omega) (by omega) (by omega) (by omega)
  have e1 : ∀ b, top 1 b = b := fun _ => rfl
  have e2 : ∀ b, top 2 b = b % 32 := fun _ => rfl
  have e3 : ∀ b, top 3 b = b % 16 := fun _ => rfl
  have e4 : ∀ b, top 4 b = b % 8 := fun _ => rfl
  rcases lead_spec b0 with h | ⟨h, g⟩ | ⟨h, g⟩ | ⟨h, g⟩ | ⟨h, g⟩ | ⟨h, g⟩ | ⟨h, g⟩ | ⟨h, g⟩ | ⟨h, g⟩ | ⟨h, g⟩
  · rw [h]; exact Pt.bad
  all_goals
    rw [h]
    refine core _ _ _ (by omega) (by omega) ?_ ?_ ?_ ?_
  all_goals
    intro e
    first | (exfalso; omega) | skip
  all_goals
    intros
    unfold Pt
    simp only [e1, e2, e3, e4]
    omega

/-- What is told of bytes, with where each begins; the bytes that wait then. -/
def toldF : Nat → Nat → List Int → List (Nat × Int) × List Int
  | 0, _, zs => ([], zs)
  | f + 1, a, zs => if zs = [] then ([], []) else if (F zs).2.2 = true then ((a, (F zs).1) :: (toldF f (a + (F zs).2.1) (zs.drop (F zs).2.1)).1, (toldF f (a + (F zs).2.1) (zs.drop (F zs).2.1)).2) else ([], zs)
def told (a : Nat) (zs : List Int) : List (Nat × Int) × List Int := toldF zs.length a zs
theorem toldF_fuel : ∀ (f g a : Nat) (zs : List Int), zs.length ≤ f → zs.length ≤ g → toldF f a zs = toldF g a zs
  | 0, g, a, zs, hf, hg => by
    obtain rfl : zs = [] := List.eq_nil_of_length_eq_zero (by omega)
    cases g <;> simp [toldF]
  | f + 1, 0, a, zs, hf, hg => by
    obtain rfl : zs = [] := List.eq_nil_of_length_eq_zero (by omega)
    simp [toldF]
  | f + 1, g + 1, a, zs, hf, hg => by
    by_cases e : zs = []
    · subst e; simp [toldF]
    · have h0 : 0 < zs.length := List.length_pos_iff.2 e
      have hn := F_len zs h0
      have hd : (zs.drop (F zs).2.1).length ≤ f ∧ (zs.drop (F zs).2.1).length ≤ g := by rw [List.length_drop]; omega
      simp only [toldF]
      rw [if_neg e, if_neg e, toldF_fuel f g _ _ hd.1 hd.2]
theorem told_nil (a : Nat) : told a [] = ([], []) := rfl
theorem told_step (a : Nat) (zs : List Int) (h0 : 0 < zs.length) (hw : (F zs).2.2 = true) : told a zs = ((a, (F zs).1) :: (told (a + (F zs).2.1) (zs.drop (F zs).2.1)).1, (told (a + (F zs).2.1) (zs.drop (F zs).2.1)).2) := by
  have e : zs ≠ [] := List.length_pos_iff.1 h0
  have hn := F_len zs h0
  unfold told
  rw [toldF_fuel zs.length (zs.length - 1 + 1) a zs (Nat.le_refl _) (by omega)]
  simp only [toldF]
  rw [if_neg e, if_pos hw]
  rw [toldF_fuel (zs.length - 1) (zs.drop (F zs).2.1).length _ _ (by rw [List.length_drop]; omega) (Nat.le_refl _)]
theorem told_wait (a : Nat) (zs : List Int) (h0 : 0 < zs.length) (hw : (F zs).2.2 = false) : told a zs = ([], zs) := by
  have e : zs ≠ [] := List.length_pos_iff.1 h0
  unfold told
  rw [toldF_fuel zs.length (zs.length - 1 + 1) a zs (Nat.le_refl _) (by omega)]
  simp only [toldF]
  rw [if_neg e, if_neg (by rw [hw]; simp)]
/-- Induction along what is told. -/
theorem told_ind {M : List Int → Prop} (h0 : M []) (hw : ∀ zs : List Int, 0 < zs.length → (F zs).2.2 = false → M zs) (hs : ∀ zs : List Int, 0 < zs.length → (F zs).2.2 = true → M (zs.drop (F zs).2.1) → M zs) (zs : List Int) : M zs := by
  obtain ⟨n, hn⟩ : ∃ n, n = zs.length := ⟨_, rfl⟩
  induction n using Nat.strongRecOn generalizing zs with
  | ind n ih =>
    by_cases e : zs = []
    · subst e; exact h0
    have hp : 0 < zs.length := List.length_pos_iff.2 e
    have hl := F_len zs hp
    cases hb : (F zs).2.2 with
    | false => exact hw zs hp hb
    | true => exact hs zs hp hb (ih _ (by rw [List.length_drop]; omega) _ rfl)
theorem told_rest (zs : List Int) : ∀ a, (told a zs).2.length ≤ zs.length ∧ (told a zs).2.length ≤ 3 ∧ (told a zs).2 = zs.drop (zs.length - (told a zs).2.length) := by
  induction zs using told_ind with
  | h0 => intro a; simp [told_nil]
  | hw zs h0 h => intro a; have := F_len zs h0; rw [told_wait a zs h0 h]; simp; exact (this.2.2.2 h).2
  | hs zs h0 h ih =>
    intro a
    have hn := F_len zs h0
    rw [told_step a zs h0 h]
    obtain ⟨h1, h2, h3⟩ := ih (a + (F zs).2.1)
    dsimp only
    rw [List.length_drop] at h1 h3
    refine ⟨by omega, h2, ?_⟩
    rw [List.drop_drop] at h3
    have e : (F zs).2.1 + (zs.length - (F zs).2.1 - (told (a + (F zs).2.1) (zs.drop (F zs).2.1)).2.length) = zs.length - (told (a + (F zs).2.1) (zs.drop (F zs).2.1)).2.length := by omega
    rwa [e] at h3
/-- What waits is told of no more by itself. -/
theorem told_shift (zs : List Int) : ∀ a k, told (a + k) zs = ((told k zs).1.map (fun x => (a + x.1, x.2)), (told k zs).2) := by
  induction zs using told_ind with
  | h0 => intro a k; simp [told_nil]
  | hw zs h0 h => intro a k; rw [told_wait _ zs h0 h, told_wait _ zs h0 h]; rfl
  | hs zs h0 h ih =>
    intro a k
    rw [told_step _ zs h0 h, told_step _ zs h0 h, Nat.add_assoc, ih]
    rfl
/-- The points alone; the bytes that wait. -/
def pts (zs : List Int) : List Int := (told 0 zs).1.map (·.2)
def wts (zs : List Int) : List Int := (told 0 zs).2
theorem told_pts (a : Nat) (zs : List Int) : (told a zs).1.map (·.2) = pts zs := by
  have := told_shift zs a 0
  rw [Nat.add_zero] at this
  rw [this]
  simp [pts, Function.comp_def]
theorem told_wts (a : Nat) (zs : List Int) : (told a zs).2 = wts zs := by
  have := told_shift zs a 0
  rw [Nat.add_zero] at this
  rw [this]
  rfl
theorem pts_nil : pts [] = [] := rfl
theorem wts_nil : wts [] = [] := rfl
theorem pts_step (zs : List Int) (h0 : 0 < zs.length) (hw : (F zs).2.2 = true) : pts zs = (F zs).1 :: pts (zs.drop (F zs).2.1) := by
  rw [← told_pts 0 zs, told_step 0 zs h0 hw]
  simp [told_pts]
theorem wts_step (zs : List Int) (h0 : 0 < zs.length) (hw : (F zs).2.2 = true) : wts zs = wts (zs.drop (F zs).2.1) := by
  rw [← told_wts 0 zs, told_step 0 zs h0 hw]
  simp [told_wts]
theorem pts_wait (zs : List Int) (h0 : 0 < zs.length) (hw : (F zs).2.2 = false) : pts zs = [] := by
  rw [← told_pts 0 zs, told_wait 0 zs h0 hw]; rfl
theorem wts_wait (zs : List Int) (h0 : 0 < zs.length) (hw : (F zs).2.2 = false) : wts zs = zs := by
  rw [← told_wts 0 zs, told_wait 0 zs h0 hw]
theorem wts_len (zs : List Int) : (wts zs).length ≤ zs.length ∧ (wts zs).length ≤ 3 ∧ wts zs = zs.drop (zs.length - (wts zs).length) := told_rest zs 0
theorem wts_byt {zs : List Int} (h : Byt zs) : Byt (wts zs) := by rw [(wts_len zs).2.2]; exact h.drop _
theorem pts_pt (zs : List Int) : Byt zs → ∀ p ∈ pts zs, Pt p := by
  induction zs using told_ind with
  | h0 => intro _ p hp; simp [pts_nil] at hp
  | hw zs h0 h => intro _ p hp; rw [pts_wait zs h0 h] at hp; simp at hp
  | hs zs h0 h ih =>
    intro hb p hp
    rw [pts_step zs h0 h] at hp
    rcases List.mem_cons.1 hp with rfl | hp
    · exact F_pt zs hb h0
    · exact ih (hb.drop _) p hp
/-- Piece by piece the same is told. -/
theorem pts_append (a b : List Int) : pts (a ++ b) = pts a ++ pts (wts a ++ b) ∧ wts (a ++ b) = wts (wts a ++ b) := by
  induction a using told_ind with
  | h0 => simp [pts_nil, wts_nil]
  | hw zs h0 h => rw [pts_wait zs h0 h, wts_wait zs h0 h]; simp
  | hs zs h0 h ih =>
    have hm := F_more zs b h0 h
    have hl := F_len zs h0
    have h1 : 0 < (zs ++ b).length := by simp; omega
    have h2 : (F (zs ++ b)).2.2 = true := by rw [hm]; exact h
    have hd : (zs ++ b).drop (F zs).2.1 = zs.drop (F zs).2.1 ++ b := List.drop_append_of_le_length (by omega)
    rw [pts_step _ h1 h2, wts_step _ h1 h2, pts_step _ h0 h, wts_step _ h0 h, hm, hd, ih.1, ih.2]
    simp
/-- The bytes of points. -/
def enc (ps : List Int) : List Int := ps.flatMap bytesL
theorem enc_nil : enc [] = [] := rfl
theorem enc_cons (p : Int) (ps : List Int) : enc (p :: ps) = bytesL p ++ enc ps := rfl
theorem enc_append (a b : List Int) : enc (a ++ b) = enc a ++ enc b := by simp [enc]
theorem enc_byt {ps : List Int} (h : ∀ p ∈ ps, Pt p) : Byt (enc ps) := fun x hx => by
  obtain ⟨p, hp, hx⟩ := List.mem_flatMap.1 hx
  exact bytesL_byt (h p hp) x hx
theorem pts_enc (ps : List Int) (h : ∀ p ∈ ps, Pt p) : pts (enc ps) = ps ∧ wts (enc ps) = [] := by
  induction ps with
  | nil => exact ⟨rfl, rfl⟩
  | cons p ps ih =>
    have hF := F_bytes p (h p (by simp)) (enc ps)
    have hl := bytesL_len p
    have h0 : 0 < (bytesL p ++ enc ps).length := by simp; omega
    obtain ⟨i1, i2⟩ := ih (fun q hq => h q (by simp [hq]))
    rw [enc_cons, pts_step _ h0 (by rw [hF]), wts_step _ h0 (by rw [hF]), hF]
    simp [i1, i2]
/-- All points that are told of bytes, with those at the end. -/
def allP (zs : List Int) : List (Nat × Int) := (told 0 zs).1 ++ (if wts zs = [] then [] else [(zs.length - (wts zs).length, 65533)])
def ofP (zs : List Int) : List Int := pts zs ++ (if wts zs = [] then [] else [65533])
def ofL (zs : List Int) : List Int := enc (ofP zs)
theorem allP_pts (zs : List Int) : (allP zs).map (·.2) = ofP zs := by
  unfold allP ofP
  rw [List.map_append, told_pts]
  split <;> rfl
theorem ofP_pt {zs : List Int} (h : Byt zs) : ∀ p ∈ ofP zs, Pt p := fun p hp => by
  rcases List.mem_append.1 hp with hp | hp
  · exact pts_pt zs h p hp
  · split at hp
    · simp at hp
    · simp at hp; subst hp; exact Pt.bad
theorem ofL_byt {zs : List Int} (h : Byt zs) : Byt (ofL zs) := enc_byt (ofP_pt h)
theorem ofL_enc (ps : List Int) (h : ∀ p ∈ ps, Pt p) : ofL (enc ps) = enc ps := by
  obtain ⟨h1, h2⟩ := pts_enc ps h
  unfold ofL ofP
  rw [h1, h2]
  simp
theorem ofL_ofL {zs : List Int} (h : Byt zs) : ofL (ofL zs) = ofL zs := ofL_enc _ (ofP_pt h)
theorem ofL_bytes {p : Int} (h : Pt p) : ofL (bytesL p) = bytesL p := by
  have := ofL_enc [p] (by simpa using h)
  simpa [enc] using this
end Go.Proofs.Ytfkfooclapogjaa
