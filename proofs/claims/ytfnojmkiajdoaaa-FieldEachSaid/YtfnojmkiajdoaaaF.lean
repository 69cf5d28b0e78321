/-
  What a line says: the document's.
-/
import Derived.Test.YtfnojmkiajdoaaaE
namespace Go.Proofs.Ytfnojmkiajdoaaa
open Go.RowKit
set_option linter.unusedVariables false
set_option linter.unusedSimpArgs false

theorem str_is (a : List Int) (ha : Byt a) (n : List Int) (hn : Byt n) (U : List UInt8) (hU : (strOfNums n).toList = U) : ((strOfNums a).toList == U) = decide (a = n) := by
  rw [← hU]
  exact toList_beq _ _ _ (str_eq ha hn)
/-- The names are asked for one behind the other. -/
theorem name_tests (n : List Int) (hb : Byt n) : ∃ b1 b2 b3 b4 : Bool, (((strOfNums n).toList == [100, 97, 116, 97]) = b1 ∧ ((strOfNums n).toList == [101, 118, 101, 110, 116]) = b2 ∧ ((strOfNums n).toList == [105, 100]) = b3 ∧ ((strOfNums n).toList == [114, 101, 116, 114, 121]) = b4) ∧
    ((b1 = true ∧ kindOf n = 3) ∨ (b1 = false ∧ b2 = true ∧ kindOf n = 4) ∨ (b1 = false ∧ b2 = false ∧ b3 = true ∧ kindOf n = 5) ∨ (b1 = false ∧ b2 = false ∧ b3 = false ∧ b4 = true ∧ kindOf n = 6) ∨ (b1 = false ∧ b2 = false ∧ b3 = false ∧ b4 = false ∧ kindOf n = 7)) := by
  obtain ⟨n1, n2, n3, n4⟩ := byt_names
  refine ⟨_, _, _, _, ⟨str_is n hb dataN n1 _ (by decide +kernel), str_is n hb eventN n2 _ (by decide +kernel), str_is n hb idN n3 _ (by decide +kernel), str_is n hb retryN n4 _ (by decide +kernel)⟩, ?_⟩
  unfold kindOf
  by_cases h1 : n = dataN
  · exact .inl ⟨by simp [h1], by rw [if_pos h1]⟩
  by_cases h2 : n = eventN
  · exact .inr (.inl ⟨by simp [h1], by simp [h2], by rw [if_neg h1, if_pos h2]⟩)
  by_cases h3 : n = idN
  · exact .inr (.inr (.inl ⟨by simp [h1], by simp [h2], by simp [h3], by rw [if_neg h1, if_neg h2, if_pos h3]⟩))
  by_cases h4 : n = retryN
  · exact .inr (.inr (.inr (.inl ⟨by simp [h1], by simp [h2], by simp [h3], by simp [h4], by rw [if_neg h1, if_neg h2, if_neg h3, if_pos h4]⟩)))
  · exact .inr (.inr (.inr (.inr ⟨by simp [h1], by simp [h2], by simp [h3], by simp [h4], by rw [if_neg h1, if_neg h2, if_neg h3, if_neg h4]⟩)))

set_option maxHeartbeats 1600000 in
theorem refOf_empty (w : World) : Calls Try.prog 9 #[.string ⟨#[]⟩] w fun e w' => e = .returned (fdV ⟨1, [], []⟩) ∧ Below w.heap.size w w' := by
  have z0 : ((⟨#[]⟩ : ByteArray).toList == []) = true := str_isnil (a := []) true (by simp)
  go_enter Try.func9, Try.ntmps9
  go_wp2
  exact bodyPost_ret (v := .agg #[.int .i64 1, .string ⟨#[]⟩, .string ⟨#[]⟩]) (by simp [results, Try.results9, go_sem]) rfl ⟨rfl, (Below.refl _ w).alloc (Nat.le_refl _) _⟩
set_option maxHeartbeats 1600000 in
theorem refOf_comment (r : List Int) (hb : Byt r) (hl : r.length ≤ 100000) (w : World) : Calls Try.prog 9 #[.string (strOfNums (58 :: r))] w fun e w' => e = .returned (fdV ⟨2, [], r⟩) ∧ Below w.heap.size w w' := by
  obtain ⟨S, hS⟩ : ∃ S, S = strOfNums (58 :: r) := ⟨_, rfl⟩
  obtain ⟨n, hn⟩ : ∃ n, n = r.length + 1 := ⟨_, rfl⟩
  have zS : (S.toList == []) = false := by rw [hS]; exact str_isnil false (by simp)
  have hsz : S.size = n := by rw [hS, strOfNums_size, hn]; rfl
  have hg : ∀ h : 0 < S.size, ((S[0]'h).toNat : Int) = 58 := by rw [hS]; exact str_get (58 :: r) 0 58 rfl (by decide) (by decide)
  obtain ⟨V, hV⟩ : ∃ V, V = strOfNums r := ⟨_, rfl⟩
  have hx : S.extract 1 n = V := by rw [hS, str_from (58 :: r) 1 n (by rw [hn]; rfl), hV]; rfl
  have h1 : (1 : Int) ≤ n := by omega
  have h2 : 1 ≤ n := by omega
  have h0 : 0 < n := by omega
  have h0' : (0 : Int) < n := by omega
  have eR : fdV ⟨2, [], r⟩ = .agg #[.int .i64 2, .string ⟨#[]⟩, .string V] := by rw [hV]; rfl
  have hl2 : n ≤ 100001 := by omega
  rw [← hS, eR]
  clear hS hn hV eR hb hl
  go_enter Try.func9, Try.ntmps9
  go_wp2
  exact bodyPost_ret (v := .agg #[.int .i64 2, .string ⟨#[]⟩, .string V]) (by simp [results, Try.results9, go_sem]) rfl ⟨rfl, (Below.refl _ w).alloc (Nat.le_refl _) _⟩
end Go.Proofs.Ytfnojmkiajdoaaa
