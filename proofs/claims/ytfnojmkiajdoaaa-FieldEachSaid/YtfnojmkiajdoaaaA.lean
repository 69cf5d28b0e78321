/-
  Bytes of texts.
-/
import Derived.Test.YtfnojmkiajdoaaaCom
import Derived.Lib.ConvBytes
import Derived.Lib.Bytealg
import Derived.Lib.IndexLaws
namespace Go.Proofs.Ytfnojmkiajdoaaa
open Go.RowKit
set_option linter.unusedVariables false
set_option linter.unusedSimpArgs false

def Byt (zs : List Int) : Prop := ∀ x ∈ zs, 0 ≤ x ∧ x < 256
theorem Byt.nil : Byt [] := fun x h => by simp at h
theorem Byt.cons {b : Int} {l : List Int} : Byt (b :: l) ↔ (0 ≤ b ∧ b < 256) ∧ Byt l := by simp [Byt]
theorem Byt.append {a b : List Int} : Byt (a ++ b) ↔ Byt a ∧ Byt b := by
  simp only [Byt, List.mem_append]
  exact ⟨fun h => ⟨fun x hx => h x (.inl hx), fun x hx => h x (.inr hx)⟩, fun h x hx => hx.elim (h.1 x) (h.2 x)⟩
theorem Byt.drop {a : List Int} (h : Byt a) (n : Nat) : Byt (a.drop n) := fun x hx => h x (List.mem_of_mem_drop hx)
theorem Byt.take {a : List Int} (h : Byt a) (n : Nat) : Byt (a.take n) := fun x hx => h x (List.mem_of_mem_take hx)


/-- A text's bytes. -/
def nums (s : ByteArray) : List Int := s.data.toList.map fun b => (b.toNat : Int)
theorem nums_byt (s : ByteArray) : Byt (nums s) := fun x hx => by
  obtain ⟨b, _, rfl⟩ := List.mem_map.1 hx
  have := b.toNat_lt
  omega
theorem nums_len (s : ByteArray) : (nums s).length = s.size := by
  rw [nums, List.length_map, Array.length_toList]
  rfl
theorem str_nums (s : ByteArray) : strOfNums (nums s) = s := by
  apply ByteArray.ext
  simp [strOfNums, nums, Function.comp_def]
theorem nums_str {zs : List Int} (h : Byt zs) : nums (strOfNums zs) = zs := by
  unfold nums strOfNums
  rw [List.map_map]
  conv => rhs; rw [← List.map_id zs]
  refine List.map_congr_left fun x hx => ?_
  have := h x hx
  simp
  omega
theorem str_eq {a b : List Int} (ha : Byt a) (hb : Byt b) : strOfNums a = strOfNums b ↔ a = b :=
  ⟨fun e => by rw [← nums_str ha, ← nums_str hb, e], fun e => by rw [e]⟩
theorem toList_beq (a b : ByteArray) (p : Prop) [Decidable p] (h : a = b ↔ p) : (a.toList == b.toList) = decide p := by
  have e : a.toList = b.toList ↔ p := by
    rw [← h]
    constructor
    · intro e
      apply ByteArray.ext
      apply Array.ext'
      simpa [ByteArray.toList_eq] using e
    · intro e; rw [e]
  by_cases hp : p
  · simp [hp, e.2 hp]
  · simp [hp]; exact fun h => hp (e.1 h)


theorem byt_dec {zs : List Int} (h : zs.all (fun x => decide (0 ≤ x ∧ x < 256)) = true) : Byt zs := fun x hx => by simpa using List.all_eq_true.1 h x hx
/-- Bytes laid out in a block of their own. -/

theorem str_extract (xs : List Int) (a b : Nat) : (strOfNums xs).extract a b = strOfNums ((xs.take b).drop a) := by
  apply ByteArray.ext
  apply Array.ext'
  simp [strOfNums_data, List.drop_take, List.map_drop, List.map_take]
theorem str_from (xs : List Int) (a : Nat) (n : Nat) (h : xs.length = n) : (strOfNums xs).extract a n = strOfNums (xs.drop a) := by
  rw [str_extract, List.take_of_length_le (by omega)]
theorem str_to (xs : List Int) (b : Nat) : (strOfNums xs).extract 0 b = strOfNums (xs.take b) := by
  rw [str_extract, List.drop_zero]

theorem str_get (xs : List Int) (i : Nat) (x : Int) (hi : xs[i]? = some x) (h0 : 0 ≤ x) (h1 : x < 256) : ∀ h : i < (strOfNums xs).size, (((strOfNums xs)[i]'h).toNat : Int) = x := fun h => by
  have hl : i < xs.length := (List.getElem?_eq_some_iff.1 hi).1
  have hx : xs[i] = x := (List.getElem?_eq_some_iff.1 hi).2
  have hd := strOfNums_data xs
  have h2 : (strOfNums xs)[i]'h = (strOfNums xs).data.toList[i]'(by rw [hd]; simpa using hl) := by
    rfl
  rw [h2]
  simp only [hd, List.getElem_map]
  rw [hx]
  simp
  omega

theorem Below.drewN' (w : World) (n : Nat) : Below w.heap.size w (w.drewN n) := ⟨rfl, rfl, rfl, Nat.le_refl _, fun _ _ => rfl⟩
theorem str_append (a b : List Int) : strOfNums a ++ strOfNums b = strOfNums (a ++ b) := by
  apply ByteArray.ext
  apply Array.ext'
  simp [strOfNums_data, ByteArray.data_append]
theorem str_nil : strOfNums [] = ⟨#[]⟩ := rfl
theorem str_isnil {a : List Int} (b : Bool) (h : b = true ↔ a = []) : ((strOfNums a).toList == []) = b := by
  rw [ByteArray.toList_eq, strOfNums_data]
  cases a with
  | nil => cases b with
    | true => rfl
    | false => exact absurd (h.2 rfl) (by simp)
  | cons x l => cases b with
    | true => exact absurd (h.1 rfl) (by simp)
    | false => rfl
/-- Where a byte is first. -/
def at1 (c : Int) : List Int → Option Nat
  | [] => none
  | x :: l => if x = c then some 0 else (at1 c l).map (· + 1)
theorem at1_none {c : Int} : ∀ {l : List Int}, at1 c l = none → ∀ x ∈ l, x ≠ c
  | [], _, x, hx => by simp at hx
  | y :: l, h, x, hx => by
    unfold at1 at h
    split at h
    · cases h
    · rename_i hy
      rcases List.mem_cons.1 hx with rfl | hx
      · exact hy
      · exact at1_none (by simpa using h) x hx
theorem at1_some {c : Int} : ∀ {l : List Int} {k : Nat}, at1 c l = some k → l = l.take k ++ c :: l.drop (k + 1) ∧ k < l.length ∧ (∀ x ∈ l.take k, x ≠ c)
  | [], k, h => by simp [at1] at h
  | y :: l, k, h => by
    unfold at1 at h
    split at h
    · rename_i hy
      cases h
      subst hy
      exact ⟨by simp, by simp, by simp⟩
    · rename_i hy
      cases k with
      | zero => simp at h
      | succ j =>
        obtain ⟨h1, h2, h3⟩ := at1_some (l := l) (k := j) (by simpa using h)
        refine ⟨?_, by simp; omega, ?_⟩
        · rw [List.take_succ_cons, List.drop_succ_cons, List.cons_append, ← h1]
        · intro x hx
          rw [List.take_succ_cons] at hx
          rcases List.mem_cons.1 hx with rfl | hx
          · exact hy
          · exact h3 x hx
theorem index_at1 {zs : List Int} (hb : Byt zs) {c : Int} (h0 : 0 ≤ c) (h1 : c < 256) : Lib.indexByte (strOfNums zs).data.toList c.toNat.toUInt8 = match at1 c zs with | none => -1 | some k => (k : Int) := by
  rw [strOfNums_data]
  induction zs with
  | nil => rfl
  | cons x l ih =>
    obtain ⟨hx, hl⟩ := Byt.cons.1 hb
    have ih := ih hl
    have e : (x.toNat.toUInt8 == c.toNat.toUInt8) = decide (x = c) := by
      by_cases hxc : x = c
      · simp [hxc]
      · have : x.toNat.toUInt8 ≠ c.toNat.toUInt8 := fun h => by
          have := congrArg UInt8.toNat h
          simp at this
          omega
        simp [this, hxc]
    rw [List.map_cons]
    unfold Lib.indexByte at1
    rw [e, ih]
    by_cases hxc : x = c
    · simp [hxc]
    · simp only [hxc, decide_false, if_false]
      cases at1 c l with
      | none => simp
      | some k => simp
end Go.Proofs.Ytfnojmkiajdoaaa
