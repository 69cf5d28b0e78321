/-
  WindowHolds, walked: what comes ahead, and the ways out at once.
-/
import Derived.Test.YtagdenhcbafblaaH
namespace Go.Proofs.Ytagdenhcbafblaa
open Go.RowKit
set_option linter.unusedVariables false
set_option linter.unusedSimpArgs false

def Yes (w : World) (e : Ending) (w' : World) : Prop := e = .returned (.bool true) ∧ Below w.heap.size w w'

def tot : List Int → Int
  | [] => 0
  | x :: xs => x + tot xs
theorem tot_snoc (x : Int) : ∀ xs : List Int, tot (xs ++ [x]) = tot xs + x
  | [] => by simp [tot]
  | y :: ys => by simp only [List.cons_append, tot]; rw [tot_snoc x ys]; omega
theorem tot_nonneg : ∀ xs : List Int, (∀ x ∈ xs, 0 ≤ x) → 0 ≤ tot xs
  | [], _ => by simp [tot]
  | y :: ys, h => by
    have h1 := h y (by simp)
    have h2 := tot_nonneg ys (fun x hx => h x (by simp [hx]))
    simp only [tot]; omega
theorem restOf_tot : ∀ (xs : List Int) (lf : Int), (∀ x ∈ xs, 0 ≤ x) → 0 ≤ lf → lf - restOf lf xs = min (tot xs) lf
  | [], lf, _, h0 => by simp only [restOf, tot]; omega
  | y :: ys, lf, h, h0 => by
    have h1 := h y (by simp)
    have hn : ∀ x ∈ ys, 0 ≤ x := fun x hx => h x (by simp [hx])
    have h2 := tot_nonneg ys hn
    have h3 := restOf_tot ys (lf - min y lf) hn (by omega)
    simp only [restOf, tot]; omega
theorem shareOf_get (zs : List Int) (lf : Int) (n i : Nat) (hi : i < n) (hz : n ≤ zs.length) : (shareOf lf (zs.take n)).getD i 0 = min (zs.getD i 0) (restOf lf (zs.take i)) := by
  have h : ∀ (m : Nat) (hm : m ≤ zs.length) (lf : Int) , i < m → (shareOf lf (zs.take m)).getD i 0 = min (zs.getD i 0) (restOf lf (zs.take i)) := by
    intro m
    induction m with
    | zero => intro _ _ h; omega
    | succ m ih =>
      intro hm lf h
      rw [take_snoc zs m (by omega), (shareOf_snoc _ _ _).1]
      have hl : (shareOf lf (zs.take m)).length = m := by rw [shareOf_len]; simp; omega
      rcases Nat.lt_or_ge i m with h' | h'
      · have := ih (by omega) lf h'
        rw [← this]
        simp [List.getD, List.getElem?_append_left (show i < (shareOf lf (zs.take m)).length by omega)]
      · obtain rfl : i = m := by omega
        rw [List.getD, List.getElem?_append_right (by omega), hl]
        simp
  exact h n hz lf hi

theorem Grant_small (p : Nat) (l g n : Int) (w : World) (h : Wi w p l g false) (hn : 0 ≤ n) (hn2 : n ≤ 1099511627776) (hs : l + n ≤ 1099511627776) : Calls Try.prog 9 #[.pointer (some ⟨p, 0, none⟩), .int .u64 n] w fun e w' => e = .returned (.tuple #[.int .u64 (l + n), .int .i64 0]) ∧ Wi w' p (l + n) g false ∧ Mod (fun q => q = p) w w' := by
  have h1 := Grant_open p l g n w h hn
  rw [show granted l n false = l + n by unfold granted; simp; omega] at h1
  exact h1
theorem Take_small (p : Nat) (l g n : Int) (s : Bool) (w : World) (h : Wi w p l g s) (hn : 0 ≤ n) (hn2 : n ≤ 9223372036854775807) (hs : g + min n l ≤ 18446744073709551615) : Calls Try.prog 11 #[.pointer (some ⟨p, 0, none⟩), .int .i64 n] w fun e w' =>
    e = .returned (.tuple #[.int .i64 (min n l), .int .i64 0]) ∧ Wi w' p (l - min n l) (g + min n l) s ∧ Mod (fun q => q = p) w w' := by
  have h1 := Take_wi p l g n s w h hn hn2
  rw [show min (g + min n l) 18446744073709551615 = g + min n l by omega] at h1
  exact h1

set_option maxHeartbeats 1600000 in
set_option maxRecDepth 100000 in
theorem holds_out (ao bo co : Option Addr) (na nb nc ca cb cc : Nat) (w : World) (h : 40 < na ∨ 40 < nb ∨ 20 < nc) (h1 : na ≤ maxLen) (h2 : nb ≤ maxLen) (h3 : nc ≤ maxLen) :
    Calls Try.prog 3 #[.slice ao na ca, .slice bo nb cb, .slice co nc cc] w (Yes w) := by
  unfold maxLen at h1 h2 h3
  have HW := Lib.hid (works_true w)
  by_cases a1 : 40 < na
  · have hd1 : decide (40 < na) = true := by simpa using a1
    clear h
    go_enter Try.func3, Try.ntmps3
    go_wp2_with (go_at_call 7; refine HW.out.mono ?_; rintro e w' ⟨rfl, hb⟩)
    go_ret
    exact ⟨rfl, hb⟩
  have hd1 : decide (40 < na) = false := by simpa using a1
  by_cases a2 : 40 < nb
  · have hd2 : decide (40 < nb) = true := by simpa using a2
    clear h
    go_enter Try.func3, Try.ntmps3
    go_wp2_with (go_at_call 7; refine HW.out.mono ?_; rintro e w' ⟨rfl, hb⟩)
    go_ret
    exact ⟨rfl, hb⟩
  have hd2 : decide (40 < nb) = false := by simpa using a2
  have e3 : 20 < nc := by omega
  have hd3 : decide (20 < nc) = true := by simpa using e3
  clear h
  go_enter Try.func3, Try.ntmps3
  go_wp2_with (go_at_call 7; refine HW.out.mono ?_; rintro e w' ⟨rfl, hb⟩)
  go_ret
  exact ⟨rfl, hb⟩
end Go.Proofs.Ytagdenhcbafblaa
