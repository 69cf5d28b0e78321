/-
  Sharing among pieces.
-/
import Derived.Test.YtagdenhcbafblaaC
import Derived.Test.YtagdenhcbafblaaD
namespace Go.Proofs.Ytagdenhcbafblaa
open Go.RowKit
set_option linter.unusedVariables false
set_option linter.unusedSimpArgs false

theorem Try.info3 : (Try.prog.info? 3).map (fun i => (i.zero, i.size, i.bytes)) = some (some (.int .i64 0), 1, 8) := by kernel_rfl

/-- What pieces get, and what is left then. -/
def shareOf : Int → List Int → List Int
  | _, [] => []
  | lf, x :: xs => min x lf :: shareOf (lf - min x lf) xs
def restOf : Int → List Int → Int
  | lf, [] => lf
  | lf, x :: xs => restOf (lf - min x lf) xs
theorem shareOf_snoc (x : Int) : ∀ (xs : List Int) (lf : Int), shareOf lf (xs ++ [x]) = shareOf lf xs ++ [min x (restOf lf xs)] ∧ restOf lf (xs ++ [x]) = restOf lf xs - min x (restOf lf xs)
  | [], lf => ⟨rfl, rfl⟩
  | y :: ys, lf => by
    have h := shareOf_snoc x ys (lf - min y lf)
    exact ⟨by simp only [List.cons_append, shareOf, restOf]; rw [h.1], by simp only [List.cons_append, restOf]; rw [h.2]⟩
theorem shareOf_len : ∀ (xs : List Int) (lf : Int), (shareOf lf xs).length = xs.length
  | [], _ => rfl
  | y :: ys, lf => by simp only [shareOf, List.length_cons]; rw [shareOf_len ys]
theorem restOf_le (m : Int) : ∀ (xs : List Int) (lf : Int), (∀ x ∈ xs, 0 ≤ x) → 0 ≤ lf → lf ≤ m → 0 ≤ restOf lf xs ∧ restOf lf xs ≤ m
  | [], lf, _, h0, h1 => ⟨h0, h1⟩
  | y :: ys, lf, h, h0, h1 => by
    have hy := h y (by simp)
    exact restOf_le m ys _ (fun x hx => h x (by simp [hx])) (by omega) (by omega)

theorem neg_any (x : Int) (w : World) : Calls Try.prog 29 #[.int .i64 x] w fun e w' => e = .returned (.bool (decide (x < 0))) ∧ w = w' := by
  go_enter Try.func29, Try.ntmps29
  go_wp2
  go_ret
  exact ⟨rfl, rfl⟩

/-- Numbers that came in. -/
def Arg (w : World) (ao : Option Addr) (n : Nat) (zs : List Int) : Prop :=
  n ≤ zs.length ∧ (0 < n → ∃ b off, ao = some ⟨b, off, none⟩ ∧ b < w.heap.size ∧ ∀ j, j < n → w.cell? ⟨b, off + j, none⟩ = some (.int .i64 (zs.getD j 0)))

set_option maxHeartbeats 800000 in
theorem index_none (ao : Option Addr) (n cap : Nat) (zs : List Int) (w : World) (h : Arg w ao n zs) (hn : n ≤ 1000) (hp : ∀ j, j < n → 0 ≤ zs.getD j 0) :
    Calls Try.prog 37 #[.slice ao n cap, .func (.func 29) #[] #[]] w fun e w' => e = .returned (.int .i64 (-1)) ∧ w = w' := by
  have HA := Lib.hid h
  have HP := Lib.hid hp
  have HC := Lib.hid neg_any
  clear h hp
  go_enter Try.func37, Try.ntmps37
  go_wp2
  go_loopg [8] n (fun gk v8 wr => ∃ i : Nat, v8 = .int .i64 i ∧ i ≤ n ∧ gk = n - i ∧ wr = w)
  case atStart => exact ⟨0, rfl, by omega, rfl, rfl⟩
  case round =>
    obtain ⟨i, rfl, hi, hgk, rfl⟩ := hrel
    have HG := Lib.hid hgk
    clear hgk
    by_cases hlt : i < n
    · obtain ⟨b, off, rfl, hb, hc⟩ := HA.out.2 (by omega)
      obtain ⟨z, hz⟩ : ∃ z, z = zs.getD i 0 := ⟨_, rfl⟩
      have hz0 : 0 ≤ z := by rw [hz]; exact HP.out i hlt
      have hci := hc i hlt
      rw [← hz] at hci
      have hd : decide (z < 0) = false := by simp; omega
      have HCz := HC.out z wr
      rw [hd] at HCz
      have HCz := Lib.hid HCz
      clear hz hc hd
      go_wp2_with (go_at_call 29; refine HCz.out.mono ?_; rintro e w' ⟨rfl, rfl⟩)
      go_roundg (n - (i + 1))
      case measure => have := HG.out; omega
      case rel => exact ⟨i + 1, by go_num, by omega, rfl, rfl⟩
    · go_wp2
      go_ret
      exact ⟨rfl, rfl⟩

set_option maxHeartbeats 800000 in
theorem contains_none (ao : Option Addr) (n cap : Nat) (zs : List Int) (w : World) (h : Arg w ao n zs) (hn : n ≤ 1000) (hp : ∀ j, j < n → 0 ≤ zs.getD j 0) :
    Calls Try.prog 28 #[.slice ao n cap, .func (.func 29) #[] #[]] w fun e w' => e = .returned (.bool false) ∧ w = w' := by
  have HI := Lib.hid (index_none ao n cap zs w h hn hp)
  clear h hp
  go_enter Try.func28, Try.ntmps28
  go_wp2_with (go_at_call 37; refine HI.out.mono ?_; rintro e w' ⟨rfl, rfl⟩)
  go_ret
  exact ⟨rfl, rfl⟩

set_option maxHeartbeats 800000 in
theorem index_some (ao : Option Addr) (n cap : Nat) (zs : List Int) (w : World) (h : Arg w ao n zs) (hn : n ≤ 1000) (hp : ∃ j, j < n ∧ zs.getD j 0 < 0) :
    Calls Try.prog 37 #[.slice ao n cap, .func (.func 29) #[] #[]] w fun e w' => (∃ i : Nat, i ≤ 1000 ∧ e = .returned (.int .i64 i)) ∧ w = w' := by
  have HA := Lib.hid h
  have HP := Lib.hid hp
  have HC := Lib.hid neg_any
  clear h hp
  go_enter Try.func37, Try.ntmps37
  go_wp2
  go_loopg [8] n (fun gk v8 wr => ∃ i : Nat, v8 = .int .i64 i ∧ i ≤ n ∧ gk = n - i ∧ wr = w ∧ ∃ j, i ≤ j ∧ j < n ∧ zs.getD j 0 < 0)
  case atStart => exact ⟨0, rfl, by omega, rfl, rfl, by obtain ⟨j, h1, h2⟩ := HP.out; exact ⟨j, by omega, h1, h2⟩⟩
  case round =>
    obtain ⟨i, rfl, hi, hgk, rfl, j, hj, hjn, hjz⟩ := hrel
    have HG := Lib.hid hgk
    have HJ := Lib.hid hjz
    clear hgk hjz
    have hlt : i < n := by omega
    obtain ⟨b, off, rfl, hb, hc⟩ := HA.out.2 (by omega)
    obtain ⟨z, hz⟩ : ∃ z, z = zs.getD i 0 := ⟨_, rfl⟩
    have hci := hc i hlt
    rw [← hz] at hci
    have HZ := Lib.hid hz
    by_cases hz0 : z < 0
    · have hd : decide (z < 0) = true := by simpa using hz0
      have HCz := HC.out z wr
      rw [hd] at HCz
      have HCz := Lib.hid HCz
      clear hz hc hd
      go_wp2_with (go_at_call 29; refine HCz.out.mono ?_; rintro e w' ⟨rfl, rfl⟩)
      go_ret
      exact ⟨⟨i, by omega, rfl⟩, rfl⟩
    · have hd : decide (z < 0) = false := by simpa using hz0
      have HCz := HC.out z wr
      rw [hd] at HCz
      have HCz := Lib.hid HCz
      clear hz hc hd
      go_wp2_with (go_at_call 29; refine HCz.out.mono ?_; rintro e w' ⟨rfl, rfl⟩)
      go_roundg (n - (i + 1))
      case measure => have := HG.out; omega
      case rel =>
        refine ⟨i + 1, by go_num, by omega, rfl, rfl, j, ?_, hjn, HJ.out⟩
        rcases Nat.lt_or_ge i j with h | h
        · omega
        · obtain rfl : i = j := by omega
          have h1 := HJ.out
          rw [← HZ.out] at h1
          omega

set_option maxHeartbeats 800000 in
theorem contains_some (ao : Option Addr) (n cap : Nat) (zs : List Int) (w : World) (h : Arg w ao n zs) (hn : n ≤ 1000) (hp : ∃ j, j < n ∧ zs.getD j 0 < 0) :
    Calls Try.prog 28 #[.slice ao n cap, .func (.func 29) #[] #[]] w fun e w' => e = .returned (.bool true) ∧ w = w' := by
  have HI := Lib.hid (index_some ao n cap zs w h hn hp)
  clear h hp
  go_enter Try.func28, Try.ntmps28
  go_wp2_with (go_at_call 37; refine HI.out.mono ?_; rintro e w' ⟨⟨i, hi, rfl⟩, rfl⟩)
  go_ret
  exact ⟨rfl, rfl⟩

set_option maxHeartbeats 800000 in
theorem piece_any (B : Nat) (x lf : Int) (w : World) (h : w.heap[B]? = some (.cells #[.int .u64 lf] 26 (0, 0))) (hx : 0 ≤ x) (hx2 : x ≤ 9223372036854775807) (h0 : 0 ≤ lf) (h1 : lf ≤ 1099511627776) :
    Calls Try.prog 31 #[.int .i64 x, .pointer (some ⟨B, 0, none⟩)] w fun e w' => e = .returned (.int .i64 (min x lf)) ∧ w.setCell ⟨B, 0, none⟩ (.int .u64 (lf - min x lf)) = w' := by
  have c0 := cell_blk h 0 _ rfl
  have f0 := frozen_blk h 0
  clear h
  obtain ⟨k, hk⟩ : ∃ k, k = min x lf := ⟨_, rfl⟩
  rw [← hk]
  rcases (show (x < lf ∧ k = x) ∨ (lf < x ∧ k = lf) ∨ (x = lf ∧ k = lf) by omega) with ⟨a, e⟩ | ⟨a, e⟩ | ⟨a, e⟩
  all_goals
    clear hk
    first | subst e | (subst a; subst e)
    try subst a
    go_enter Try.func31, Try.ntmps31
    go_wp2
    go_ret
    first | exact ⟨rfl, rfl⟩ | exact ⟨rfl, by simp⟩
end Go.Proofs.Ytagdenhcbafblaa
