/-
  A splitter: cut.
-/
import Derived.Test.YtfkfooclapogjaaWd
namespace Go.Proofs.Ytfkfooclapogjaa
open Go.RowKit
set_option linter.unusedVariables false
set_option linter.unusedSimpArgs false

theorem str_get (xs : List Int) (i : Nat) (x : Int) (hi : xs[i]? = some x) (h0 : 0 ≤ x) (h1 : x < 256) : ∀ h : i < (strOfNums xs).size, (((strOfNums xs)[i]'h).toNat : Int) = x := fun h => by
  have hl : i < xs.length := (List.getElem?_eq_some_iff.1 hi).1
  have hx : xs[i] = x := (List.getElem?_eq_some_iff.1 hi).2
  have hd := strOfNums_data xs
  have h2 : (strOfNums xs)[i]'h = (strOfNums xs).data.toList[i]'(by rw [hd]; simpa using hl) := by
    rfl
  rw [h2]
  simp only [hd, List.getElem_map]
  rw [hx]
  simp
  omega
theorem lines1_any (B : Nat) (x : Int) (w : World) (h0 : w.cell? ⟨B, 0, none⟩ = some (.int .u8 13)) (h1 : w.cell? ⟨B, 1, none⟩ = some (.int .u8 10)) (hb : B < w.heap.size) (r : Bool) (hr : r = true ↔ x = 13 ∨ x = 10) :
    Calls Try.prog 45 #[.int .u8 x, .pointer (some ⟨B, 0, none⟩)] w fun e w' => e = .returned (.bool r) ∧ w = w' := by
  have HC := Lib.hid (contains_ends B 2 x w h0 h1 hb r hr)
  clear hr
  go_enter Try.func45, Try.ntmps45
  go_wp2_with (go_at_call 46; refine HC.out.mono ?_; rintro e w' ⟨rfl, rfl⟩)
  go_ret
  exact ⟨rfl, rfl⟩
/-- What cut tells of bytes: where the first end is. -/
def cutV (xs : List Int) (k : Nat) : Value := match xs[k]? with
  | some e => .tuple #[.string (strOfNums (xs.take k)), .int .u8 e, .string (strOfNums (xs.drop (k + 1))), .bool true]
  | none => .tuple #[.string (strOfNums xs), .int .u8 0, .string ⟨#[]⟩, .bool false]
set_option maxHeartbeats 1600000 in
theorem cut_any (B : Nat) (xs : List Int) (k : Nat) (w : World) (h0 : w.cell? ⟨B, 0, none⟩ = some (.int .u8 13)) (h1 : w.cell? ⟨B, 1, none⟩ = some (.int .u8 10)) (hb : B < w.heap.size) (hby : Byt xs) (hl : xs.length ≤ 1000000)
    (hk : k ≤ xs.length) (hno : ∀ j x, j < k → xs[j]? = some x → x ≠ 13 ∧ x ≠ 10) (he : ∀ x, xs[k]? = some x → x = 13 ∨ x = 10) :
    Calls Try.prog 43 #[.string (strOfNums xs), .func (.func 45) #[] #[.pointer (some ⟨B, 0, none⟩)]] w fun e w' => e = .returned (cutV xs k) ∧ ∃ q, w' = w.drewN q := by
  obtain ⟨S, hS⟩ : ∃ s, s = strOfNums xs := ⟨_, rfl⟩
  obtain ⟨n, hn⟩ : ∃ n, n = xs.length := ⟨_, rfl⟩
  have zs : S.size = n := by rw [hS, strOfNums_size, hn]
  rw [← hn] at hl hk
  rw [← hS]
  have HF := Lib.hid (fun x r hr => lines1_any B x w h0 h1 hb r hr)
  have HX := Lib.hid (And.intro hS (And.intro hn (And.intro hby (And.intro hno he))))
  clear hS hn hby hno he h0 h1 hb
  go_enter Try.func43, Try.ntmps43
  go_wp2
  go_loopg [8, 11] n (fun gk v8 v11 wr => ∃ i : Nat, v11 = .int .i64 i ∧ i ≤ k ∧ gk = n - i ∧ wr = w)
  case atStart => exact ⟨0, rfl, by omega, rfl, rfl⟩
  case round =>
    obtain ⟨i, rfl, hi, hgk, hwr⟩ := hrel
    subst hwr
    have HG := Lib.hid hgk
    clear hgk
    by_cases hlt : i < n
    · obtain ⟨hS, hn, hby, hno, he⟩ := HX.out
      have hil : i < xs.length := by omega
      obtain ⟨x, hx⟩ : ∃ x, xs[i]? = some x := ⟨xs[i], by simp [hil]⟩
      have hxb := hby x (List.mem_of_getElem? hx)
      have hget : ∀ h : i < S.size, ((S[i]'h).toNat : Int) = x := by rw [hS]; exact str_get xs i x hx hxb.1 hxb.2
      have d1 : decide ((i : Int) < n) = true := by simpa using hlt
      by_cases hik : i = k
      · subst hik
        have HFx := Lib.hid (HF.out x true (by simpa using he x hx))
        have hv : cutV xs i = .tuple #[.string (strOfNums (xs.take i)), .int .u8 x, .string (strOfNums (xs.drop (i + 1))), .bool true] := by simp [cutV, hx]
        have e1 : S.extract 0 i = strOfNums (xs.take i) := by rw [hS, str_to]
        have e2 : S.extract (i + 1) n = strOfNums (xs.drop (i + 1)) := by rw [hS, str_from xs (i + 1) n hn.symm]
        obtain ⟨T1, hT1⟩ : ∃ s, s = strOfNums (xs.take i) := ⟨_, rfl⟩
        obtain ⟨T2, hT2⟩ : ∃ s, s = strOfNums (xs.drop (i + 1)) := ⟨_, rfl⟩
        rw [← hT1] at e1 hv
        rw [← hT2] at e2 hv
        have HV := Lib.hid hv
        have hle : (i : Int) + 1 ≤ n := by omega
        clear hS hn hby hno he hil hx hT1 hT2 hv
        go_wp2_with (go_at_call 45; refine HFx.out.mono ?_; rintro e w' ⟨rfl, rfl⟩)
        go_quiet (fail)
        go_wp2
        refine bodyPost_ret (v := .tuple #[.string T1, .int .u8 x, .string T2, .bool true]) (by simp [results, Try.results43, go_sem, *]) rfl ⟨by rw [HV.out], _, rfl⟩
      · have hne := hno i x (by omega) hx
        have HFx := Lib.hid (HF.out x false (by simpa using hne))
        clear hS hn hby hno he hil hx
        go_wp2_with (go_at_call 45; refine HFx.out.mono ?_; rintro e w' ⟨rfl, rfl⟩)
        go_roundg (n - (i + 1))
        case measure => have := HG.out; omega
        case rel => exact ⟨i + 1, by go_num, by omega, rfl, rfl⟩
    · obtain rfl : i = n := by omega
      obtain rfl : k = i := by omega
      obtain ⟨hS, hn, hby, hno, he⟩ := HX.out
      have hv : cutV xs k = .tuple #[.string S, .int .u8 0, .string ⟨#[]⟩, .bool false] := by simp [cutV, hn, hS]
      have HV := Lib.hid hv
      clear hS hn hby hno he hv
      go_wp2
      refine bodyPost_ret (v := .tuple #[.string S, .int .u8 0, .string ⟨#[]⟩, .bool false]) (by simp [results, Try.results43, go_sem, *]) rfl ⟨by rw [HV.out], 0, rfl⟩
end Go.Proofs.Ytfkfooclapogjaa
