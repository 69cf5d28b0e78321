/-
  Texts: what the library tells of them.
-/
import Derived.Test.YtfnojmkiajdoaaaA
namespace Go.Proofs.Ytfnojmkiajdoaaa
open Go.RowKit
set_option linter.unusedVariables false
set_option linter.unusedSimpArgs false

theorem has_any (xs ys : List Int) (w : World) (hx : Byt xs) (hy : Byt ys) (hl : xs.length ≤ 1000000) (hl2 : ys.length ≤ 1000000) (b : Bool) (hb : b = true ↔ ys <+: xs) : Calls Try.prog 44 #[.string (strOfNums xs), .string (strOfNums ys)] w fun e w' => e = .returned (.bool b) ∧ w = w' := by
  obtain ⟨SX, hSX⟩ : ∃ s, s = strOfNums xs := ⟨_, rfl⟩
  obtain ⟨SY, hSY⟩ : ∃ s, s = strOfNums ys := ⟨_, rfl⟩
  obtain ⟨n, hn⟩ : ∃ n, n = xs.length := ⟨_, rfl⟩
  obtain ⟨m, hm⟩ : ∃ n, n = ys.length := ⟨_, rfl⟩
  have zx : SX.size = n := by rw [hSX, strOfNums_size, hn]
  have zy : SY.size = m := by rw [hSY, strOfNums_size, hm]
  rw [← hn] at hl
  rw [← hm] at hl2
  rw [← hSX, ← hSY]
  by_cases hle : m ≤ n
  · have d1 : decide (m ≤ n) = true := by simpa using hle
    have d2 : decide ((m : Int) ≤ n) = true := by simpa using hle
    obtain ⟨T, hT⟩ : ∃ s, s = strOfNums (xs.take m) := ⟨_, rfl⟩
    have ex : SX.extract 0 m = T := by rw [hSX, str_to, hT]
    have he : (T.toList == SY.toList) = b := by
      rw [toList_beq T SY (xs.take m = ys) (by rw [hT, hSY]; exact str_eq (hx.take m) hy)]
      have : xs.take m = ys ↔ ys <+: xs := by
        rw [List.prefix_iff_eq_take, ← hm]
        exact ⟨fun h => h.symm, fun h => h.symm⟩
      cases b
      · simp only [decide_eq_false_iff_not]; exact fun h => by have := hb.2 (this.1 h); cases this
      · simp only [decide_eq_true_eq]; exact this.2 (hb.1 rfl)
    clear hSX hSY hT hn hm hb hx hy
    go_enter Try.func44, Try.ntmps44
    go_wp2
    go_ret
    exact ⟨rfl, rfl⟩
  · have d1 : decide (m ≤ n) = false := by simpa using hle
    have d2 : decide ((m : Int) ≤ n) = false := by simp; omega
    have hbf : b = false := by
      cases b
      · rfl
      · have h1 := (hb.1 rfl).length_le
        omega
    subst hbf
    clear hSX hSY hn hm hb hx hy
    go_enter Try.func44, Try.ntmps44
    go_wp2
    go_ret
    exact ⟨rfl, rfl⟩
theorem trim_any (xs ys : List Int) (w : World) (hx : Byt xs) (hy : Byt ys) (hl : xs.length ≤ 1000000) (hl2 : ys.length ≤ 1000000) (zs : List Int) (hz : (ys <+: xs ∧ zs = xs.drop ys.length) ∨ (¬ ys <+: xs ∧ zs = xs)) : Calls Try.prog 24 #[.string (strOfNums xs), .string (strOfNums ys)] w fun e w' => e = .returned (.string (strOfNums zs)) ∧ w = w' := by
  have h60 : Calls Try.prog 35 #[.string (strOfNums xs), .string (strOfNums ys)] w fun e w' => e = .returned (.string (strOfNums zs)) ∧ w = w' := by
    rcases hz with ⟨hp, rfl⟩ | ⟨hp, rfl⟩
    · have HH := Lib.hid (has_any xs ys w hx hy hl hl2 true (by simpa using hp))
      have hle := hp.length_le
      obtain ⟨SX, hSX⟩ : ∃ s, s = strOfNums xs := ⟨_, rfl⟩
      obtain ⟨SY, hSY⟩ : ∃ s, s = strOfNums ys := ⟨_, rfl⟩
      obtain ⟨n, hn⟩ : ∃ n, n = xs.length := ⟨_, rfl⟩
      obtain ⟨m, hm⟩ : ∃ n, n = ys.length := ⟨_, rfl⟩
      have zx : SX.size = n := by rw [hSX, strOfNums_size, hn]
      have zy : SY.size = m := by rw [hSY, strOfNums_size, hm]
      have ex : SX.extract m n = strOfNums (xs.drop ys.length) := by rw [hSX, str_from xs m n hn.symm, hm]
      obtain ⟨Z, hZ⟩ : ∃ s, s = strOfNums (xs.drop ys.length) := ⟨_, rfl⟩
      rw [← hSX, ← hSY] at HH
      rw [← hn, ← hm] at hle
      rw [← hn] at hl
      rw [← hm] at hl2
      rw [← hSX, ← hSY, ← hZ]
      rw [← hZ] at ex
      clear hSX hSY hn hm hZ hx hy hp
      go_enter Try.func35, Try.ntmps35
      go_wp2_with (go_at_call 44; refine HH.out.mono ?_; rintro e w' ⟨rfl, rfl⟩)
      go_ret
      exact ⟨rfl, rfl⟩
    · have HH := Lib.hid (has_any zs ys w hx hy hl hl2 false (by simpa using hp))
      clear hx hy hp
      go_enter Try.func35, Try.ntmps35
      go_wp2_with (go_at_call 44; refine HH.out.mono ?_; rintro e w' ⟨rfl, rfl⟩)
      go_ret
      exact ⟨rfl, rfl⟩
  have HH := Lib.hid h60
  clear h60 hz hx hy
  go_enter Try.func24, Try.ntmps24
  go_wp2_with (go_at_call 35; refine HH.out.mono ?_; rintro e w' ⟨rfl, rfl⟩)
  go_ret
  exact ⟨rfl, rfl⟩

def atV (c : Int) (xs : List Int) : Int := match at1 c xs with | none => -1 | some k => (k : Int)
theorem indexByte57 (xs : List Int) (c : Int) (hb : Byt xs) (h0 : 0 ≤ c) (h1 : c < 256) (w : World) : Calls Try.prog 57 #[.string (strOfNums xs), .int .u8 c] w fun e w' => e = .returned (.int .i64 (atV c xs)) ∧ w = w' := by
  have hx : Lib.indexByte (strOfNums xs).data.toList c.toNat.toUInt8 = atV c xs := index_at1 hb h0 h1
  obtain ⟨V, hV⟩ : ∃ V, V = atV c xs := ⟨_, rfl⟩
  obtain ⟨SX, hSX⟩ : ∃ s, s = strOfNums xs := ⟨_, rfl⟩
  rw [← hV, ← hSX] at hx
  rw [← hV, ← hSX]
  clear hV hSX
  go_enter Try.func57, Try.ntmps57
  go_wp2
  rw [run_callFunc_extern Try.func61 (by kernel_rfl) (by kernel_rfl) (by kernel_rfl) (e := Extern.BytealgIndexByte.indexByte) (by kernel_rfl), Lib.run_indexByteString, hx]
  simp only [Result.andThen]
  rw [Oper.upon_value]
  go_wp2
  go_ret
  exact ⟨rfl, rfl⟩
theorem indexByte46 (xs : List Int) (c : Int) (hb : Byt xs) (h0 : 0 ≤ c) (h1 : c < 256) (w : World) : Calls Try.prog 46 #[.string (strOfNums xs), .int .u8 c] w fun e w' => e = .returned (.int .i64 (atV c xs)) ∧ w = w' := by
  have HI := Lib.hid (indexByte57 xs c hb h0 h1 w)
  go_enter Try.func46, Try.ntmps46
  go_wp2_with (go_at_call 57; refine HI.out.mono ?_; rintro e w' ⟨rfl, rfl⟩)
  go_ret
  exact ⟨rfl, rfl⟩
theorem index43 (xs : List Int) (c : Int) (hb : Byt xs) (h0 : 0 ≤ c) (h1 : c < 256) (hl : xs.length ≤ 1000000) (w : World) : Calls Try.prog 43 #[.string (strOfNums xs), .string (strOfNums [c])] w fun e w' => e = .returned (.int .i64 (atV c xs)) ∧ w = w' := by
  have HI := Lib.hid (indexByte57 xs c hb h0 h1 w)
  have hc : Byt [c] := Byt.cons.2 ⟨⟨h0, h1⟩, Byt.nil⟩
  have hg := str_get [c] 0 c rfl h0 h1
  have he0 : xs = [c] → atV c xs = 0 := fun e => by rw [e]; simp [atV, at1]
  obtain ⟨b, hbb⟩ : ∃ b, ((strOfNums [c]).toList == (strOfNums xs).toList) = b := ⟨_, rfl⟩
  have hv : b = true → atV c xs = 0 := fun e => he0 (by
    have := toList_beq (strOfNums [c]) (strOfNums xs) ([c] = xs) (str_eq hc hb)
    rw [this] at hbb
    have h2 : decide ([c] = xs) = true := hbb.trans e
    exact (of_decide_eq_true h2).symm)
  obtain ⟨V, hV⟩ : ∃ V, V = atV c xs := ⟨_, rfl⟩
  obtain ⟨SX, hSX⟩ : ∃ s, s = strOfNums xs := ⟨_, rfl⟩
  obtain ⟨SC, hSC⟩ : ∃ s, s = strOfNums [c] := ⟨_, rfl⟩
  have hs : SC.size = 1 := by rw [hSC, strOfNums_size]; rfl
  rw [← hSX, ← hSC] at hbb
  rw [← hV] at hv
  rw [← hV, ← hSX] at HI
  rw [← hSC] at hg
  rw [← hV, ← hSX, ← hSC]
  have hg0 : ∀ h : 0 < SC.size, ((SC[0]'h).toNat : Int) = c := hg
  clear hV hSX hSC hc hg he0
  cases b with
  | true =>
    obtain rfl := hv rfl
    go_enter Try.func43, Try.ntmps43
    go_wp2
    go_ret
    exact ⟨rfl, rfl⟩
  | false =>
    clear hv
    go_enter Try.func43, Try.ntmps43
    go_wp2_with (go_at_call 57; refine HI.out.mono ?_; rintro e w' ⟨rfl, rfl⟩)
    go_ret
    exact ⟨rfl, rfl⟩
end Go.Proofs.Ytfnojmkiajdoaaa
