/-
  The calls that came in; few.
-/
import Derived.Test.YtneeagabmdpjgaaOi
namespace Go.Proofs.Ytneeagabmdpjgaa
open Go.RowKit
set_option linter.unusedVariables false
set_option linter.unusedSimpArgs false

/-- A call. -/
structure OV where
  what : Int
  n : Int
  a : Option Addr
  c : Nat
  ls : List (List Int)
def OV.nul : OV := ⟨0, 0, none, 0, []⟩
structure OV.Ok (T : Nat → Prop) (w : World) (v : OV) : Prop where
  ps : Parts T w v.a v.ls
  nn : v.a = none → v.ls.length = 0 ∧ v.c = 0
  by_ : ∀ l ∈ v.ls, ∀ x ∈ l, 0 ≤ x ∧ x < 256
  what : (Lit.int .i64 v.what).wf = true
  n : (Lit.int .i64 v.n).wf = true
theorem OV.Ok.below {T : Nat → Prop} {w w' : World} {v : OV} (h : v.Ok T w) (hb : Below w.heap.size w w') : v.Ok T w' := { h with ps := h.ps.below hb }
/-- The calls. -/
def OActs (w : World) (ao : Option Addr) (n : Nat) (zs : List OV) : Prop :=
  n ≤ maxLen ∧ n ≤ zs.length ∧ (0 < n → ∃ b off, ao = some ⟨b, off, none⟩ ∧ b < w.heap.size ∧ ∀ j, j < n → ∃ z, z = zs.getD j OV.nul ∧ w.cell? ⟨b, off + j * 3, none⟩ = some (.int .i64 z.what) ∧ w.cell? ⟨b, off + j * 3 + 1, none⟩ = some (.int .i64 z.n) ∧ w.cell? ⟨b, off + j * 3 + 2, none⟩ = some (.slice z.a z.ls.length z.c) ∧ z.Ok (fun k => k < w.heap.size) w)
/-- At most 8 frames of at most 60 bytes. -/
def Few (z : OV) : Prop := z.ls.length ≤ 8 ∧ ∀ l ∈ z.ls, l.length ≤ 60

set_option maxHeartbeats 1600000 in
theorem few_any (ao : Option Addr) (n cap : Nat) (zs : List OV) (many : Nat) (w : World) (h : OActs w ao n zs) (hm : many ≤ 60) :
    Calls Try.prog 7 #[.slice ao n cap, .int .i64 many] w fun e w' => ∃ b, e = .returned (.bool b) ∧ (b = true → n ≤ many ∧ ∀ i, i < n → Few (zs.getD i OV.nul)) ∧ w = w' := by
  have hnm := h.1
  unfold maxLen at hnm
  have HL := Lib.hid h.2.2
  clear h
  go_enter Try.func7, Try.ntmps7
  go_wp2
  go_loopg [5] n (fun gk v5 wr => ∃ i : Nat, v5 = .int .i64 i ∧ i ≤ n ∧ i ≤ many + 1 ∧ gk = n - i ∧ wr = w ∧ ∀ j, j < i → Few (zs.getD j OV.nul))
  case atStart => exact ⟨0, rfl, by omega, by omega, rfl, rfl, fun j h => by omega⟩
  case round =>
    obtain ⟨i, rfl, hi, him, hgk, rfl, hall⟩ := hrel
    have HG := Lib.hid hgk
    have HA := Lib.hid hall
    clear hgk hall
    by_cases hlt : i < n
    · have d1 : decide ((i : Int) < n) = true := by simpa using hlt
      by_cases hle : i ≤ many
      · have d2 : decide ((i : Int) ≤ many) = true := by simpa using hle
        obtain ⟨b, off, rfl, hb, hc⟩ := HL.out (by omega)
        obtain ⟨z, hz, _, _, z2, hok⟩ := hc i hlt
        have HOk := Lib.hid hok
        obtain ⟨L, hL⟩ : ∃ L, L = z.ls.length := ⟨_, rfl⟩
        rw [← hL] at z2
        have HLL := Lib.hid hL
        have HZ := Lib.hid hz
        clear hc hok hL hz
        by_cases h8 : 8 < L
        · have d3 : decide (8 < L) = true := by simpa using h8
          have d4 : decide ((8 : Int) < L) = true := by simp; omega
          go_wp2
          go_ret
          exact ⟨false, rfl, (fun h => by cases h), rfl⟩
        have d3 : decide (8 < L) = false := by simpa using h8
        have d4 : decide ((8 : Int) < L) = false := by simp; omega
        go_wp2_with fail
        go_loopg [6] L (fun gk v6 wx => ∃ k : Nat, v6 = .int .i64 k ∧ k ≤ L ∧ gk = L - k ∧ wx = wr ∧ ∀ j, j < k → (z.ls.getD j []).length ≤ 60)
        case atStart => exact ⟨0, rfl, by omega, rfl, rfl, fun j h => by omega⟩
        case round =>
          obtain ⟨k, rfl, hk, hgk2, hwx, hall2⟩ := hrel
          subst hwx
          have HG2 := Lib.hid hgk2
          have HA2 := Lib.hid hall2
          clear hgk2 hall2
          by_cases hkl : k < L
          · have e1 : decide ((k : Int) < L) = true := by simpa using hkl
            obtain ⟨pb, poff, hpa, hpb, _, hpc⟩ := HOk.out.ps (by have := HLL.out; omega)
            obtain ⟨fa, fc, f1, _, _⟩ := hpc k (by have := HLL.out; omega)
            obtain ⟨M, hM⟩ : ∃ M, M = (z.ls.getD k []).length := ⟨_, rfl⟩
            rw [← hM] at f1
            rw [hpa] at z2
            have HMM := Lib.hid hM
            clear hpc hM
            by_cases h60 : 60 < M
            · have e3 : decide (60 < M) = true := by simpa using h60
              have e4 : decide ((60 : Int) < M) = true := by simp; omega
              go_wp2
              go_ret
              exact ⟨false, rfl, (fun h => by cases h), rfl⟩
            · have e3 : decide (60 < M) = false := by simpa using h60
              have e4 : decide ((60 : Int) < M) = false := by simp; omega
              go_wp2_with fail
              go_roundg (L - (k + 1))
              case measure => have := HG2.out; omega
              case rel =>
                refine ⟨k + 1, by go_num, by omega, rfl, rfl, fun j hj => ?_⟩
                rcases Nat.lt_or_ge j k with h | h
                · exact HA2.out j h
                · obtain rfl : j = k := by omega
                  rw [← HMM.out]; omega
          · obtain rfl : k = L := by omega
            have e1 : decide ((k : Int) < k) = false := by simp
            go_wp2_with fail
            go_roundg (n - (i + 1))
            case measure => have := HG.out; omega
            case rel =>
              refine ⟨i + 1, by go_num, by omega, by omega, rfl, rfl, fun j hj => ?_⟩
              rcases Nat.lt_or_ge j i with h | h
              · exact HA.out j h
              · obtain rfl : j = i := by omega
                rw [← HZ.out]
                refine ⟨by have := HLL.out; omega, fun l hl => ?_⟩
                obtain ⟨x, hx, e⟩ := List.getElem_of_mem hl
                have := HA2.out x (by have := HLL.out; omega)
                simpa [List.getD, hx, e] using this
      · have d2 : decide ((i : Int) ≤ many) = false := by simp; omega
        have d5 : decide ((n : Int) ≤ many) = false := by simp; omega
        have d6 : decide (n ≤ many) = false := by simp; omega
        go_wp2
        go_ret
        exact ⟨false, rfl, (fun h => by cases h), rfl⟩
    · obtain rfl : i = n := by omega
      have d1 : decide ((i : Int) < i) = false := by simp
      by_cases hle : i ≤ many
      · have d2 : decide ((i : Int) ≤ many) = true := by simpa using hle
        go_wp2
        go_ret
        exact ⟨true, rfl, fun _ => ⟨hle, HA.out⟩, rfl⟩
      · have d2 : decide ((i : Int) ≤ many) = false := by simp; omega
        go_wp2
        go_ret
        exact ⟨false, rfl, (fun h => by cases h), rfl⟩
end Go.Proofs.Ytneeagabmdpjgaa
