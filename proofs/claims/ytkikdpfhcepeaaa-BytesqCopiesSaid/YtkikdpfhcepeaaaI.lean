/-
  The calls that came in; strings of bytes; few.
-/
import Derived.Test.YtkikdpfhcepeaaaH
import Derived.Laws.BytesArg
import Derived.Laws.Concat
namespace Go.Proofs.Ytkikdpfhcepeaaa
open Go.RowKit
set_option linter.unusedVariables false
set_option linter.unusedSimpArgs false

/-- A call that came in. -/
structure AV where
  what : Int
  n : Int
  a : Option Addr
  ca : Nat
  xa : List Int
  b : Option Addr
  cb : Nat
  xb : List Int
def AV.nul : AV := ⟨0, 0, none, 0, [], none, 0, []⟩
structure AV.Ok (T : Nat → Prop) (w : World) (v : AV) : Prop where
  w0 : (Lit.int .i64 v.what).wf = true
  w1 : (Lit.int .i64 v.n).wf = true
  ra : Arg T w v.a v.xa.length v.xa
  rb : Arg T w v.b v.xb.length v.xb
  na : v.a = none → v.xa.length = 0 ∧ v.ca = 0
  nb : v.b = none → v.xb.length = 0 ∧ v.cb = 0
  ia : ∀ x ∈ v.xa, 0 ≤ x ∧ x < 256
  ib : ∀ x ∈ v.xb, 0 ≤ x ∧ x < 256
  la : v.xa.length ≤ 140737488355327
  lb : v.xb.length ≤ 140737488355327
theorem AV.Ok.mod {T S : Nat → Prop} {w w' : World} {v : AV} (h : v.Ok T w) (hm : Mod S w w') (ht : ∀ k, T k → ¬ S k) : v.Ok T w' := { h with ra := h.ra.mod hm ht, rb := h.rb.mod hm ht }
/-- Calls that came in. -/
def Acts (w : World) (ao : Option Addr) (n : Nat) (zs : List AV) : Prop :=
  n ≤ maxLen ∧ n ≤ zs.length ∧ (0 < n → ∃ b off, ao = some ⟨b, off, none⟩ ∧ b < w.heap.size ∧ ∀ j, j < n → ∃ z, z = zs.getD j AV.nul ∧ w.cell? ⟨b, off + j * 4, none⟩ = some (.int .i64 z.what) ∧ w.cell? ⟨b, off + j * 4 + 1, none⟩ = some (.int .i64 z.n) ∧
    w.cell? ⟨b, off + j * 4 + 2, none⟩ = some (.slice z.a z.xa.length z.ca) ∧ w.cell? ⟨b, off + j * 4 + 3, none⟩ = some (.slice z.b z.xb.length z.cb) ∧ z.Ok (fun k => k < w.heap.size) w)

set_option maxHeartbeats 800000 in
theorem few_any (ao : Option Addr) (n cap : Nat) (zs : List AV) (many : Nat) (w : World) (h : Acts w ao n zs) (hm : many ≤ 1000) :
    Calls Try.prog 7 #[.slice ao n cap, .int .i64 many] w fun e w' => ∃ b, e = .returned (.bool b) ∧ (b = true → n ≤ many ∧ ∀ j, j < n → (zs.getD j AV.nul).xa.length + (zs.getD j AV.nul).xb.length ≤ 300) ∧ ∃ q, w' = w.drewN q := by
  have HA := Lib.hid h
  have hn := h.1
  clear h
  unfold maxLen at hn
  go_enter Try.func7, Try.ntmps7
  go_wp2
  go_loopg [5] n (fun gk v5 wr => ∃ i : Nat, v5 = .int .i64 i ∧ i ≤ n ∧ i ≤ many + 1 ∧ gk = n - i ∧ (∃ q, wr = w.drewN q) ∧ ∀ j, j < i → (zs.getD j AV.nul).xa.length + (zs.getD j AV.nul).xb.length ≤ 300)
  case atStart => exact ⟨0, rfl, by omega, by omega, rfl, ⟨0, rfl⟩, fun j hj => by omega⟩
  case round =>
    obtain ⟨i, rfl, hi, him, hgk, ⟨q, rfl⟩, hall⟩ := hrel
    have HG := Lib.hid hgk
    have HL := Lib.hid hall
    clear hgk hall
    by_cases hlt : i < n
    · have d1 : decide (i < n) = true := by simpa using hlt
      by_cases hle : i ≤ many
      · have d2 : decide (i ≤ many) = true := by simpa using hle
        obtain ⟨b, off, rfl, hb, hc⟩ := HA.out.2.2 (by omega)
        obtain ⟨z, hz, z0, z1, z2, z3, hok⟩ := hc i hlt
        have la := hok.la
        have lb := hok.lb
        have HZ := Lib.hid hz
        clear z0 z1 hok hc hz
        by_cases hbig : 300 < z.xa.length + z.xb.length
        · have hd : (300 : Int) < (z.xa.length : Int) + (z.xb.length : Int) := by omega
          go_wp2
          go_quiet (fail)
          go_wp2
          go_ret
          exact ⟨_, rfl, (fun h => by cases h), _, World.drewN_drewN _ _ _⟩
        · have hd : ¬ (300 : Int) < (z.xa.length : Int) + (z.xb.length : Int) := by omega
          go_wp2
          go_quiet (fail)
          go_wp2
          go_roundg (n - (i + 1))
          case measure => have := HG.out; omega
          case rel => exact ⟨i + 1, by go_num, by omega, by omega, rfl, ⟨_, rfl⟩, fun j hj => by
            by_cases e : j = i
            · subst e; rw [← HZ.out]; omega
            · exact HL.out j (by omega)⟩
      · have d2 : decide (i ≤ many) = false := by simpa using hle
        have d3 : n > many := by omega
        go_wp2
        go_ret
        exact ⟨_, rfl, (fun h => by simp at h; omega), _, rfl⟩
    · obtain rfl : i = n := by omega
      go_wp2
      go_ret
      exact ⟨_, rfl, (fun h => by simp at h; exact ⟨by omega, HL.out⟩), _, rfl⟩

theorem conv_any {T : Nat → Prop} {w : World} {a : Option Addr} {xs : List Int} (c : Nat) (h : Arg T w a xs.length xs) (hn : a = none → xs.length = 0 ∧ c = 0) :
    (convert 29 9 (.slice a xs.length c)).run Try.prog w = .ok (.string (strOfNums xs)) w := by
  by_cases hp : 0 < xs.length
  · obtain ⟨b, off, rfl, hb, _, hc⟩ := h.2 hp
    exact run_convert_bytes_arg w 29 5 Try.underlying29 Try.underlying5 b off xs.length c xs rfl hc 9 Try.underlying9
  · have h0 : xs = [] := List.eq_nil_of_length_eq_zero (by omega)
    subst h0
    show (convert 29 9 (.slice a 0 c)).run Try.prog w = .ok (.string ByteArray.empty) w
    rw [run_convert_bytes_string w 29 9 5 _ 0 c Try.underlying29 Try.underlying5 Try.underlying9]
    cases a <;> simp [Conv.bytesToString, loadCells]
    all_goals rfl
theorem strOfNums_append (a b : List Int) : strOfNums (a ++ b) = strOfNums a ++ strOfNums b := by
  apply ByteArray.ext
  simp [strOfNums]
end Go.Proofs.Ytkikdpfhcepeaaa
