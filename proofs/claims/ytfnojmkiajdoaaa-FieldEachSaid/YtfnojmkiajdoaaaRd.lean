/-
  FieldEach answers true for every input, and leaves every argument as it was. No condition.
-/
import Derived.Test.YtfnojmkiajdoaaaSe
import Derived.WalkKit
import Derived.ProofKit
import Derived.OpenShut
import Derived.ShutString
import Derived.ChangeOld
import Derived.Below
import Derived.Lib.SmallJoins
import Derived.Deep.Slices
import Derived.Deep.Fields
import Derived.Deep.SlicePairs
import Derived.Deep.Strs

namespace Go.Proofs.Ytfnojmkiajdoaaa.fieldEach
open Go.ChangeShapes Go.WideShapes Go.ChangeAt Go.RowKit Go.Joins Go.Deep
open Go.ChangeMaps (open_string shut_string)
set_option linter.unusedVariables false
set_option linter.unusedSimpArgs false

theorem own : ownKnob Try.prog.godebug = none := by kernel_rfl
theorem laidOut : laidOutB Try.prog = true := by kernel_rfl
theorem wf_i64 {x : Int} (h : (Lit.int .i64 x).wf = true) : -9223372036854775808 ≤ x ∧ x ≤ 9223372036854775807 := by
  simp [Lit.wf, IntKind.min, IntKind.max, IntKind.bits, IntKind.signed] at h
  omega
/-- Texts that came in. -/
def Txs (w : World) (a : Option Addr) (len cap : Nat) (L : List ByteArray) : Prop :=
  SAhead w.heap.size w a len L ∧ (a = none → len = 0 ∧ cap = 0) ∧ len ≤ cap ∧ L.length = len ∧ ∀ j, (ssAt L j).size ≤ 9223372036854775807
theorem strs_at {w : World} {a : Addr} {m : Nat} {Sx : Nat → ByteArray} (h : ∀ i, i < m → w.cell? (a.add i) = some (.string (Sx i))) (hp : 0 < m) : ∃ b off, a = ⟨b, off, none⟩ ∧ ∀ j, j < m → w.cell? ⟨b, off + j, none⟩ = some (.string (Sx j)) := by
  obtain ⟨b, off, spot⟩ := a
  have hspot : spot = none := by simpa [Addr.add] using World.cell?_spot (h 0 hp)
  subst hspot
  exact ⟨b, off, rfl, fun j hj => by rw [← Go.WideShapes.add_plain]; exact h j hj⟩
theorem ssAt_range (Sx : Nat → ByteArray) (n j : Nat) (h : j < n) : ssAt ((List.range n).map Sx) j = Sx j := by
  unfold ssAt
  rw [List.getD_eq_getElem?_getD, List.getElem?_map, List.getElem?_range h]
  rfl
theorem txs_mk {w : World} {a : Addr} {len cap : Nat} {Sx : Nat → ByteArray} (hl : len ≤ cap) (hx : ∀ i, i < cap → w.cell? (a.add i) = some (.string (Sx i)) ∧ (Sx i).size ≤ maxLen) : Txs w (some a) len cap ((List.range len).map Sx) := by
  refine ⟨fun hp => ?_, fun e => (by cases e), hl, by simp, fun j => ?_⟩
  · obtain ⟨b, off, rfl, hc⟩ := strs_at (fun i hi => (hx i hi).1) (show 0 < cap by omega)
    exact ⟨b, off, rfl, World.block_lt_of_cell? w _ (hc 0 (by omega)), fun j hj => by rw [ssAt_range Sx len j hj]; exact hc j (by omega)⟩
  · by_cases hj : j < len
    · rw [ssAt_range Sx len j hj]
      have := (hx j (by omega)).2
      simp only [maxLen] at this
      omega
    · unfold ssAt
      rw [List.getD_eq_getElem?_getD, List.getElem?_eq_none (by simp; omega)]
      exact Nat.zero_le _

set_option maxRecDepth 100000 in
theorem lifted (os : Os) (started : os.Started) (H : Type) (enc : TypeId × Value → H) :
    ReturnsInHanded {} Try.checked os 6 .any (Rows.fieldEachSpec.pre6 enc Try.prog Try.f6 Rows.fieldEachRow.domain false) (Rows.fieldEachSpec.post enc Try.prog Try.f6 false true false false) := by
  refine returnsInHanded_of_change (C := Try.checked) own started (by kernel_rfl) Try.func6
    (ChangeSpec.witness6 (enc := enc) (C := Try.checked) false ⟨#[], #[.slice none 0 0, .int .i64 0], []⟩ 8 (by kernel_rfl) (by kernel_rfl) (by kernel_rfl) (by kernel_rfl)) ?_
  intro W base args ds gs before hval0 hW hcnd _
  have hval : ∀ (j : Nat) t v, Try.f6.params[j]? = some t → args[j]? = some v → Value.okWide Try.prog W .any base t v := hval0
  have hW' := hW
  obtain ⟨p, q, hA0, hV, rfl, hfz, hnd⟩ := hW
  have hA : DataW.TrodAll enc Try.prog W 0 (fun _ => true) true Try.f6.params.toList args.toList ds p := hA0
  
  rw [Try.params6] at hA hval
  obtain ⟨v0, vs0, d0, ds0, p0, q0, hargs, rfl, rfl, h0, r0⟩ := trodAll_cons hA
  obtain ⟨v1, vs1, d1, ds1, p1, q1, rfl, rfl, rfl, h1, r1⟩ := trodAll_cons r0
  obtain ⟨rfl, rfl, rfl⟩ := trodAll_nil r1
  obtain rfl : args = #[v0, v1] := by cases args; simp_all
  obtain ⟨rfl, rfl⟩ := trodVars_none hV
  have k0 := h0
  have lt0 : ∀ x ∈ p0, x.block < W.heap.size := by obtain ⟨m, hm⟩ := k0; exact DataW.trod_lt m _ _ _ hm
  have k1 := h1
  have lt1 : ∀ x ∈ p1, x.block < W.heap.size := by obtain ⟨m, hm⟩ := k1; exact DataW.trod_lt m _ _ _ hm
  obtain ⟨a0, len0, cap0, rfl⟩ := okWide_slice Try.underlying40 (hval 0 40 v0 rfl rfl)
  obtain ⟨L0, w0⟩ : ∃ L, Txs W a0 len0 cap0 L := by
    obtain ⟨fuel, hf⟩ := h0
    rcases open_strs Try.underlying40 Try.underlying9 (by kernel_rfl) hf with ⟨hcs, _⟩ | ⟨x, l, c, m, Sx, hcs, _, hl, hm, hz, _, hx⟩
    · simp [Value.cells] at hcs
      obtain ⟨rfl, rfl, rfl⟩ := hcs
      exact ⟨[], fun hp => absurd hp (by omega), fun _ => ⟨rfl, rfl⟩, Nat.le_refl _, rfl, fun j => Nat.zero_le _⟩
    · simp [Value.cells] at hcs
      obtain ⟨rfl, rfl, rfl⟩ := hcs
      have hmc : m = cap0 := by simpa using hz
      subst hmc
      exact ⟨_, txs_mk hl hx⟩
  obtain ⟨a1, rfl, _, _, w1⟩ := open_int Try.underlying3 (hval 1 3 v1 rfl rfl) h1
  clear hA0 hval0
  refine (each_any a0 len0 cap0 L0 a1 W w0.1 w0.2.1 w0.2.2.1 w0.2.2.2.1 w0.2.2.2.2 (by have := wf_i64 w1; omega) (by have := wf_i64 w1; omega)).mono fun e W' ⟨he, bel⟩ => ?_
  subst he
  exact ⟨_, rfl, _, _, _, [], _, [], hW', trodAll_mk1 (shut_bool Try.underlying4 _), (trodAll_cons_mk (Below.trod laidOut (by kernel_rfl) (of_decide_eq_true (by kernel_rfl)) k0 bel lt0) (trodAll_cons_mk (Below.trod laidOut (by kernel_rfl) (of_decide_eq_true (by kernel_rfl)) k1 bel lt1) trodAll_mk0)), rfl, bel.frame _, fun h => by cases h⟩

theorem over : Rows.fieldEachRow.holds Try.pinned (OpenSpec.ofChange Rows.fieldEachSpec) :=
  OpenClaim.holds_of_wide 6 Try.f6 rfl rfl rfl rfl rfl rfl rfl ⟨rfl, rfl, rfl, rfl, rfl⟩ rfl rfl rfl rfl rfl (by kernel_rfl) Try.func6 (by kernel_rfl)
    (of_decide_eq_true (by kernel_rfl)) (by unfold Func.isWrapper; first | (rw [if_pos (by decide +kernel)]; kernel_rfl) | (rw [if_neg (by decide +kernel)]; exact ⟨rfl, rfl⟩))
    (fun os started H enc _ => lifted os started H enc)

theorem proved : Rows.FieldEachSaid := over
#print axioms proved
end Go.Proofs.Ytfnojmkiajdoaaa.fieldEach
