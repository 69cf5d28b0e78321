/-
  RingCopies answers true for every input, and leaves every argument as it was. No condition.
-/
import Derived.Test.YthiajgkifoimcaaTm
import Derived.WalkKit
import Derived.ProofKit
import Derived.OpenShut
import Derived.ShutString
import Derived.ChangeOld
import Derived.Below
import Derived.Lib.SmallJoins
import Derived.Deep.Slices
import Derived.Deep.Fields
import Derived.Deep.SlicePairs
import Derived.Deep.Strs
namespace Go.Proofs.Ythiajgkifoimcaa.ringCopies
open Go.ChangeShapes Go.WideShapes Go.ChangeAt Go.RowKit Go.Joins Go.Deep
open Go.ChangeMaps (open_string shut_string)
set_option linter.unusedVariables false
set_option linter.unusedSimpArgs false

theorem own : ownKnob Try.prog.godebug = none := by kernel_rfl
theorem laidOut : laidOutB Try.prog = true := by kernel_rfl
/-- A slice of triples of integers that came in. -/
def IsTriples (k0 k1 k2 : IntKind) (w : World) (a : Option Addr) (len : Nat) (zs : List (Int × Int × Int)) : Prop :=
  len ≤ maxLen ∧ len ≤ zs.length ∧ (0 < len → ∃ b off, a = some ⟨b, off, none⟩ ∧ b < w.heap.size ∧ ∀ j, j < len → w.cell? ⟨b, off + j * 3, none⟩ = some (.int k0 (zs.getD j (0, 0, 0)).1) ∧ w.cell? ⟨b, off + j * 3 + 1, none⟩ = some (.int k1 (zs.getD j (0, 0, 0)).2.1) ∧ w.cell? ⟨b, off + j * 3 + 2, none⟩ = some (.int k2 (zs.getD j (0, 0, 0)).2.2) ∧
    (Lit.int k0 (zs.getD j (0, 0, 0)).1).wf = true ∧ (Lit.int k1 (zs.getD j (0, 0, 0)).2.1).wf = true ∧ (Lit.int k2 (zs.getD j (0, 0, 0)).2.2).wf = true)
theorem open_triples {H : Type} {enc : TypeId × Value → H} {P : Program} {w : World} {base : Nat} {held : Bool} {t e : TypeId} {f0 f1 f2 : Field} {k0 k1 k2 : IntKind} {fuel : Nat} {a : Option Addr} {len cap : Nat} {x : DataW H × List MemPlace} (ht : P.underlying t = some (.slice e)) (he : P.underlying e = some (.struct #[f0, f1, f2]))
    (ce : P.cellsOf e = 3) (o0 : f0.offset = 0) (o1 : f1.offset = 1) (o2 : f2.offset = 2) (c0 : P.cellsOf f0.type = 1) (c1 : P.cellsOf f1.type = 1) (c2 : P.cellsOf f2.type = 1) (u0 : P.underlying f0.type = some (.int k0)) (u1 : P.underlying f1.type = some (.int k1)) (u2 : P.underlying f2.type = some (.int k2))
    (h : DataW.trod enc P w base (fun _ => true) held fuel t [.slice a len cap] = some x) : ∃ zs, IsTriples k0 k1 k2 w a len zs := by
  rcases open_slice ht h with ⟨hcs, _⟩ | ⟨y, l, c, m, n, D, Pl, hcs, _, hl, hm, hmm, _, hx⟩
  · simp at hcs
    obtain ⟨rfl, rfl, rfl⟩ := hcs
    exact ⟨[], by simp [maxLen], by simp, fun h => by omega⟩
  · simp at hcs
    obtain ⟨rfl, rfl, rfl⟩ := hcs
    have hmc : m = cap := by simpa using hmm
    subst hmc
    rw [ce] at hx
    have each : ∀ i, i < m → ∃ q : Int × Int × Int, w.cell? (y.add (i * 3)) = some (.int k0 q.1) ∧ w.cell? (y.add (i * 3 + 1)) = some (.int k1 q.2.1) ∧ w.cell? (y.add (i * 3 + 2)) = some (.int k2 q.2.2) ∧ (Lit.int k0 q.1).wf = true ∧ (Lit.int k1 q.2.1).wf = true ∧ (Lit.int k2 q.2.2).wf = true := by
      intro i hi
      obtain ⟨cs', h1, h2⟩ := hx i hi
      obtain ⟨_, hlen, hcell⟩ := World.cells?_some h1
      match cs', hlen with
      | [v0, v1, v2], _ =>
        obtain ⟨z0, z1, z2, n0, _, _, g0, g1, g2⟩ := trod_struct3 he h2
        simp [o0, o1, o2, c0, c1, c2] at g0 g1 g2
        obtain ⟨s0, e0, _, b0⟩ := DataW.trod_int u0 g0
        obtain ⟨s1, e1, _, b1⟩ := DataW.trod_int u1 g1
        obtain ⟨s2, e2, _, b2⟩ := DataW.trod_int u2 g2
        simp only [List.cons.injEq, and_true] at e0 e1 e2
        subst e0 e1 e2
        have q0 := hcell 0 (by omega)
        have q1 := hcell 1 (by omega)
        have q2 := hcell 2 (by omega)
        rw [add_add] at q0 q1 q2
        exact ⟨(s0, s1, s2), by simpa using q0, by simpa using q1, by simpa using q2, b0, b1, b2⟩
    obtain ⟨q, hq⟩ := choose_lt each
    refine ⟨(List.range len).map q, by omega, by simp, fun hpos => ?_⟩
    obtain ⟨b, off, spot⟩ := y
    obtain rfl : spot = none := by simpa [Addr.add] using World.cell?_spot (hq 0 (by omega)).1
    have hb0 := (hq 0 (by omega)).1
    rw [add_plain] at hb0
    refine ⟨b, off, rfl, World.block_lt_of_cell? w _ hb0, fun j hj => ?_⟩
    have hz : ((List.range len).map q).getD j (0, 0, 0) = q j := by simp [List.getD, hj]
    obtain ⟨g0, g1, g2, g3, g4, g5⟩ := hq j (by omega)
    rw [add_plain] at g0 g1 g2
    rw [hz]
    exact ⟨g0, by rw [Nat.add_assoc]; exact g1, by rw [Nat.add_assoc]; exact g2, g3, g4, g5⟩
/-- An array of two triples of integers that came in. -/
theorem open_two3 {H : Type} {enc : TypeId × Value → H} {P : Program} {w : World} {base b0 : Nat} {r : Reach} {held : Bool} {spare : Nat → Bool} {t e : TypeId} {f0 f1 f2 : Field} {k0 k1 k2 : IntKind} {v : Value} {d : DataW H} {p : List MemPlace} (ht : P.underlying t = some (.array 2 e)) (he : P.underlying e = some (.struct #[f0, f1, f2]))
    (ct : P.cellsOf t = 6) (ce : P.cellsOf e = 3) (o0 : f0.offset = 0) (o1 : f1.offset = 1) (o2 : f2.offset = 2) (c0 : P.cellsOf f0.type = 1) (c1 : P.cellsOf f1.type = 1) (c2 : P.cellsOf f2.type = 1) (u0 : P.underlying f0.type = some (.int k0)) (u1 : P.underlying f1.type = some (.int k1)) (u2 : P.underlying f2.type = some (.int k2))
    (hv : Value.okWide P w r b0 t v) (h : DataW.Trod enc P w base spare held t v d p) :
    ∃ s0 s1 s2 s3 s4 s5 : Int, v = .agg #[.int k0 s0, .int k1 s1, .int k2 s2, .int k0 s3, .int k1 s4, .int k2 s5] ∧ ((Lit.int k0 s0).wf = true ∧ (Lit.int k1 s1).wf = true ∧ (Lit.int k2 s2).wf = true) ∧ (Lit.int k0 s3).wf = true ∧ (Lit.int k1 s4).wf = true ∧ (Lit.int k2 s5).wf = true := by
  simp only [Value.okWide, ht] at hv
  obtain ⟨cs, rfl, hsz, _⟩ := hv
  rw [ct] at hsz
  obtain ⟨l⟩ := cs
  match l, hsz with
  | [x0, x1, x2, x3, x4, x5], _ =>
    obtain ⟨fuel, hf⟩ := h
    obtain ⟨xs, m, _, _, _, hxl, hx⟩ := DataW.trod_array ht hf
    have g0 := hx 0 (by omega)
    have g1 := hx 1 (by omega)
    rw [ce] at g0 g1
    match xs, hxl with
    | [y0, y1], _ =>
      simp [Value.cells] at g0 g1
      obtain ⟨z0, z1, z2, n0, _, _, q0, q1, q2⟩ := trod_struct3 he g0
      obtain ⟨z3, z4, z5, n1, _, _, q3, q4, q5⟩ := trod_struct3 he g1
      simp [o0, o1, o2, c0, c1, c2] at q0 q1 q2 q3 q4 q5
      obtain ⟨s0, e0, _, b0⟩ := DataW.trod_int u0 q0
      obtain ⟨s1, e1, _, b1⟩ := DataW.trod_int u1 q1
      obtain ⟨s2, e2, _, b2⟩ := DataW.trod_int u2 q2
      obtain ⟨s3, e3, _, b3⟩ := DataW.trod_int u0 q3
      obtain ⟨s4, e4, _, b4⟩ := DataW.trod_int u1 q4
      obtain ⟨s5, e5, _, b5⟩ := DataW.trod_int u2 q5
      simp only [List.cons.injEq, and_true] at e0 e1 e2 e3 e4 e5
      subst e0 e1 e2 e3 e4 e5
      exact ⟨s0, s1, s2, s3, s4, s5, rfl, ⟨b0, b1, b2⟩, b3, b4, b5⟩

theorem acts {w : World} {ao : Option Addr} {n : Nat} {zs : List (Int × Int × Int)} (h : IsTriples .i64 .i64 .u64 w ao n zs) : Acts w ao n zs := by
  obtain ⟨_, h1, h2⟩ := h
  refine ⟨h1, fun hp => ?_⟩
  obtain ⟨b, off, e, hb, hc⟩ := h2 hp
  exact ⟨b, off, e, hb, fun j hj => ⟨(hc j hj).1, (hc j hj).2.1, (hc j hj).2.2.1, (bounds_u64 (hc j hj).2.2.2.2.2).1, (bounds_u64 (hc j hj).2.2.2.2.2).2⟩⟩

theorem whole (m x c0 c1 c2 c3 c4 c5 : Int) (ao : Option Addr) (n cap : Nat) (zs : List (Int × Int × Int)) (w : World) (wx : (Lit.int .u64 x).wf = true) (w2 : (Lit.int .u64 c2).wf = true) (w5 : (Lit.int .u64 c5).wf = true) (h : IsTriples .i64 .i64 .u64 w ao n zs) :
    Calls Try.prog 5 #[.int .i64 m, .int .u64 x, .slice ao n cap, .agg #[.int .i64 c0, .int .i64 c1, .int .u64 c2, .int .i64 c3, .int .i64 c4, .int .u64 c5]] w fun e w' => e = .returned (.bool true) ∧ Below w.heap.size w w' := by
  by_cases hout : 30 < n
  · exact copies_out m x ao n cap c0 c1 c2 c3 c4 c5 w (.inl hout) h.1
  · by_cases hm : m < 1 ∨ 4096 < m
    · exact copies_out m x ao n cap c0 c1 c2 c3 c4 c5 w (.inr ⟨by omega, hm⟩) h.1
    · exact copies_in m x ao n cap zs c0 c1 c2 c3 c4 c5 w (by omega) (by omega) (by omega) (bounds_u64 wx).1 (bounds_u64 wx).2 (acts h) (bounds_u64 w2) (bounds_u64 w5)

set_option maxRecDepth 100000 in
theorem lifted (os : Os) (started : os.Started) (H : Type) (enc : TypeId × Value → H) :
    ReturnsInHanded {} Try.checked os 5 .any (Rows.ringCopiesSpec.pre6 enc Try.prog Try.f5 Rows.ringCopiesRow.domain false) (Rows.ringCopiesSpec.post enc Try.prog Try.f5 false true false false) := by
  refine returnsInHanded_of_change (C := Try.checked) own started (by kernel_rfl) Try.func5
    (ChangeSpec.witness6 (enc := enc) (C := Try.checked) false ⟨#[], #[.int .i64 0, .int .u64 0, .slice none 0 0, .agg #[.int .i64 0, .int .i64 0, .int .u64 0, .int .i64 0, .int .i64 0, .int .u64 0]], []⟩ 8 (by kernel_rfl) (by kernel_rfl) (by kernel_rfl) (by kernel_rfl)) ?_
  intro W base args ds gs before hval0 hW hcnd _
  have hval : ∀ (j : Nat) t v, Try.f5.params[j]? = some t → args[j]? = some v → Value.okWide Try.prog W .any base t v := hval0
  have hW' := hW
  obtain ⟨p, q, hA0, hV, rfl, hfz, hnd⟩ := hW
  have hA : DataW.TrodAll enc Try.prog W 0 (fun _ => true) true Try.f5.params.toList args.toList ds p := hA0
  rw [Try.params5] at hA hval
  obtain ⟨v0, vs0, d0, ds0, p0, q0, hargs, rfl, rfl, h0, r0⟩ := trodAll_cons hA
  obtain ⟨v1, vs1, d1, ds1, p1, q1, rfl, rfl, rfl, h1, r1⟩ := trodAll_cons r0
  obtain ⟨v2, vs2, d2, ds2, p2, q2, rfl, rfl, rfl, h2, r2⟩ := trodAll_cons r1
  obtain ⟨v3, vs3, d3, ds3, p3, q3, rfl, rfl, rfl, h3, r3⟩ := trodAll_cons r2
  obtain ⟨rfl, rfl, rfl⟩ := trodAll_nil r3
  obtain rfl : args = #[v0, v1, v2, v3] := by cases args; simp_all
  obtain ⟨rfl, rfl⟩ := trodVars_none hV
  have k0 := h0
  have lt0 : ∀ x ∈ p0, x.block < W.heap.size := by obtain ⟨m, hm⟩ := k0; exact DataW.trod_lt m _ _ _ hm
  have k1 := h1
  have lt1 : ∀ x ∈ p1, x.block < W.heap.size := by obtain ⟨m, hm⟩ := k1; exact DataW.trod_lt m _ _ _ hm
  have k2 := h2
  have lt2 : ∀ x ∈ p2, x.block < W.heap.size := by obtain ⟨m, hm⟩ := k2; exact DataW.trod_lt m _ _ _ hm
  have k3 := h3
  have lt3 : ∀ x ∈ p3, x.block < W.heap.size := by obtain ⟨m, hm⟩ := k3; exact DataW.trod_lt m _ _ _ hm
  obtain ⟨a0, rfl, _, _, w0⟩ := open_int Try.underlying3 (hval 0 3 v0 rfl rfl) h0
  obtain ⟨a1, rfl, _, _, w1⟩ := open_int Try.underlying22 (hval 1 22 v1 rfl rfl) h1
  obtain ⟨a2, len2, cap2, rfl⟩ := okWide_slice Try.underlying38 (hval 2 38 v2 rfl rfl)
  obtain ⟨z2, w2⟩ : ∃ zs, IsTriples .i64 .i64 .u64 W a2 len2 zs := by
    obtain ⟨fuel, hf⟩ := h2
    exact open_triples Try.underlying38 Try.underlying46 (by kernel_rfl) rfl rfl rfl (by kernel_rfl) (by kernel_rfl) (by kernel_rfl) Try.underlying3 Try.underlying3 Try.underlying22 (by simpa [Value.cells] using hf)
  obtain ⟨q0, q1, q2, q3, q4, q5, rfl, ⟨wq0, wq1, wq2⟩, wq3, wq4, wq5⟩ := open_two3 Try.underlying49 Try.underlying46 (by kernel_rfl) (by kernel_rfl) rfl rfl rfl (by kernel_rfl) (by kernel_rfl) (by kernel_rfl) Try.underlying3 Try.underlying3 Try.underlying22 (hval 3 49 v3 rfl rfl) h3
  clear hA0 hval0
  refine (whole a0 a1 q0 q1 q2 q3 q4 q5 a2 len2 cap2 z2 W w1 wq2 wq5 w2).mono fun e W' ⟨he, bel⟩ => ?_
  subst he
  exact ⟨_, rfl, _, _, _, [], _, [], hW', trodAll_mk1 (shut_bool Try.underlying4 _), (trodAll_cons_mk (Below.trod laidOut (by kernel_rfl) (of_decide_eq_true (by kernel_rfl)) k0 bel lt0) (trodAll_cons_mk (Below.trod laidOut (by kernel_rfl) (of_decide_eq_true (by kernel_rfl)) k1 bel lt1) (trodAll_cons_mk (Below.trod laidOut (by kernel_rfl) (of_decide_eq_true (by kernel_rfl)) k2 bel lt2) (trodAll_cons_mk (Below.trod laidOut (by kernel_rfl) (of_decide_eq_true (by kernel_rfl)) k3 bel lt3) trodAll_mk0)))), rfl, bel.frame _, fun h => by cases h⟩

theorem over : Rows.ringCopiesRow.holds Try.pinned (OpenSpec.ofChange Rows.ringCopiesSpec) :=
  OpenClaim.holds_of_wide 5 Try.f5 rfl rfl rfl rfl rfl rfl rfl ⟨rfl, rfl, rfl, rfl, rfl⟩ rfl rfl rfl rfl rfl (by kernel_rfl) Try.func5 (by kernel_rfl)
    (of_decide_eq_true (by kernel_rfl)) (by unfold Func.isWrapper; first | (rw [if_pos (by decide +kernel)]; kernel_rfl) | (rw [if_neg (by decide +kernel)]; exact ⟨rfl, rfl⟩))
    (fun os started H enc _ => lifted os started H enc)

theorem proved : Rows.RingCopiesSaid := over
#print axioms proved
end Go.Proofs.Ythiajgkifoimcaa.ringCopies
