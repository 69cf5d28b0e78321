/-
  BackoffCopies answers true for every input, and leaves every argument as it was. No condition.
-/
import Derived.Test.YtkoppmnofloefaaX
import Derived.WalkKit
import Derived.ProofKit
import Derived.OpenShut
import Derived.ShutString
import Derived.ChangeOld
import Derived.Below
import Derived.Lib.SmallJoins
import Derived.Deep.Slices
import Derived.Deep.Fields
import Derived.Deep.SlicePairs
namespace Go.Proofs.Ytkoppmnofloefaa.backoffCopies
open Go.ChangeShapes Go.WideShapes Go.ChangeAt Go.RowKit Go.Joins Go.Deep
open Go.ChangeMaps (open_string shut_string)
set_option linter.unusedVariables false
set_option linter.unusedSimpArgs false

theorem own : ownKnob Try.prog.godebug = none := by kernel_rfl
theorem laidOut : laidOutB Try.prog = true := by kernel_rfl
/-- A slice of pairs of integers that came in. -/
def IsPairs (k0 k1 : IntKind) (w : World) (a : Option Addr) (len : Nat) (zs : List (Int × Int)) : Prop :=
  len ≤ maxLen ∧ len ≤ zs.length ∧ (0 < len → ∃ b off, a = some ⟨b, off, none⟩ ∧ b < w.heap.size ∧ ∀ j, j < len → w.cell? ⟨b, off + j * 2, none⟩ = some (.int k0 (zs.getD j (0, 0)).1) ∧ w.cell? ⟨b, off + j * 2 + 1, none⟩ = some (.int k1 (zs.getD j (0, 0)).2) ∧ (Lit.int k0 (zs.getD j (0, 0)).1).wf = true ∧ (Lit.int k1 (zs.getD j (0, 0)).2).wf = true)
theorem open_pairs {H : Type} {enc : TypeId × Value → H} {P : Program} {w : World} {base : Nat} {held : Bool} {t e : TypeId} {f0 f1 : Field} {k0 k1 : IntKind} {fuel : Nat} {a : Option Addr} {len cap : Nat} {x : DataW H × List MemPlace} (ht : P.underlying t = some (.slice e)) (he : P.underlying e = some (.struct #[f0, f1]))
    (ce : P.cellsOf e = 2) (o0 : f0.offset = 0) (o1 : f1.offset = 1) (c0 : P.cellsOf f0.type = 1) (c1 : P.cellsOf f1.type = 1) (u0 : P.underlying f0.type = some (.int k0)) (u1 : P.underlying f1.type = some (.int k1))
    (h : DataW.trod enc P w base (fun _ => true) held fuel t [.slice a len cap] = some x) : ∃ zs, IsPairs k0 k1 w a len zs := by
  rcases open_slice_pairs ht he ce o0 o1 c0 c1 h with ⟨hcs, _⟩ | ⟨y, l, c, m, n, V0, V1, D0, D1, P0, P1, hcs, _, hl, hm, hmm, _, hx⟩
  · simp at hcs
    obtain ⟨rfl, rfl, rfl⟩ := hcs
    exact ⟨[], by simp [maxLen], by simp, fun h => by omega⟩
  · simp at hcs
    obtain ⟨rfl, rfl, rfl⟩ := hcs
    have hmc : m = cap := by simpa using hmm
    subst hmc
    have each : ∀ i, i < m → ∃ q : Int × Int, w.cell? (y.add (i * 2)) = some (.int k0 q.1) ∧ w.cell? (y.add (i * 2 + 1)) = some (.int k1 q.2) ∧ (Lit.int k0 q.1).wf = true ∧ (Lit.int k1 q.2).wf = true := by
      intro i hi
      obtain ⟨g0, g1, g2, g3⟩ := hx i hi
      obtain ⟨s0, e0, _, b0⟩ := DataW.trod_int u0 g2
      obtain ⟨s1, e1, _, b1⟩ := DataW.trod_int u1 g3
      simp only [List.cons.injEq, and_true] at e0 e1
      exact ⟨(s0, s1), by rw [g0, e0], by rw [g1, e1], b0, b1⟩
    obtain ⟨q, hq⟩ := choose_lt each
    refine ⟨(List.range len).map q, by omega, by simp, fun hpos => ?_⟩
    obtain ⟨b, off, spot⟩ := y
    obtain rfl : spot = none := by simpa [Addr.add] using World.cell?_spot (hq 0 (by omega)).1
    have hb0 := (hq 0 (by omega)).1
    rw [add_plain] at hb0
    refine ⟨b, off, rfl, World.block_lt_of_cell? w _ hb0, fun j hj => ?_⟩
    have hz : ((List.range len).map q).getD j (0, 0) = q j := by simp [List.getD, hj]
    obtain ⟨g0, g1, g2, g3⟩ := hq j (by omega)
    rw [add_plain] at g0 g1
    rw [hz]
    exact ⟨g0, by rw [Nat.add_assoc]; exact g1, g2, g3⟩
/-- An array of two pairs of integers that came in. -/
theorem open_two {H : Type} {enc : TypeId × Value → H} {P : Program} {w : World} {base b0 : Nat} {r : Reach} {held : Bool} {spare : Nat → Bool} {t e : TypeId} {f0 f1 : Field} {k0 k1 : IntKind} {v : Value} {d : DataW H} {p : List MemPlace} (ht : P.underlying t = some (.array 2 e)) (he : P.underlying e = some (.struct #[f0, f1]))
    (ct : P.cellsOf t = 4) (ce : P.cellsOf e = 2) (o0 : f0.offset = 0) (o1 : f1.offset = 1) (c0 : P.cellsOf f0.type = 1) (c1 : P.cellsOf f1.type = 1) (u0 : P.underlying f0.type = some (.int k0)) (u1 : P.underlying f1.type = some (.int k1))
    (hv : Value.okWide P w r b0 t v) (h : DataW.Trod enc P w base spare held t v d p) :
    ∃ s0 s1 s2 s3 : Int, v = .agg #[.int k0 s0, .int k1 s1, .int k0 s2, .int k1 s3] ∧ (Lit.int k0 s0).wf = true ∧ (Lit.int k1 s1).wf = true ∧ (Lit.int k0 s2).wf = true ∧ (Lit.int k1 s3).wf = true := by
  simp only [Value.okWide, ht] at hv
  obtain ⟨cs, rfl, hsz, _⟩ := hv
  rw [ct] at hsz
  obtain ⟨l⟩ := cs
  match l, hsz with
  | [x0, x1, x2, x3], _ =>
    obtain ⟨fuel, hf⟩ := h
    obtain ⟨xs, m, _, _, _, hxl, hx⟩ := DataW.trod_array ht hf
    have g0 := hx 0 (by omega)
    have g1 := hx 1 (by omega)
    rw [ce] at g0 g1
    match xs, hxl with
    | [y0, y1], _ =>
      simp [Value.cells] at g0 g1
      obtain ⟨z0, z1, n0, _, _, q0, q1⟩ := trod_struct2 he g0
      obtain ⟨z2, z3, n1, _, _, q2, q3⟩ := trod_struct2 he g1
      simp [o0, o1, c0, c1] at q0 q1 q2 q3
      obtain ⟨s0, e0, _, b0⟩ := DataW.trod_int u0 q0
      obtain ⟨s1, e1, _, b1⟩ := DataW.trod_int u1 q1
      obtain ⟨s2, e2, _, b2⟩ := DataW.trod_int u0 q2
      obtain ⟨s3, e3, _, b3⟩ := DataW.trod_int u1 q3
      simp only [List.cons.injEq, and_true] at e0 e1 e2 e3
      subst e0 e1 e2 e3
      exact ⟨s0, s1, s2, s3, rfl, b0, b1, b2, b3⟩

theorem acts {w : World} {ao : Option Addr} {n : Nat} {zs : List (Int × Int)} (h : IsPairs .i64 .u64 w ao n zs) : Acts w ao n zs := by
  obtain ⟨_, h1, h2⟩ := h
  refine ⟨h1, fun hp => ?_⟩
  obtain ⟨b, off, e, hb, hc⟩ := h2 hp
  exact ⟨b, off, e, hb, fun j hj => ⟨(hc j hj).1, (hc j hj).2.1, (bounds_u64 (hc j hj).2.2.2).1⟩⟩

theorem whole (L M J L' M' J' s0 d0 s1 d1 : Int) (ao : Option Addr) (n cap : Nat) (zs : List (Int × Int)) (w : World) (wJ : (Lit.int .u64 J).wf = true) (wJ' : (Lit.int .u64 J').wf = true) (wd0 : (Lit.int .u64 d0).wf = true) (wd1 : (Lit.int .u64 d1).wf = true) (h : IsPairs .i64 .u64 w ao n zs) :
    Calls Try.prog 5 #[.agg #[.int .u64 L, .int .u64 M, .int .u64 J], .agg #[.int .u64 L', .int .u64 M', .int .u64 J'], .slice ao n cap, .agg #[.int .i64 s0, .int .u64 d0, .int .i64 s1, .int .u64 d1]] w fun e w' => e = .returned (.bool true) ∧ Below w.heap.size w w' := by
  by_cases hout : 80 < n
  · exact copies_out L M J L' M' J' s0 d0 s1 d1 ao n cap w h.1 hout
  · cases ho : okW L M J with
    | false => exact copies_bad L M J L' M' J' s0 d0 s1 d1 ao n cap w (by omega) (.inl ho)
    | true =>
      cases ho' : okW L' M' J' with
      | false => exact copies_bad L M J L' M' J' s0 d0 s1 d1 ao n cap w (by omega) (.inr ⟨ho, ho'⟩)
      | true => exact copies_in L M J L' M' J' s0 d0 s1 d1 ao n cap zs w (by omega) ho ho' (bounds_u64 wJ).1 (bounds_u64 wJ').1 (bounds_u64 wd0).1 (bounds_u64 wd1).1 (acts h)

set_option maxRecDepth 100000 in
theorem lifted (os : Os) (started : os.Started) (H : Type) (enc : TypeId × Value → H) :
    ReturnsInHanded {} Try.checked os 5 .any (Rows.backoffCopiesSpec.pre6 enc Try.prog Try.f5 Rows.backoffCopiesRow.domain false) (Rows.backoffCopiesSpec.post enc Try.prog Try.f5 false true false false) := by
  refine returnsInHanded_of_change (C := Try.checked) own started (by kernel_rfl) Try.func5
    (ChangeSpec.witness6 (enc := enc) (C := Try.checked) false ⟨#[], #[.agg #[.int .u64 0, .int .u64 0, .int .u64 0], .agg #[.int .u64 0, .int .u64 0, .int .u64 0], .slice none 0 0, .agg #[.int .i64 0, .int .u64 0, .int .i64 0, .int .u64 0]], []⟩ 8 (by kernel_rfl) (by kernel_rfl) (by kernel_rfl) (by kernel_rfl)) ?_
  intro W base args ds gs before hval0 hW hcnd _
  have hval : ∀ (j : Nat) t v, Try.f5.params[j]? = some t → args[j]? = some v → Value.okWide Try.prog W .any base t v := hval0
  have hW' := hW
  obtain ⟨p, q, hA0, hV, rfl, hfz, hnd⟩ := hW
  have hA : DataW.TrodAll enc Try.prog W 0 (fun _ => true) true Try.f5.params.toList args.toList ds p := hA0
  rw [Try.params5] at hA hval
  obtain ⟨v0, vs0, d0, ds0, p0, q0, hargs, rfl, rfl, h0, r0⟩ := trodAll_cons hA
  obtain ⟨v1, vs1, d1, ds1, p1, q1, rfl, rfl, rfl, h1, r1⟩ := trodAll_cons r0
  obtain ⟨v2, vs2, d2, ds2, p2, q2, rfl, rfl, rfl, h2, r2⟩ := trodAll_cons r1
  obtain ⟨v3, vs3, d3, ds3, p3, q3, rfl, rfl, rfl, h3, r3⟩ := trodAll_cons r2
  obtain ⟨rfl, rfl, rfl⟩ := trodAll_nil r3
  obtain rfl : args = #[v0, v1, v2, v3] := by cases args; simp_all
  obtain ⟨rfl, rfl⟩ := trodVars_none hV
  have k0 := h0
  have lt0 : ∀ x ∈ p0, x.block < W.heap.size := by obtain ⟨m, hm⟩ := k0; exact DataW.trod_lt m _ _ _ hm
  have k1 := h1
  have lt1 : ∀ x ∈ p1, x.block < W.heap.size := by obtain ⟨m, hm⟩ := k1; exact DataW.trod_lt m _ _ _ hm
  have k2 := h2
  have lt2 : ∀ x ∈ p2, x.block < W.heap.size := by obtain ⟨m, hm⟩ := k2; exact DataW.trod_lt m _ _ _ hm
  have k3 := h3
  have lt3 : ∀ x ∈ p3, x.block < W.heap.size := by obtain ⟨m, hm⟩ := k3; exact DataW.trod_lt m _ _ _ hm
  obtain ⟨c00, c10, c20, y00, y10, y20, m0, rfl, _, _, hy00, hy10, hy20⟩ := open_agg3 Try.underlying24 (by kernel_rfl) (by kernel_rfl) (hval 0 24 v0 rfl rfl) h0
  obtain ⟨L, e0, _, wL⟩ := DataW.trod_int Try.underlying22 hy00
  obtain ⟨M, e1, _, wM⟩ := DataW.trod_int Try.underlying22 hy10
  obtain ⟨J, e2, _, wJ⟩ := DataW.trod_int Try.underlying22 hy20
  simp only [List.cons.injEq, and_true] at e0 e1 e2
  subst e0 e1 e2
  obtain ⟨c01, c11, c21, y01, y11, y21, m1, rfl, _, _, hy01, hy11, hy21⟩ := open_agg3 Try.underlying24 (by kernel_rfl) (by kernel_rfl) (hval 1 24 v1 rfl rfl) h1
  obtain ⟨L', e0, _, wL'⟩ := DataW.trod_int Try.underlying22 hy01
  obtain ⟨M', e1, _, wM'⟩ := DataW.trod_int Try.underlying22 hy11
  obtain ⟨J', e2, _, wJ'⟩ := DataW.trod_int Try.underlying22 hy21
  simp only [List.cons.injEq, and_true] at e0 e1 e2
  subst e0 e1 e2
  obtain ⟨a2, len2, cap2, rfl⟩ := okWide_slice Try.underlying35 (hval 2 35 v2 rfl rfl)
  obtain ⟨z2, w2⟩ : ∃ zs, IsPairs .i64 .u64 W a2 len2 zs := by
    obtain ⟨fuel, hf⟩ := h2
    exact open_pairs Try.underlying35 Try.underlying43 (by kernel_rfl) rfl rfl (by kernel_rfl) (by kernel_rfl) Try.underlying3 Try.underlying22 (by simpa [Value.cells] using hf)
  obtain ⟨s0, d0_, s1, d1_, rfl, ws0, wd0, ws1, wd1⟩ := open_two Try.underlying46 Try.underlying43 (by kernel_rfl) (by kernel_rfl) rfl rfl (by kernel_rfl) (by kernel_rfl) Try.underlying3 Try.underlying22 (hval 3 46 v3 rfl rfl) h3
  clear hA0 hval0
  refine (whole L M J L' M' J' s0 d0_ s1 d1_ a2 len2 cap2 z2 W wJ wJ' wd0 wd1 w2).mono fun e W' ⟨he, bel⟩ => ?_
  subst he
  exact ⟨_, rfl, _, _, _, [], _, [], hW', trodAll_mk1 (shut_bool Try.underlying4 _), (trodAll_cons_mk (Below.trod laidOut (by kernel_rfl) (of_decide_eq_true (by kernel_rfl)) k0 bel lt0) (trodAll_cons_mk (Below.trod laidOut (by kernel_rfl) (of_decide_eq_true (by kernel_rfl)) k1 bel lt1) (trodAll_cons_mk (Below.trod laidOut (by kernel_rfl) (of_decide_eq_true (by kernel_rfl)) k2 bel lt2) (trodAll_cons_mk (Below.trod laidOut (by kernel_rfl) (of_decide_eq_true (by kernel_rfl)) k3 bel lt3) trodAll_mk0)))), rfl, bel.frame _, fun h => by cases h⟩

theorem over : Rows.backoffCopiesRow.holds Try.pinned (OpenSpec.ofChange Rows.backoffCopiesSpec) :=
  OpenClaim.holds_of_wide 5 Try.f5 rfl rfl rfl rfl rfl rfl rfl ⟨rfl, rfl, rfl, rfl, rfl⟩ rfl rfl rfl rfl rfl (by kernel_rfl) Try.func5 (by kernel_rfl)
    (of_decide_eq_true (by kernel_rfl)) (by unfold Func.isWrapper; first | (rw [if_pos (by decide +kernel)]; kernel_rfl) | (rw [if_neg (by decide +kernel)]; exact ⟨rfl, rfl⟩))
    (fun os started H enc _ => lifted os started H enc)

theorem proved : Rows.BackoffCopiesSaid := over
#print axioms proved
end Go.Proofs.Ytkoppmnofloefaa.backoffCopies
