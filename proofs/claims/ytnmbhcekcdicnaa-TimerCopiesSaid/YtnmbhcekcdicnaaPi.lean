/-
  TimerCopies answers true for every input, and leaves every argument as it was. No condition.
-/
import Derived.Test.YtnmbhcekcdicnaaPh
import Derived.WalkKit
import Derived.ProofKit
import Derived.OpenShut
import Derived.ShutString
import Derived.ChangeOld
import Derived.Below
import Derived.Lib.SmallJoins
import Derived.Deep.Slices
import Derived.Deep.Fields
import Derived.Deep.SlicePairs
import Derived.Deep.Strs

namespace Go.Proofs.Ytnmbhcekcdicnaa.timerCopies
open Go.ChangeShapes Go.WideShapes Go.ChangeAt Go.RowKit Go.Joins Go.Deep
open Go.ChangeMaps (open_string shut_string)
set_option linter.unusedVariables false
set_option linter.unusedSimpArgs false

theorem own : ownKnob Try.prog.godebug = none := by kernel_rfl
theorem laidOut : laidOutB Try.prog = true := by kernel_rfl

theorem act_cells {H : Type} {enc : TypeId × Value → H} {w : World} {base : Nat} {spare : Nat → Bool} {held : Bool} {fuel : Nat} {v0 v1 v2 v3 : Value} {x : DataW H × List MemPlace} (h : DataW.trod enc Try.prog w base spare held fuel 28 [v0, v1, v2, v3] = some x) :
    ∃ s : Int × Int × Int × Int, v0 = .int .i64 s.1 ∧ v1 = .int .i64 s.2.1 ∧ v2 = .int .u64 s.2.2.1 ∧ v3 = .int .u64 s.2.2.2 ∧ (Lit.int .i64 s.2.1).wf = true ∧ (Lit.int .u64 s.2.2.1).wf = true ∧ (Lit.int .u64 s.2.2.2).wf = true := by
  obtain ⟨z0, z1, z2, n0, _, _, g0, g1, g2⟩ := trod_struct3 Try.underlying28 h
  have ca : Try.prog.cellsOf 3 = 1 := by kernel_rfl
  have cb : Try.prog.cellsOf 26 = 2 := by kernel_rfl
  have cc : Try.prog.cellsOf 24 = 1 := by kernel_rfl
  have cd : Try.prog.cellsOf 23 = 1 := by kernel_rfl
  simp [ca, cb, cc] at g0 g1 g2
  obtain ⟨t0, t1, n1, _, _, q0, q1⟩ := trod_struct2 Try.underlying26 g1
  simp [cd, cc] at q0 q1
  obtain ⟨s0, e0, _, b0⟩ := DataW.trod_int Try.underlying3 g0
  obtain ⟨s1, e1, _, b1⟩ := DataW.trod_int Try.underlying23 q0
  obtain ⟨s2, e2, _, b2⟩ := DataW.trod_int Try.underlying24 q1
  obtain ⟨s3, e3, _, b3⟩ := DataW.trod_int Try.underlying24 g2
  simp only [List.cons.injEq, and_true] at e0 e1 e2 e3
  exact ⟨(s0, s1, s2, s3), e0, e1, e2, e3, b1, b2, b3⟩
theorem open_acts {H : Type} {enc : TypeId × Value → H} {w : World} {base : Nat} {held : Bool} {fuel : Nat} {a : Option Addr} {len cap : Nat} {x : DataW H × List MemPlace}
    (h : DataW.trod enc Try.prog w base (fun _ => true) held fuel 22 [.slice a len cap] = some x) : len ≤ maxLen ∧ ∃ z, AArg w a len z := by
  rcases open_slice Try.underlying22 h with ⟨hcs, _⟩ | ⟨y, l, c, m, n, D, Pl, hcs, _, hl, hm, hmm, _, hx⟩
  · simp at hcs
    obtain ⟨rfl, rfl, rfl⟩ := hcs
    exact ⟨by simp [maxLen], fun _ => (0, 0, 0, 0), fun h => by omega⟩
  · simp at hcs
    obtain ⟨rfl, rfl, rfl⟩ := hcs
    have hmc : m = cap := by simpa using hmm
    subst hmc
    have ce : Try.prog.cellsOf 28 = 4 := by kernel_rfl
    rw [ce] at hx
    have each : ∀ i, i < m → ∃ q : Int × Int × Int × Int, w.cell? (y.add (i * 4)) = some (.int .i64 q.1) ∧ w.cell? (y.add (i * 4 + 1)) = some (.int .i64 q.2.1) ∧ w.cell? (y.add (i * 4 + 2)) = some (.int .u64 q.2.2.1) ∧ w.cell? (y.add (i * 4 + 3)) = some (.int .u64 q.2.2.2) ∧ (Lit.int .i64 q.2.1).wf = true ∧ (Lit.int .u64 q.2.2.1).wf = true ∧ (Lit.int .u64 q.2.2.2).wf = true := by
      intro i hi
      obtain ⟨cs', h1, h2⟩ := hx i hi
      obtain ⟨_, hlen, hcell⟩ := World.cells?_some h1
      match cs', hlen with
      | [v0, v1, v2, v3], _ =>
        obtain ⟨s, rfl, rfl, rfl, rfl, b1, b2, b3⟩ := act_cells h2
        have q0 := hcell 0 (by omega)
        have q1 := hcell 1 (by omega)
        have q2 := hcell 2 (by omega)
        have q3 := hcell 3 (by omega)
        rw [add_add] at q0 q1 q2 q3
        exact ⟨s, by simpa using q0, by simpa using q1, by simpa using q2, by simpa using q3, b1, b2, b3⟩
    obtain ⟨q, hq⟩ := choose_lt each
    refine ⟨by omega, q, fun hpos => ?_⟩
    obtain ⟨b, off, spot⟩ := y
    obtain rfl : spot = none := by simpa [Addr.add] using World.cell?_spot (hq 0 (by omega)).1
    have hb0 := (hq 0 (by omega)).1
    rw [add_plain] at hb0
    refine ⟨b, off, rfl, World.block_lt_of_cell? w _ hb0, fun j hj => ?_⟩
    obtain ⟨g0, g1, g2, g3, g4, g5, g6⟩ := hq j (by omega)
    rw [add_plain] at g0 g1 g2 g3
    exact ⟨⟨g0, by rw [Nat.add_assoc]; exact g1, by rw [Nat.add_assoc]; exact g2, by rw [Nat.add_assoc]; exact g3⟩, bounds_i64 g4, bounds_u64 g5, bounds_u64 g6⟩

set_option maxRecDepth 100000 in
theorem open_twoact {H : Type} {enc : TypeId × Value → H} {w : World} {base b0 : Nat} {r : Reach} {held : Bool} {spare : Nat → Bool} {v : Value} {d : DataW H} {p : List MemPlace}
    (hv : Value.okWide Try.prog w r b0 48 v) (h : DataW.Trod enc Try.prog w base spare held 48 v d p) :
    ∃ s t : Int × Int × Int × Int, v = .agg #[.int .i64 s.1, .int .i64 s.2.1, .int .u64 s.2.2.1, .int .u64 s.2.2.2, .int .i64 t.1, .int .i64 t.2.1, .int .u64 t.2.2.1, .int .u64 t.2.2.2] ∧ ((Lit.int .i64 s.2.1).wf = true ∧ (Lit.int .u64 s.2.2.1).wf = true ∧ (Lit.int .u64 s.2.2.2).wf = true) ∧ (Lit.int .i64 t.2.1).wf = true ∧ (Lit.int .u64 t.2.2.1).wf = true ∧ (Lit.int .u64 t.2.2.2).wf = true := by
  simp only [Value.okWide, Try.underlying48] at hv
  obtain ⟨cs, rfl, hsz, _⟩ := hv
  have ct : Try.prog.cellsOf 48 = 8 := by kernel_rfl
  have ce : Try.prog.cellsOf 28 = 4 := by kernel_rfl
  rw [ct] at hsz
  obtain ⟨l⟩ := cs
  match l, hsz with
  | [x0, x1, x2, x3, x4, x5, x6, x7], _ =>
    obtain ⟨fuel, hf⟩ := h
    obtain ⟨xs, m, _, _, _, hxl, hx⟩ := DataW.trod_array Try.underlying48 hf
    have g0 := hx 0 (by omega)
    have g1 := hx 1 (by omega)
    rw [ce] at g0 g1
    match xs, hxl with
    | [y0, y1], _ =>
      simp [Value.cells] at g0 g1
      obtain ⟨s, rfl, rfl, rfl, rfl, b1, b2, b3⟩ := act_cells g0
      obtain ⟨t, rfl, rfl, rfl, rfl, c1, c2, c3⟩ := act_cells g1
      exact ⟨s, t, rfl, ⟨b1, b2, b3⟩, c1, c2, c3⟩

theorem whole (most : Int) (ao : Option Addr) (n ca : Nat) (z : Nat → Int × Int × Int × Int) (x y : Int × Int × Int × Int) (b : Bool) (w : World) (hn : n ≤ maxLen) (ha : AArg w ao n z)
    (xk : (Lit.int .i64 x.2.1).wf = true) (xi : (Lit.int .u64 x.2.2.1).wf = true) (xn : (Lit.int .u64 x.2.2.2).wf = true) (yk : (Lit.int .i64 y.2.1).wf = true) (yi : (Lit.int .u64 y.2.2.1).wf = true) (yn : (Lit.int .u64 y.2.2.2).wf = true) :
    Calls Try.prog 4 #[.int .i64 most, .slice ao n ca, .agg #[.int .i64 x.1, .int .i64 x.2.1, .int .u64 x.2.2.1, .int .u64 x.2.2.2, .int .i64 y.1, .int .i64 y.2.1, .int .u64 y.2.2.1, .int .u64 y.2.2.2], .bool b] w fun e w' => e = .returned (.bool true) ∧ Below w.heap.size w w' := by
  have h1 := bounds_i64 xk
  have h2 := bounds_u64 xi
  have h3 := bounds_u64 xn
  have h4 := bounds_i64 yk
  have h5 := bounds_u64 yi
  have h6 := bounds_u64 yn
  by_cases hout : 40 < n
  · exact copies_out most ao n ca _ _ _ _ _ _ _ _ b w hout hn
  · by_cases hl : most < 1
    · exact copies_low most ao n ca _ _ _ _ _ _ _ _ b w (by omega) hl hn
    · by_cases hh : 8192 < most
      · exact copies_high most ao n ca _ _ _ _ _ _ _ _ b w (by omega) hh hn
      · exact copies_in most ao n ca _ _ _ _ _ _ _ _ b z w (by omega) (by omega) (by omega) ha h1.1 h1.2 h2.1 h2.2 h3.1 h3.2 h4.1 h4.2 h5.1 h5.2 h6.1 h6.2

set_option maxRecDepth 100000 in
theorem lifted (os : Os) (started : os.Started) (H : Type) (enc : TypeId × Value → H) :
    ReturnsInHanded {} Try.checked os 4 .any (Rows.timerCopiesSpec.pre6 enc Try.prog Try.f4 Rows.timerCopiesRow.domain false) (Rows.timerCopiesSpec.post enc Try.prog Try.f4 false true false false) := by
  refine returnsInHanded_of_change (C := Try.checked) own started (by kernel_rfl) Try.func4
    (ChangeSpec.witness6 (enc := enc) (C := Try.checked) false ⟨#[], #[.int .i64 0, .slice none 0 0, .agg #[.int .i64 0, .int .i64 0, .int .u64 0, .int .u64 0, .int .i64 0, .int .i64 0, .int .u64 0, .int .u64 0], .bool false], []⟩ 8 (by kernel_rfl) (by kernel_rfl) (by kernel_rfl) (by kernel_rfl)) ?_
  intro W base args ds gs before hval0 hW hcnd _
  have hval : ∀ (j : Nat) t v, Try.f4.params[j]? = some t → args[j]? = some v → Value.okWide Try.prog W .any base t v := hval0
  have hW' := hW
  obtain ⟨p, q, hA0, hV, rfl, hfz, hnd⟩ := hW
  have hA : DataW.TrodAll enc Try.prog W 0 (fun _ => true) true Try.f4.params.toList args.toList ds p := hA0
  
  rw [Try.params4] at hA hval
  obtain ⟨v0, vs0, d0, ds0, p0, q0, hargs, rfl, rfl, h0, r0⟩ := trodAll_cons hA
  obtain ⟨v1, vs1, d1, ds1, p1, q1, rfl, rfl, rfl, h1, r1⟩ := trodAll_cons r0
  obtain ⟨v2, vs2, d2, ds2, p2, q2, rfl, rfl, rfl, h2, r2⟩ := trodAll_cons r1
  obtain ⟨v3, vs3, d3, ds3, p3, q3, rfl, rfl, rfl, h3, r3⟩ := trodAll_cons r2
  obtain ⟨rfl, rfl, rfl⟩ := trodAll_nil r3
  obtain rfl : args = #[v0, v1, v2, v3] := by cases args; simp_all
  obtain ⟨rfl, rfl⟩ := trodVars_none hV
  have k0 := h0
  have lt0 : ∀ x ∈ p0, x.block < W.heap.size := by obtain ⟨m, hm⟩ := k0; exact DataW.trod_lt m _ _ _ hm
  have k1 := h1
  have lt1 : ∀ x ∈ p1, x.block < W.heap.size := by obtain ⟨m, hm⟩ := k1; exact DataW.trod_lt m _ _ _ hm
  have k2 := h2
  have lt2 : ∀ x ∈ p2, x.block < W.heap.size := by obtain ⟨m, hm⟩ := k2; exact DataW.trod_lt m _ _ _ hm
  have k3 := h3
  have lt3 : ∀ x ∈ p3, x.block < W.heap.size := by obtain ⟨m, hm⟩ := k3; exact DataW.trod_lt m _ _ _ hm
  obtain ⟨a0, rfl, _, _, w0⟩ := open_int Try.underlying3 (hval 0 3 v0 rfl rfl) h0
  obtain ⟨a1, len1, cap1, rfl⟩ := okWide_slice Try.underlying22 (hval 1 22 v1 rfl rfl)
  obtain ⟨hl1, z1, w1⟩ : len1 ≤ maxLen ∧ ∃ z, AArg W a1 len1 z := by
    obtain ⟨fuel, hf⟩ := h1
    exact open_acts (by simpa [Value.cells] using hf)
  obtain ⟨s2, t2, rfl, ⟨wk2, wi2, wn2⟩, wk3, wi3, wn3⟩ := open_twoact (hval 2 48 v2 rfl rfl) h2
  obtain ⟨b3, rfl⟩ := okWide_bool Try.underlying4 (hval 3 4 v3 rfl rfl)
  clear hA0 hval0
  refine (whole a0 a1 len1 cap1 z1 s2 t2 b3 W hl1 w1 wk2 wi2 wn2 wk3 wi3 wn3).mono fun e W' ⟨he, bel⟩ => ?_
  subst he
  exact ⟨_, rfl, _, _, _, [], _, [], hW', trodAll_mk1 (shut_bool Try.underlying4 _), (trodAll_cons_mk (Below.trod laidOut (by kernel_rfl) (of_decide_eq_true (by kernel_rfl)) k0 bel lt0) (trodAll_cons_mk (Below.trod laidOut (by kernel_rfl) (of_decide_eq_true (by kernel_rfl)) k1 bel lt1) (trodAll_cons_mk (Below.trod laidOut (by kernel_rfl) (of_decide_eq_true (by kernel_rfl)) k2 bel lt2) (trodAll_cons_mk (Below.trod laidOut (by kernel_rfl) (of_decide_eq_true (by kernel_rfl)) k3 bel lt3) trodAll_mk0)))), rfl, bel.frame _, fun h => by cases h⟩

theorem over : Rows.timerCopiesRow.holds Try.pinned (OpenSpec.ofChange Rows.timerCopiesSpec) :=
  OpenClaim.holds_of_wide 4 Try.f4 rfl rfl rfl rfl rfl rfl rfl ⟨rfl, rfl, rfl, rfl, rfl⟩ rfl rfl rfl rfl rfl (by kernel_rfl) Try.func4 (by kernel_rfl)
    (of_decide_eq_true (by kernel_rfl)) (by unfold Func.isWrapper; first | (rw [if_pos (by decide +kernel)]; kernel_rfl) | (rw [if_neg (by decide +kernel)]; exact ⟨rfl, rfl⟩))
    (fun os started H enc _ => lifted os started H enc)

theorem proved : Rows.TimerCopiesSaid := over
#print axioms proved
end Go.Proofs.Ytnmbhcekcdicnaa.timerCopies
