/-
  WindowShares answers true for every input, and leaves every argument as it was. No condition.
-/
import Derived.Test.YtagdenhcbafblaaSe
import Derived.WalkKit
import Derived.ProofKit
import Derived.OpenShut
import Derived.ShutString
import Derived.ChangeOld
import Derived.Below
import Derived.Lib.SmallJoins
import Derived.Deep.Slices
import Derived.Deep.Fields
import Derived.Deep.SlicePairs
import Derived.Deep.Strs
namespace Go.Proofs.Ytagdenhcbafblaa.windowShares
open Go.ChangeShapes Go.WideShapes Go.ChangeAt Go.RowKit Go.Joins Go.Deep
open Go.ChangeMaps (open_string shut_string)
set_option linter.unusedVariables false
set_option linter.unusedSimpArgs false

theorem own : ownKnob Try.prog.godebug = none := by kernel_rfl
theorem laidOut : laidOutB Try.prog = true := by kernel_rfl
/-- A slice of triples of integers that came in. -/
def IsTriples (k0 k1 k2 : IntKind) (w : World) (a : Option Addr) (len : Nat) (zs : List (Int × Int × Int)) : Prop :=
  len ≤ maxLen ∧ len ≤ zs.length ∧ (0 < len → ∃ b off, a = some ⟨b, off, none⟩ ∧ b < w.heap.size ∧ ∀ j, j < len → w.cell? ⟨b, off + j * 3, none⟩ = some (.int k0 (zs.getD j (0, 0, 0)).1) ∧ w.cell? ⟨b, off + j * 3 + 1, none⟩ = some (.int k1 (zs.getD j (0, 0, 0)).2.1) ∧ w.cell? ⟨b, off + j * 3 + 2, none⟩ = some (.int k2 (zs.getD j (0, 0, 0)).2.2) ∧
    (Lit.int k0 (zs.getD j (0, 0, 0)).1).wf = true ∧ (Lit.int k1 (zs.getD j (0, 0, 0)).2.1).wf = true ∧ (Lit.int k2 (zs.getD j (0, 0, 0)).2.2).wf = true)
theorem open_triples {H : Type} {enc : TypeId × Value → H} {P : Program} {w : World} {base : Nat} {held : Bool} {t e : TypeId} {f0 f1 f2 : Field} {k0 k1 k2 : IntKind} {fuel : Nat} {a : Option Addr} {len cap : Nat} {x : DataW H × List MemPlace} (ht : P.underlying t = some (.slice e)) (he : P.underlying e = some (.struct #[f0, f1, f2]))
    (ce : P.cellsOf e = 3) (o0 : f0.offset = 0) (o1 : f1.offset = 1) (o2 : f2.offset = 2) (c0 : P.cellsOf f0.type = 1) (c1 : P.cellsOf f1.type = 1) (c2 : P.cellsOf f2.type = 1) (u0 : P.underlying f0.type = some (.int k0)) (u1 : P.underlying f1.type = some (.int k1)) (u2 : P.underlying f2.type = some (.int k2))
    (h : DataW.trod enc P w base (fun _ => true) held fuel t [.slice a len cap] = some x) : ∃ zs, IsTriples k0 k1 k2 w a len zs := by
  rcases open_slice ht h with ⟨hcs, _⟩ | ⟨y, l, c, m, n, D, Pl, hcs, _, hl, hm, hmm, _, hx⟩
  · simp at hcs
    obtain ⟨rfl, rfl, rfl⟩ := hcs
    exact ⟨[], by simp [maxLen], by simp, fun h => by omega⟩
  · simp at hcs
    obtain ⟨rfl, rfl, rfl⟩ := hcs
    have hmc : m = cap := by simpa using hmm
    subst hmc
    rw [ce] at hx
    have each : ∀ i, i < m → ∃ q : Int × Int × Int, w.cell? (y.add (i * 3)) = some (.int k0 q.1) ∧ w.cell? (y.add (i * 3 + 1)) = some (.int k1 q.2.1) ∧ w.cell? (y.add (i * 3 + 2)) = some (.int k2 q.2.2) ∧ (Lit.int k0 q.1).wf = true ∧ (Lit.int k1 q.2.1).wf = true ∧ (Lit.int k2 q.2.2).wf = true := by
      intro i hi
      obtain ⟨cs', h1, h2⟩ := hx i hi
      obtain ⟨_, hlen, hcell⟩ := World.cells?_some h1
      match cs', hlen with
      | [v0, v1, v2], _ =>
        obtain ⟨z0, z1, z2, n0, _, _, g0, g1, g2⟩ := trod_struct3 he h2
        simp [o0, o1, o2, c0, c1, c2] at g0 g1 g2
        obtain ⟨s0, e0, _, b0⟩ := DataW.trod_int u0 g0
        obtain ⟨s1, e1, _, b1⟩ := DataW.trod_int u1 g1
        obtain ⟨s2, e2, _, b2⟩ := DataW.trod_int u2 g2
        simp only [List.cons.injEq, and_true] at e0 e1 e2
        subst e0 e1 e2
        have q0 := hcell 0 (by omega)
        have q1 := hcell 1 (by omega)
        have q2 := hcell 2 (by omega)
        rw [add_add] at q0 q1 q2
        exact ⟨(s0, s1, s2), by simpa using q0, by simpa using q1, by simpa using q2, b0, b1, b2⟩
    obtain ⟨q, hq⟩ := choose_lt each
    refine ⟨(List.range len).map q, by omega, by simp, fun hpos => ?_⟩
    obtain ⟨b, off, spot⟩ := y
    obtain rfl : spot = none := by simpa [Addr.add] using World.cell?_spot (hq 0 (by omega)).1
    have hb0 := (hq 0 (by omega)).1
    rw [add_plain] at hb0
    refine ⟨b, off, rfl, World.block_lt_of_cell? w _ hb0, fun j hj => ?_⟩
    have hz : ((List.range len).map q).getD j (0, 0, 0) = q j := by simp [List.getD, hj]
    obtain ⟨g0, g1, g2, g3, g4, g5⟩ := hq j (by omega)
    rw [add_plain] at g0 g1 g2
    rw [hz]
    exact ⟨g0, by rw [Nat.add_assoc]; exact g1, by rw [Nat.add_assoc]; exact g2, g3, g4, g5⟩
/-- A slice of integers that came in. -/
def IsRow (k : IntKind) (w : World) (a : Option Addr) (len cap : Nat) (zs : List Int) : Prop :=
  (a = none ∧ len = 0 ∧ cap = 0 ∧ zs = []) ∨
  ∃ x, a = some x ∧ len ≤ cap ∧ cap ≤ maxLen ∧ zs.length = cap ∧ (∀ i, i < zs.length → w.cell? (x.add i) = some (.int k (zs.getD i 0))) ∧ ∀ n ∈ zs, (Lit.int k n).wf = true
theorem IsRow.plain {k : IntKind} {w : World} {a : Option Addr} {len cap : Nat} {zs : List Int} (h : IsRow k w a len cap zs) :
    len ≤ maxLen ∧ len ≤ zs.length ∧ (0 < len → ∃ b off, a = some ⟨b, off, none⟩ ∧ b < w.heap.size ∧ ∀ j, j < len → w.cell? ⟨b, off + j, none⟩ = some (.int k (zs.getD j 0))) ∧ ∀ n ∈ zs, (Lit.int k n).wf = true := by
  rcases h with ⟨rfl, rfl, rfl, rfl⟩ | ⟨x, rfl, hl, hm, hz, hc, hw⟩
  · exact ⟨by simp [maxLen], by simp, fun h => by omega, fun n hn => by simp at hn⟩
  · refine ⟨by omega, by omega, fun h => ?_, hw⟩
    obtain ⟨b, off, rfl, hc'⟩ := ints_at hc (by omega)
    exact ⟨b, off, rfl, World.block_lt_of_cell? w _ (hc' 0 (by omega)), fun j hj => hc' j (by omega)⟩

theorem acts {w : World} {ao : Option Addr} {n : Nat} {zs : List (Int × Int × Int)} (h : IsTriples .i64 .i64 .u64 w ao n zs) : Acts w ao n zs := by
  obtain ⟨_, h1, h2⟩ := h
  refine ⟨h1, fun hp => ?_⟩
  obtain ⟨b, off, e, hb, hc⟩ := h2 hp
  exact ⟨b, off, e, hb, fun j hj => ⟨(hc j hj).1, (hc j hj).2.1, (hc j hj).2.2.1, (bounds_i64 (hc j hj).2.2.2.2.1).2, (bounds_u64 (hc j hj).2.2.2.2.2).1⟩⟩

theorem whole (what mm dd many : Int) (ao : Option Addr) (n cap : Nat) (bo : Option Addr) (k bcap : Nat) (zs : List (Int × Int × Int)) (ds : List Int) (w : World) (wm : (Lit.int .i64 mm).wf = true) (wd : (Lit.int .u64 dd).wf = true) (h : IsTriples .i64 .i64 .u64 w ao n zs) (h2 : IsRow .i64 w bo k bcap ds) :
    Calls Try.prog 5 #[.slice ao n cap, .slice bo k bcap, .int .i64 many, .agg #[.int .i64 what, .int .i64 mm, .int .u64 dd]] w fun e w' => e = .returned (.bool true) ∧ Below w.heap.size w w' := by
  obtain ⟨m1, m2, m3, m4⟩ := h2.plain
  by_cases o1 : 20 < n
  · exact shares_out many what mm dd ao n cap bo k bcap w h.1 m1 (.inl o1)
  · by_cases o2 : 30 < k
    · exact shares_out many what mm dd ao n cap bo k bcap w h.1 m1 (.inr ⟨by omega, o2⟩)
    · have hl : (ds.take k).length = k := by rw [List.length_take]; omega
      have hg : ∀ j, j < k → (ds.take k).getD j 0 = ds.getD j 0 := fun j hj => by simp [List.getD, List.getElem?_take, hj]
      refine shares_in many what mm dd ao n cap zs bo k bcap (ds.take k) w (by omega) (by omega) (bounds_i64 wm).2 (bounds_u64 wd).1 (acts h) ⟨by omega, fun hp => ?_⟩ hl (fun j hj => ?_) ?_
      · obtain ⟨b, off, e, hb, hc⟩ := m3 hp
        exact ⟨b, off, e, hb, fun j hj => by rw [hg j hj]; exact hc j hj⟩
      · rw [hg j hj]
        have hlt : j < ds.length := by omega
        have := bounds_i64 (m4 _ (List.getElem_mem hlt))
        simpa [List.getD, hlt] using this.2
      · rintro rfl
        rcases h2 with ⟨_, rfl, rfl, _⟩ | ⟨x, e, _⟩
        · exact ⟨rfl, rfl⟩
        · cases e

set_option maxRecDepth 100000 in
theorem lifted (os : Os) (started : os.Started) (H : Type) (enc : TypeId × Value → H) :
    ReturnsInHanded {} Try.checked os 5 .any (Rows.windowSharesSpec.pre6 enc Try.prog Try.f5 Rows.windowSharesRow.domain false) (Rows.windowSharesSpec.post enc Try.prog Try.f5 false true false false) := by
  refine returnsInHanded_of_change (C := Try.checked) own started (by kernel_rfl) Try.func5
    (ChangeSpec.witness6 (enc := enc) (C := Try.checked) false ⟨#[], #[.slice none 0 0, .slice none 0 0, .int .i64 0, .agg #[.int .i64 0, .int .i64 0, .int .u64 0]], []⟩ 8 (by kernel_rfl) (by kernel_rfl) (by kernel_rfl) (by kernel_rfl)) ?_
  intro W base args ds gs before hval0 hW hcnd _
  have hval : ∀ (j : Nat) t v, Try.f5.params[j]? = some t → args[j]? = some v → Value.okWide Try.prog W .any base t v := hval0
  have hW' := hW
  obtain ⟨p, q, hA0, hV, rfl, hfz, hnd⟩ := hW
  have hA : DataW.TrodAll enc Try.prog W 0 (fun _ => true) true Try.f5.params.toList args.toList ds p := hA0
  rw [Try.params5] at hA hval
  obtain ⟨v0, vs0, d0, ds0, p0, q0, hargs, rfl, rfl, h0, r0⟩ := trodAll_cons hA
  obtain ⟨v1, vs1, d1, ds1, p1, q1, rfl, rfl, rfl, h1, r1⟩ := trodAll_cons r0
  obtain ⟨v2, vs2, d2, ds2, p2, q2, rfl, rfl, rfl, h2, r2⟩ := trodAll_cons r1
  obtain ⟨v3, vs3, d3, ds3, p3, q3, rfl, rfl, rfl, h3, r3⟩ := trodAll_cons r2
  obtain ⟨rfl, rfl, rfl⟩ := trodAll_nil r3
  obtain rfl : args = #[v0, v1, v2, v3] := by cases args; simp_all
  obtain ⟨rfl, rfl⟩ := trodVars_none hV
  have k0 := h0
  have lt0 : ∀ x ∈ p0, x.block < W.heap.size := by obtain ⟨m, hm⟩ := k0; exact DataW.trod_lt m _ _ _ hm
  have k1 := h1
  have lt1 : ∀ x ∈ p1, x.block < W.heap.size := by obtain ⟨m, hm⟩ := k1; exact DataW.trod_lt m _ _ _ hm
  have k2 := h2
  have lt2 : ∀ x ∈ p2, x.block < W.heap.size := by obtain ⟨m, hm⟩ := k2; exact DataW.trod_lt m _ _ _ hm
  have k3 := h3
  have lt3 : ∀ x ∈ p3, x.block < W.heap.size := by obtain ⟨m, hm⟩ := k3; exact DataW.trod_lt m _ _ _ hm
  obtain ⟨a0, len0, cap0, rfl⟩ := okWide_slice Try.underlying37 (hval 0 37 v0 rfl rfl)
  obtain ⟨z0, w0⟩ : ∃ zs, IsTriples .i64 .i64 .u64 W a0 len0 zs := by
    obtain ⟨fuel, hf⟩ := h0
    exact open_triples Try.underlying37 Try.underlying43 (by kernel_rfl) rfl rfl rfl (by kernel_rfl) (by kernel_rfl) (by kernel_rfl) Try.underlying3 Try.underlying3 Try.underlying26 (by simpa [Value.cells] using hf)
  obtain ⟨a1, len1, cap1, rfl⟩ := okWide_slice Try.underlying22 (hval 1 22 v1 rfl rfl)
  obtain ⟨z1, w1⟩ : ∃ zs, IsRow .i64 W a1 len1 cap1 zs := by
    obtain ⟨fuel, hf⟩ := h1
    rcases open_ints Try.underlying22 Try.underlying3 (by kernel_rfl) hf with ⟨hcs, _⟩ | ⟨x, l, c, zs, hcs, _, hl, hm, hz, _, hcell, hwz⟩
    · simp [Value.cells] at hcs
      obtain ⟨rfl, rfl, rfl⟩ := hcs
      exact ⟨[], .inl ⟨rfl, rfl, rfl, rfl⟩⟩
    · simp [Value.cells] at hcs
      obtain ⟨rfl, rfl, rfl⟩ := hcs
      exact ⟨zs, .inr ⟨_, rfl, hl, hm, by simpa using hz, hcell, hwz⟩⟩
  obtain ⟨a2, rfl, _, _, w2⟩ := open_int Try.underlying3 (hval 2 3 v2 rfl rfl) h2
  obtain ⟨c0, c1, c2, y0, y1, y2, m0, rfl, _, _, hy0, hy1, hy2⟩ := open_agg3 Try.underlying43 (by kernel_rfl) (by kernel_rfl) (hval 3 43 v3 rfl rfl) h3
  obtain ⟨what, e0, _, ww⟩ := DataW.trod_int Try.underlying3 hy0
  obtain ⟨mm, e1, _, wm⟩ := DataW.trod_int Try.underlying3 hy1
  obtain ⟨dd, e2, _, wd⟩ := DataW.trod_int Try.underlying26 hy2
  simp only [List.cons.injEq, and_true] at e0 e1 e2
  subst e0 e1 e2
  clear hA0 hval0
  refine (whole what mm dd a2 a0 len0 cap0 a1 len1 cap1 z0 z1 W wm wd w0 w1).mono fun e W' ⟨he, bel⟩ => ?_
  subst he
  exact ⟨_, rfl, _, _, _, [], _, [], hW', trodAll_mk1 (shut_bool Try.underlying4 _), (trodAll_cons_mk (Below.trod laidOut (by kernel_rfl) (of_decide_eq_true (by kernel_rfl)) k0 bel lt0) (trodAll_cons_mk (Below.trod laidOut (by kernel_rfl) (of_decide_eq_true (by kernel_rfl)) k1 bel lt1) (trodAll_cons_mk (Below.trod laidOut (by kernel_rfl) (of_decide_eq_true (by kernel_rfl)) k2 bel lt2) (trodAll_cons_mk (Below.trod laidOut (by kernel_rfl) (of_decide_eq_true (by kernel_rfl)) k3 bel lt3) trodAll_mk0)))), rfl, bel.frame _, fun h => by cases h⟩

theorem over : Rows.windowSharesRow.holds Try.pinned (OpenSpec.ofChange Rows.windowSharesSpec) :=
  OpenClaim.holds_of_wide 5 Try.f5 rfl rfl rfl rfl rfl rfl rfl ⟨rfl, rfl, rfl, rfl, rfl⟩ rfl rfl rfl rfl rfl (by kernel_rfl) Try.func5 (by kernel_rfl)
    (of_decide_eq_true (by kernel_rfl)) (by unfold Func.isWrapper; first | (rw [if_pos (by decide +kernel)]; kernel_rfl) | (rw [if_neg (by decide +kernel)]; exact ⟨rfl, rfl⟩))
    (fun os started H enc _ => lifted os started H enc)

theorem proved : Rows.WindowSharesSaid := over
#print axioms proved
end Go.Proofs.Ytagdenhcbafblaa.windowShares
