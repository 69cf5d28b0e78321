/-
  The calls that came in, read.
-/
import Derived.Test.YtneeagabmdpjgaaOj
import Derived.WalkKit
import Derived.ProofKit
import Derived.OpenShut
import Derived.ShutString
import Derived.ChangeOld
import Derived.Below
import Derived.Lib.SmallJoins
import Derived.Deep.Slices
import Derived.Deep.Fields
import Derived.Deep.SlicePairs
import Derived.Deep.Strs
namespace Go.Proofs.Ytneeagabmdpjgaa
open Go.ChangeShapes Go.WideShapes Go.ChangeAt Go.RowKit Go.Joins Go.Deep
open Go.ChangeMaps (open_string shut_string)
set_option linter.unusedVariables false
set_option linter.unusedSimpArgs false

theorem byte_wf {x : Int} (h : (Lit.int .u8 x).wf = true) : 0 ≤ x ∧ x < 256 := by
  simp [Lit.wf, IntKind.min, IntKind.max, IntKind.signed, IntKind.bits] at h
  omega
section
variable {H : Type} {enc : TypeId × Value → H} {w : World} {held : Bool}
/-- A []byte that came in. -/
theorem open_bytes {fuel : Nat} {cs : List Value} {x : DataW H × List MemPlace} (h : DataW.trod enc Try.prog w 0 (fun _ => true) held fuel 29 cs = some x) :
    ∃ a c xs, cs = [.slice a xs.length c] ∧ Arg (fun k => k < w.heap.size) w a xs.length xs ∧ (a = none → xs.length = 0 ∧ c = 0) ∧ (∀ x ∈ xs, 0 ≤ x ∧ x < 256) := by
  rcases open_ints Try.underlying29 Try.underlying5 (by kernel_rfl) h with ⟨rfl, _⟩ | ⟨a, l, c, zs, rfl, _, hl, hm, hz, hx, hcell, hwz⟩
  · exact ⟨none, 0, [], rfl, ⟨rfl, fun h => by simp at h⟩, fun _ => ⟨rfl, rfl⟩, by simp⟩
  · have hz' : zs.length = c := by simpa using hz
    have hlz : (zs.take l).length = l := by simp; omega
    refine ⟨some a, c, zs.take l, by rw [hlz], ⟨rfl, fun hp => ?_⟩, by simp, fun x hx => byte_wf (hwz x (List.mem_of_mem_take hx))⟩
    obtain ⟨b, off, rfl, hc⟩ := ints_at hcell (by omega)
    refine ⟨b, off, rfl, World.block_lt_of_cell? w _ (hc 0 (by omega)), World.block_lt_of_cell? w _ (hc 0 (by omega)), fun j hj => ?_⟩
    rw [hc j (by omega)]
    rw [hlz] at hj
    have : j < zs.length := by omega
    simp [List.getD, List.getElem?_take_of_lt hj]
/-- Frames that came in. -/
theorem open_frames {fuel : Nat} {cs : List Value} {x : DataW H × List MemPlace} (h : DataW.trod enc Try.prog w 0 (fun _ => true) held fuel 30 cs = some x) :
    ∃ a c ls, cs = [.slice a ls.length c] ∧ Parts (fun k => k < w.heap.size) w a ls ∧ (a = none → ls.length = 0 ∧ c = 0) ∧ (∀ l ∈ ls, ∀ x ∈ l, 0 ≤ x ∧ x < 256) := by
  rcases open_slice Try.underlying30 h with ⟨rfl, _⟩ | ⟨y, l, c, m, n, D, Pl, rfl, _, hl, hm, hmm, hx0, hx⟩
  · exact ⟨none, 0, [], rfl, fun h => by simp at h, fun _ => ⟨rfl, rfl⟩, by simp⟩
  · have hmc : m = c := by simpa using hmm
    subst hmc
    have e1 : Try.prog.cellsOf 29 = 1 := by kernel_rfl
    rw [e1] at hx
    have each : ∀ i, i < l → ∃ z : Option Addr × Nat × List Int, w.cell? (y.add i) = some (.slice z.1 z.2.2.length z.2.1) ∧ Arg (fun k => k < w.heap.size) w z.1 z.2.2.length z.2.2 ∧ (z.1 = none → z.2.2.length = 0 ∧ z.2.1 = 0) ∧ (∀ x ∈ z.2.2, 0 ≤ x ∧ x < 256) := by
      intro i hi
      obtain ⟨cs', h1, h2⟩ := hx i (by omega)
      obtain ⟨_, hlen, hcell⟩ := World.cells?_some h1
      obtain ⟨a, c, xs, rfl, r1, r2, r3⟩ := open_bytes h2
      have q0 := hcell 0 (by omega)
      rw [add_add] at q0
      exact ⟨(a, c, xs), by simpa using q0, r1, r2, r3⟩
    haveI : Inhabited (Option Addr × Nat × List Int) := ⟨(none, 0, [])⟩
    obtain ⟨q, hq⟩ := choose_lt each
    refine ⟨some y, m, (List.range l).map fun i => (q i).2.2, by simp, fun hpos => ?_, (fun e => by cases e), fun z hz => ?_⟩
    · have hl0 : 0 < l := by simpa using hpos
      obtain ⟨b, off, spot⟩ := y
      obtain rfl : spot = none := by simpa [Addr.add] using World.cell?_spot (hq 0 hl0).1
      have hb0 := (hq 0 hl0).1
      rw [add_plain] at hb0
      refine ⟨b, off, rfl, World.block_lt_of_cell? w _ hb0, World.block_lt_of_cell? w _ hb0, fun j hj => ?_⟩
      have hj' : j < l := by simpa using hj
      have hz : ((List.range l).map fun i => (q i).2.2).getD j [] = (q j).2.2 := by simp [List.getD, hj']
      obtain ⟨g0, g1, g2, g3⟩ := hq j hj'
      rw [add_plain] at g0
      rw [hz]
      exact ⟨(q j).1, (q j).2.1, g0, g1, g2⟩
    · obtain ⟨i, hi, rfl⟩ := List.mem_map.1 hz
      exact (hq i (List.mem_range.1 hi)).2.2.2
set_option maxRecDepth 100000 in
/-- A call that came in. -/
theorem open_act {fuel : Nat} {cs : List Value} {x : DataW H × List MemPlace} (h : DataW.trod enc Try.prog w 0 (fun _ => true) held fuel 32 cs = some x) :
    ∃ z : OV, cs = [.int .i64 z.what, .int .i64 z.n, .slice z.a z.ls.length z.c] ∧ z.Ok (fun k => k < w.heap.size) w := by
  have hst := trod_struct3 Try.underlying32 h
  obtain ⟨y0, y1, y2, n, rfl, hl, g0, g1, g2⟩ := hst
  have hl3 : cs.length = 3 := by rw [hl]; kernel_rfl
  match cs, hl3 with
  | [c0, c1, c2], _ =>
    have e1 : Try.prog.cellsOf 3 = 1 := by kernel_rfl
    have e2 : Try.prog.cellsOf 30 = 1 := by kernel_rfl
    simp [e1, e2] at g0 g1 g2
    obtain ⟨s0, q0, r0, b0⟩ := DataW.trod_int Try.underlying3 g0
    obtain ⟨s1, q1, r1, b1⟩ := DataW.trod_int Try.underlying3 g1
    obtain ⟨a, ca, xa, q2, ra, na, ia⟩ := open_frames g2
    simp only [List.cons.injEq, and_true] at q0 q1 q2
    subst q0 q1 q2
    exact ⟨⟨s0, s1, a, ca, xa⟩, rfl, ⟨ra, na, ia, b0, b1⟩⟩
/-- The calls that came in. -/
theorem open_acts {fuel : Nat} {a : Option Addr} {len cap : Nat} {x : DataW H × List MemPlace} (h : DataW.trod enc Try.prog w 0 (fun _ => true) held fuel 22 [.slice a len cap] = some x) :
    ∃ zs, OActs w a len zs := by
  rcases open_slice Try.underlying22 h with ⟨hcs, _⟩ | ⟨y, l, c, m, n, D, Pl, hcs, _, hl, hm, hmm, hx0, hx⟩
  · simp at hcs
    obtain ⟨rfl, rfl, rfl⟩ := hcs
    exact ⟨[], by simp [maxLen], by simp, fun h => by omega⟩
  · simp at hcs
    obtain ⟨rfl, rfl, rfl⟩ := hcs
    have hmc : m = cap := by simpa using hmm
    subst hmc
    have e3 : Try.prog.cellsOf 32 = 3 := by kernel_rfl
    rw [e3] at hx
    have each : ∀ i, i < len → ∃ z : OV, w.cell? (y.add (i * 3)) = some (.int .i64 z.what) ∧ w.cell? (y.add (i * 3 + 1)) = some (.int .i64 z.n) ∧ w.cell? (y.add (i * 3 + 2)) = some (.slice z.a z.ls.length z.c) ∧ z.Ok (fun k => k < w.heap.size) w := by
      intro i hi
      obtain ⟨cs', h1, h2⟩ := hx i (by omega)
      obtain ⟨_, hlen, hcell⟩ := World.cells?_some h1
      obtain ⟨z, rfl, hz⟩ := open_act h2
      have q0 := hcell 0 (by omega)
      have q1 := hcell 1 (by omega)
      have q2 := hcell 2 (by omega)
      rw [add_add] at q0 q1 q2
      exact ⟨z, by simpa using q0, by simpa using q1, by simpa using q2, hz⟩
    haveI : Inhabited OV := ⟨OV.nul⟩
    obtain ⟨q, hq⟩ := choose_lt each
    refine ⟨(List.range len).map q, by omega, by simp, fun hpos => ?_⟩
    obtain ⟨b, off, spot⟩ := y
    obtain rfl : spot = none := by simpa [Addr.add] using World.cell?_spot (hq 0 (by omega)).1
    have hb0 := (hq 0 (by omega)).1
    rw [add_plain] at hb0
    refine ⟨b, off, rfl, World.block_lt_of_cell? w _ hb0, fun j hj => ?_⟩
    have hz : ((List.range len).map q).getD j OV.nul = q j := by simp [List.getD, hj]
    obtain ⟨g0, g1, g2, g4⟩ := hq j hj
    rw [add_plain] at g0 g1 g2
    exact ⟨q j, hz.symm, g0, by rw [Nat.add_assoc]; exact g1, by rw [Nat.add_assoc]; exact g2, g4⟩
end
end Go.Proofs.Ytneeagabmdpjgaa
