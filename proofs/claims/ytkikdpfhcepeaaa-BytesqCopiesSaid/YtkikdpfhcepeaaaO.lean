/-
  The calls that came in, read.
-/
import Derived.Test.YtkikdpfhcepeaaaI
import Derived.WalkKit
import Derived.ProofKit
import Derived.OpenShut
import Derived.ShutString
import Derived.ChangeOld
import Derived.Below
import Derived.Lib.SmallJoins
import Derived.Deep.Slices
import Derived.Deep.Fields
import Derived.Deep.SlicePairs
import Derived.Deep.Strs
import Derived.SizedLaws
namespace Go.Proofs.Ytkikdpfhcepeaaa
open Go.ChangeShapes Go.WideShapes Go.ChangeAt Go.RowKit Go.Joins Go.Deep
open Go.ChangeMaps (open_string shut_string)
set_option linter.unusedVariables false
set_option linter.unusedSimpArgs false

theorem mem_weightsAll {H : Type} {P : Program} {e : TypeId} {n : Nat} : ∀ {l : List (DataW H)} {d : DataW H}, d ∈ l → n ∈ d.weights P e → n ∈ DataW.weightsAll P e l
  | d0 :: l, d, hd, hn => by
    simp only [DataW.weightsAll, List.mem_append]
    rcases List.mem_cons.1 hd with rfl | hd
    · exact .inl hn
    · exact .inr (mem_weightsAll hd hn)

theorem byte_wf {x : Int} (h : (Lit.int .u8 x).wf = true) : 0 ≤ x ∧ x < 256 := by
  simp [Lit.wf, IntKind.min, IntKind.max, IntKind.signed, IntKind.bits] at h
  omega

section
variable {H : Type} {enc : TypeId × Value → H} {w : World} {held : Bool}
/-- A []byte that came in. -/
theorem open_bytes {fuel : Nat} {cs : List Value} {x : DataW H × List MemPlace} (h : DataW.trod enc Try.prog w 0 (fun _ => true) held fuel 29 cs = some x) (hw : ∀ n ∈ x.1.weights Try.prog 29, n ≤ reachBytes) :
    ∃ a c xs, cs = [.slice a xs.length c] ∧ Arg (fun k => k < w.heap.size) w a xs.length xs ∧ (a = none → xs.length = 0 ∧ c = 0) ∧ (∀ x ∈ xs, 0 ≤ x ∧ x < 256) ∧ xs.length ≤ 140737488355327 := by
  rcases open_ints Try.underlying29 Try.underlying5 (by kernel_rfl) h with ⟨rfl, _⟩ | ⟨a, l, c, zs, rfl, _, hl, hm, hz, hx, hcell, hwz⟩
  · exact ⟨none, 0, [], rfl, ⟨rfl, fun h => by simp at h⟩, fun _ => ⟨rfl, rfl⟩, by simp, by simp⟩
  · have hz' : zs.length = c := by simpa using hz
    have hr : c ≤ reachBytes := by
      have := hw ((zs.take l).length + (zs.drop l).length) (by
        rw [hx]
        simp [DataW.weights, Try.underlying29, lits]
        exact .inl (by rw [show Try.prog.bytesOf 5 = 1 from by kernel_rfl]; omega))
      rw [← List.length_append, List.take_append_drop] at this
      omega
    have hlz : (zs.take l).length = l := by simp; omega
    refine ⟨some a, c, zs.take l, by rw [hlz], ⟨rfl, fun hp => ?_⟩, by simp, fun x hx => byte_wf (hwz x (List.mem_of_mem_take hx)), ?_⟩
    · obtain ⟨b, off, rfl, hc⟩ := ints_at hcell (by omega)
      refine ⟨b, off, rfl, World.block_lt_of_cell? w _ (hc 0 (by omega)), World.block_lt_of_cell? w _ (hc 0 (by omega)), fun j hj => ?_⟩
      rw [hc j (by omega)]
      rw [hlz] at hj
      have : j < zs.length := by omega
      simp [List.getD, List.getElem?_take_of_lt hj]
    · rw [hlz]
      have : reachBytes < 2 ^ 47 := reachBytes_lt
      omega
/-- A call that came in. -/
theorem open_act {fuel : Nat} {cs : List Value} {x : DataW H × List MemPlace} (h : DataW.trod enc Try.prog w 0 (fun _ => true) held fuel 31 cs = some x) (hw : ∀ n ∈ x.1.weights Try.prog 31, n ≤ reachBytes) :
    ∃ z : AV, cs = [.int .i64 z.what, .int .i64 z.n, .slice z.a z.xa.length z.ca, .slice z.b z.xb.length z.cb] ∧ z.Ok (fun k => k < w.heap.size) w := by
  obtain ⟨y0, y1, y2, y3, n, rfl, hl, g0, g1, g2, g3⟩ := trod_struct4 Try.underlying31 h
  have hl4 : cs.length = 4 := by rw [hl]; kernel_rfl
  match cs, hl4 with
  | [c0, c1, c2, c3], _ =>
    have e1 : Try.prog.cellsOf 3 = 1 := by kernel_rfl
    have e2 : Try.prog.cellsOf 29 = 1 := by kernel_rfl
    simp [e1, e2] at g0 g1 g2 g3
    obtain ⟨s0, q0, r0, b0⟩ := DataW.trod_int Try.underlying3 g0
    obtain ⟨s1, q1, r1, b1⟩ := DataW.trod_int Try.underlying3 g1
    have hw' : ∀ n, n ∈ DataW.weights Try.prog 29 y2.1 ∨ n ∈ DataW.weights Try.prog 29 y3.1 → n ≤ reachBytes := fun n hn => hw n (by
      simp only [DataW.weights, Try.underlying31, List.map_cons, List.map_nil, DataW.weightsEach, List.mem_append]
      rcases hn with hn | hn
      · exact .inr (.inr (.inl hn))
      · exact .inr (.inr (.inr (.inl hn))))
    obtain ⟨a, ca, xa, q2, ra, na, ia, la⟩ := open_bytes g2 (fun n hn => hw' n (.inl hn))
    obtain ⟨b, cb, xb, q3, rb, nb, ib, lb⟩ := open_bytes g3 (fun n hn => hw' n (.inr hn))
    simp only [List.cons.injEq, and_true] at q0 q1 q2 q3
    subst q0 q1 q2 q3
    exact ⟨⟨s0, s1, a, ca, xa, b, cb, xb⟩, rfl, ⟨b0, b1, ra, rb, na, nb, ia, ib, la, lb⟩⟩
/-- The calls that came in. -/
theorem open_acts {fuel : Nat} {a : Option Addr} {len cap : Nat} {x : DataW H × List MemPlace} (h : DataW.trod enc Try.prog w 0 (fun _ => true) held fuel 22 [.slice a len cap] = some x) (hw : ∀ n ∈ x.1.weights Try.prog 22, n ≤ reachBytes) :
    ∃ zs, Acts w a len zs := by
  rcases open_slice Try.underlying22 h with ⟨hcs, _⟩ | ⟨y, l, c, m, n, D, Pl, hcs, _, hl, hm, hmm, hx0, hx⟩
  · simp at hcs
    obtain ⟨rfl, rfl, rfl⟩ := hcs
    exact ⟨[], by simp [maxLen], by simp, fun h => by omega⟩
  · simp at hcs
    obtain ⟨rfl, rfl, rfl⟩ := hcs
    have hmc : m = cap := by simpa using hmm
    subst hmc
    have e4 : Try.prog.cellsOf 31 = 4 := by kernel_rfl
    rw [e4] at hx
    have each : ∀ i, i < len → ∃ z : AV, w.cell? (y.add (i * 4)) = some (.int .i64 z.what) ∧ w.cell? (y.add (i * 4 + 1)) = some (.int .i64 z.n) ∧ w.cell? (y.add (i * 4 + 2)) = some (.slice z.a z.xa.length z.ca) ∧ w.cell? (y.add (i * 4 + 3)) = some (.slice z.b z.xb.length z.cb) ∧ z.Ok (fun k => k < w.heap.size) w := by
      intro i hi
      obtain ⟨cs', h1, h2⟩ := hx i (by omega)
      obtain ⟨_, hlen, hcell⟩ := World.cells?_some h1
      obtain ⟨z, rfl, hz⟩ := open_act h2 (fun n hn => hw n (by
        rw [hx0]
        simp only [DataW.weights, Try.underlying22, List.mem_cons, List.mem_append]
        exact .inr (.inl (mem_weightsAll (List.mem_map.2 ⟨i, List.mem_range.2 hi, rfl⟩) hn))))
      have q0 := hcell 0 (by omega)
      have q1 := hcell 1 (by omega)
      have q2 := hcell 2 (by omega)
      have q3 := hcell 3 (by omega)
      rw [add_add] at q0 q1 q2 q3
      exact ⟨z, by simpa using q0, by simpa using q1, by simpa using q2, by simpa using q3, hz⟩
    haveI : Inhabited AV := ⟨AV.nul⟩
    obtain ⟨q, hq⟩ := choose_lt each
    refine ⟨(List.range len).map q, by omega, by simp, fun hpos => ?_⟩
    obtain ⟨b, off, spot⟩ := y
    obtain rfl : spot = none := by simpa [Addr.add] using World.cell?_spot (hq 0 (by omega)).1
    have hb0 := (hq 0 (by omega)).1
    rw [add_plain] at hb0
    refine ⟨b, off, rfl, World.block_lt_of_cell? w _ hb0, fun j hj => ?_⟩
    have hz : ((List.range len).map q).getD j AV.nul = q j := by simp [List.getD, hj]
    obtain ⟨g0, g1, g2, g3, g4⟩ := hq j hj
    rw [add_plain] at g0 g1 g2 g3
    exact ⟨q j, hz.symm, g0, by rw [Nat.add_assoc]; exact g1, by rw [Nat.add_assoc]; exact g2, by rw [Nat.add_assoc]; exact g3, g4⟩
end
end Go.Proofs.Ytkikdpfhcepeaaa
