/-
  A row taken out of rows.
-/
import Derived.Test.YtnmbhcekcdicnaaQa
namespace Go.Proofs.Ytnmbhcekcdicnaa
open Go.RowKit
set_option linter.unusedVariables false
set_option linter.unusedSimpArgs false

theorem addr_add (b off j : Nat) : (⟨b, off, none⟩ : Addr).add j = ⟨b, off + j, none⟩ := by
  unfold Addr.add
  split <;> simp_all
theorem inf80 : ∃ i, Try.prog.info? 80 = some i ∧ i.zero = some (.agg #[.int .i64 0, .int .u64 0, .int .u64 0]) ∧ i.size = 3 ∧ i.bytes = 24 := info_parts (by kernel_rfl)
/-- A block that holds rows. -/
def Holds (W : World) (b : Nat) (cur : Array Value) (n : Nat) (l : List Rw) : Prop :=
  n = l.length ∧ W.heap[b]? = some (.cells cur 80 (0, 0)) ∧ ∀ (q : Nat) (u : Value), (encR l)[q]? = some u → cur[q]? = some u
theorem Holds.cell {W : World} {b : Nat} {cur : Array Value} {n : Nat} {l : List Rw} (h : Holds W b cur n l) : ∀ (q : Nat) (u : Value), (encR l)[q]? = some u → W.cell? ⟨b, q, none⟩ = some u :=
  fun q u hq => cell_blk h.2.1 q u (h.2.2 q u hq)
theorem app_grow {W : World} {b : Nat} {cur : Array Value} {n : Nat} {l : List Rw} (h : Holds W b cur n l) (i cc ty : Nat) (hi : i + 1 < n) (hn : n ≤ 100000) :
    ∃ (G : Nat) (CUR : Array Value), (Builtin.append_ #[53, 53] ty #[.slice (some ⟨b, 0, none⟩) i i, .slice (some ⟨b, (i + 1) * 3, none⟩) (n - (i + 1)) cc]).run Try.prog W = .ok (.slice (some ⟨W.heap.size, 0, none⟩) (n - 1) G) (W.drew.alloc (.cells CUR 80)) ∧ n - 1 ≤ G ∧ G ≤ maxLen ∧ G * 3 ≤ CUR.size ∧
      ∀ (q : Nat) (u : Value), (encR (l.take i ++ l.drop (i + 1)))[q]? = some u → CUR[q]? = some u := by
  obtain ⟨i0, hi0, hz0, hz1, hz2⟩ := inf80
  have hl := h.1
  have e1 : i + (n - (i + 1)) = n - 1 := by omega
  have hrun := run_append_grow (P := Try.prog) (w := W) 53 ty 80 i0 _ Try.underlying53 hi0 hz0 ⟨b, 0, none⟩ i i (encR (l.take i)) (by rw [encR_len, hz1, List.length_take, Nat.min_eq_left (by omega)]) (fun j v hj => by
      rw [addr_add, Nat.zero_add]
      rw [encR_take, List.getElem?_take] at hj
      split at hj
      · exact h.cell j v hj
      · cases hj)
    ⟨b, (i + 1) * 3, none⟩ (n - (i + 1)) cc (encR (l.drop (i + 1))) (by rw [encR_len, hz1, List.length_drop, ← hl]) (fun j v hj => by
      rw [addr_add]
      rw [encR_drop, List.getElem?_drop] at hj
      exact h.cell _ v hj)
    (by omega) (by omega) (by rw [hz2]; exact growslice_fits (by omega) (by omega))
  rw [e1] at hrun
  refine ⟨_, _, hrun, grownCap_ge W _ _ _, grownCap_le_maxLen W _ _ _ (by unfold maxLen; omega), ?_, fun q u hq => ?_⟩
  · have hg := grownCap_ge W (n - 1) i 80
    simp [Builtin.zeroCells, Value.cells, encR_len, List.length_take, List.length_drop]
    omega
  · rw [encR_app] at hq
    have hql : q < (encR (l.take i) ++ encR (l.drop (i + 1))).length := (List.getElem?_eq_some_iff.1 hq).1
    rw [Array.getElem?_append_left (by simpa using hql)]
    have e : (encR (l.take i)).toArray ++ (encR (l.drop (i + 1))).toArray = (encR (l.take i) ++ encR (l.drop (i + 1))).toArray := by simp
    rw [e]
    simpa using hq
theorem app_end {W : World} (a x : Addr) (i cc ty : Nat) : (Builtin.append_ #[53, 53] ty #[.slice (some a) i i, .slice (some x) 0 cc]).run Try.prog W = .ok (.slice (some a) i i) W := by
  obtain ⟨i0, hi0, hz0, hz1, hz2⟩ := inf80
  have hl : ∀ (x : Addr), (loadCells x 0).run Try.prog W = .ok #[] W := fun x => by simpa using run_loadCells_list (P := Try.prog) W x [] (by simp)
  simp [Builtin.append_, run_underlying Try.underlying53, Builtin.lenOf, Builtin.firstCells, sizeOf, typeInfo, hi0, hz1, hl, storeCells]
end Go.Proofs.Ytnmbhcekcdicnaa
