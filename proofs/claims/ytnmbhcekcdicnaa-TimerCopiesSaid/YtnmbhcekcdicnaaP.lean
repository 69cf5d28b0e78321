/-
  copy of rows of structs.
-/
import Derived.Test.YtnmbhcekcdicnaaO
import Derived.Laws.IdiomCopy
namespace Go.Proofs.Ytnmbhcekcdicnaa
open Go.RowKit
set_option linter.unusedVariables false
set_option linter.unusedSimpArgs false

theorem run_copy_sz {P : Program} (w : World) (dT sT ty elem : TypeId) (b o dLen dCap : Nat) (a : Addr) (sLen sCap : Nat) (cs : List Value) (s k : Nat)
    (hu : P.underlying dT = some (.slice elem)) (hs : (P.info? elem).map (·.size) = some s) (hk : Nat.min sLen dLen = k) (hn : cs.length = k * s)
    (hsrc : ∀ j v, cs[j]? = some v → w.cell? (a.add j) = some v) (hc : ∀ j, j < cs.length → (w.cell? ⟨b, o + j, none⟩).isSome = true) (hf : ∀ j, j < cs.length → w.frozen? ⟨b, o + j, none⟩ = false) (h1 : ∀ v ∈ cs, v.oneCell' = true) :
    (Builtin.copy_ #[dT, sT] ty #[.slice (some ⟨b, o, none⟩) dLen dCap, .slice (some a) sLen sCap]).run P w = .ok (goInt k) (w.setCells b o cs) := by
  have hl := run_loadCells_list (P := P) w a cs hsrc
  have hst := run_storeCells_cells (P := P) b o cs 0 w (by simpa using hc) (by simpa using hf) h1
  cases hq : P.info? elem with
  | none => simp [hq] at hs
  | some i =>
    have hi : i.size = s := by simpa [hq] using hs
    simp [Builtin.copy_, run_underlying hu, Builtin.lenOf, Builtin.firstCells, sizeOf, typeInfo, hq, hi, hk, ← hn, hl, hst]
theorem run_copy_zero {P : Program} (w : World) (dT sT ty elem : TypeId) (d a : Option Addr) (dLen dCap sLen sCap s : Nat) (hu : P.underlying dT = some (.slice elem)) (hs : (P.info? elem).map (·.size) = some s) (hn : Nat.min sLen dLen = 0) :
    (Builtin.copy_ #[dT, sT] ty #[.slice d dLen dCap, .slice a sLen sCap]).run P w = .ok (goInt 0) w := by
  cases hq : P.info? elem with
  | none => simp [hq] at hs
  | some i =>
    have hl : ∀ (x : Addr), (loadCells x 0).run P w = .ok #[] w := fun x => by simpa using run_loadCells_list (P := P) w x [] (by simp)
    cases d <;> cases a <;> simp [Builtin.copy_, run_underlying hu, Builtin.lenOf, Builtin.firstCells, sizeOf, typeInfo, hq, hn, storeCells, hl]
section
variable {K K' : Nat → Prop} {p n c mb : Nat} {most : Int} {l : List Rw} {ao : Option Addr} {W W' : World}
/-- New. -/
theorem new9_bad (most : Int) (w : World) (h : most < 1 ∨ 8192 < most) : Calls Try.prog 9 #[.int .i64 most] w fun e w' => e = .returned (.tuple #[.pointer none, .int .i64 2]) ∧ w = w' := by
  rcases h with h | h
  · have d1 : decide (most < 1) = true := by simpa using h
    clear h
    go_enter Try.func9, Try.ntmps9
    go_wp2
    go_ret2
    exact ⟨rfl, rfl⟩
  · have d1 : decide (most < 1) = false := by simp; omega
    have d2 : decide (8192 < most) = true := by simpa using h
    clear h
    go_enter Try.func9, Try.ntmps9
    go_wp2
    go_ret2
    exact ⟨rfl, rfl⟩
theorem new9 (most : Int) (w : World) (h0 : 1 ≤ most) (h1 : most ≤ 8192) : Calls Try.prog 9 #[.int .i64 most] w fun e w' => ∃ p mb, e = .returned (.tuple #[.pointer (some ⟨p, 0, none⟩), .int .i64 0]) ∧ TAt (fun k => w.heap.size ≤ k ∧ k < w'.heap.size) p most [] none 0 0 mb w' ∧ Below w.heap.size w w' := by
  have d1 : decide (most < 1) = false := by simp; omega
  have d2 : decide (8192 < most) = false := by simp; omega
  have H0 := Lib.hid (And.intro h0 h1)
  clear h0 h1
  have hmm := @run_makeMap Try.prog
  go_enter Try.func9, Try.ntmps9
  go_wp2
  go_ret2
  refine ⟨w.heap.size + 1, w.heap.size, rfl, ?_⟩
  obtain ⟨u, hu⟩ : ∃ u, u = w.alloc (.map #[] 0) := ⟨_, rfl⟩
  have hb : Below w.heap.size w u := by rw [hu]; exact (Below.refl _ w).alloc (Nat.le_refl _) _
  have hs : u.heap.size = w.heap.size + 1 := by rw [hu]; simp
  have hm : u.heap[w.heap.size]? = some (.map #[] 0) := by rw [hu]; exact heap_alloc_new w _
  rw [← hu]
  have hp : (u.alloc (.cells #[.slice none 0 0, .map (some w.heap.size), .int .i64 most] 56)).heap[w.heap.size + 1]? = some (.cells #[.slice none 0 0, .map (some w.heap.size), .int .i64 most] 56 (0, 0)) := by rw [← hs]; exact alloc_blk_new _ _
  have hz : (u.alloc (.cells #[.slice none 0 0, .map (some w.heap.size), .int .i64 most] 56)).heap.size = w.heap.size + 2 := by simp [hs]
  refine ⟨⟨hp, ⟨⟨#[], 0, alloc_blk hm _, rfl, by simp, by simp, by simp, by simp, by simp⟩⟩, ⟨rfl, Nat.le_refl _, fun _ => rfl, Nat.zero_le _, fun a e => by cases e⟩, ⟨by omega, by omega⟩, ⟨by omega, by omega⟩, ⟨List.Pairwise.nil, List.Pairwise.nil, fun r hr => by cases hr⟩, H0.out.1, H0.out.2, by have := H0.out.1; simp; omega⟩, hb.alloc hb.size _⟩
end
end Go.Proofs.Ytnmbhcekcdicnaa
