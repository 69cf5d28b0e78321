/-
  What act leaves.
-/
import Derived.Test.YtnmbhcekcdicnaaYe
namespace Go.Proofs.Ytnmbhcekcdicnaa
open Go.RowKit
set_option linter.unusedVariables false
set_option linter.unusedSimpArgs false

theorem Acted.fin {K K1 : Nat → Prop} {p : Nat} {most : Int} {l' : List Rw} {bo' : Option Addr} {m' bc' : Nat} {w y z : World} {T : Nat} {C : Array Value} (hT : w.heap.size ≤ T) (ts : TS K1 p most l' y) (hk : ∀ q, K1 q → K q ∨ (w.heap.size ≤ q ∧ q < y.heap.size)) (dr : DR (fun q => ¬ K1 q ∧ q ≠ T) y bo' m' bc' l') (hm : Mod K w y) (hb : y.heap[T]? = some (.cells C 36 (0, 0))) (hz : Mod (fun q => q = T) y z) : Acted K p most l' bo' m' bc' w z :=
  ⟨⟨K1, fun q e => (hk q e).imp id fun e => ⟨e.1, Nat.lt_of_lt_of_le e.2 hz.size⟩, ts.skip hb (by decide) (by decide) fun q hq hn => hz.block q hq hn, dr.keep hz.size (fun q e _ => e.1) fun q e hq => hz.block q hq e.2⟩, hm.trans hz fun q hq e => by omega⟩
/-- act's boxes. -/
structure AB (w : World) (X : Nat) (v : Value) (most what k i n : Int) (W : World) : Prop where
  b4 : W.heap[X]? = some (.cells #[v, .int .i64 most] 36 (0, 0))
  b5 : W.heap[X + 1]? = some (.cells #[.int .i64 what, .int .i64 k, .int .u64 i, .int .u64 n] 28 (0, 0))
  b7 : W.heap[X + 2]? = some (.cells #[.slice none 0 0, .int .i64 0] 36 (0, 0))
  base : w.heap.size = X
  size : X + 3 ≤ W.heap.size
theorem AB.start (w : World) (v : Value) (most what k i n : Int) : AB w w.heap.size v most what k i n (((w.alloc (.cells #[v, .int .i64 most] 36)).alloc (.cells #[.int .i64 what, .int .i64 k, .int .u64 i, .int .u64 n] 28)).alloc (.cells #[.slice none 0 0, .int .i64 0] 36)) ∧ Below w.heap.size w (((w.alloc (.cells #[v, .int .i64 most] 36)).alloc (.cells #[.int .i64 what, .int .i64 k, .int .u64 i, .int .u64 n] 28)).alloc (.cells #[.slice none 0 0, .int .i64 0] 36)) ∧ (((w.alloc (.cells #[v, .int .i64 most] 36)).alloc (.cells #[.int .i64 what, .int .i64 k, .int .u64 i, .int .u64 n] 28)).alloc (.cells #[.slice none 0 0, .int .i64 0] 36)).heap.size = w.heap.size + 3 := by
  obtain ⟨u1, hu1⟩ : ∃ W, W = w.alloc (.cells #[v, .int .i64 most] 36) := ⟨_, rfl⟩
  obtain ⟨u2, hu2⟩ : ∃ W, W = u1.alloc (.cells #[.int .i64 what, .int .i64 k, .int .u64 i, .int .u64 n] 28) := ⟨_, rfl⟩
  obtain ⟨u, hu⟩ : ∃ W, W = u2.alloc (.cells #[.slice none 0 0, .int .i64 0] 36) := ⟨_, rfl⟩
  have hz1 : u1.heap.size = w.heap.size + 1 := by rw [hu1]; simp
  have hz2 : u2.heap.size = w.heap.size + 2 := by rw [hu2]; simp [hz1]
  have hz : u.heap.size = w.heap.size + 3 := by rw [hu]; simp [hz2]
  have c1 : Below w.heap.size w u1 := by rw [hu1]; exact (Below.refl _ w).alloc (Nat.le_refl _) _
  have c2 : Below w.heap.size w u2 := by rw [hu2]; exact c1.alloc (by omega) _
  have b1 : Below w.heap.size w u := by rw [hu]; exact c2.alloc (by omega) _
  have k1 : u.heap[w.heap.size]? = some (.cells #[v, .int .i64 most] 36 (0, 0)) := by rw [hu]; exact alloc_blk (by rw [hu2]; exact alloc_blk (by rw [hu1]; exact alloc_blk_new _ _) _) _
  have k2 : u.heap[w.heap.size + 1]? = some (.cells #[.int .i64 what, .int .i64 k, .int .u64 i, .int .u64 n] 28 (0, 0)) := by rw [hu]; exact alloc_blk (by rw [hu2, ← hz1]; exact alloc_blk_new _ _) _
  have k3 : u.heap[w.heap.size + 2]? = some (.cells #[.slice none 0 0, .int .i64 0] 36 (0, 0)) := by rw [hu, ← hz2]; exact alloc_blk_new _ _
  rw [← hu1, ← hu2, ← hu]
  exact ⟨⟨k1, k2, k3, rfl, by omega⟩, b1, hz⟩
theorem AB.keep {w W W' : World} {X : Nat} {v : Value} {most what k i n : Int} (h : AB w X v most what k i n W) (hs : W.heap.size ≤ W'.heap.size) (hb : ∀ q, X ≤ q → q < X + 3 → W'.heap[q]? = W.heap[q]?) : AB w X v most what k i n W' :=
  ⟨(hb X (by omega) (by omega)).trans h.b4, (hb (X + 1) (by omega) (by omega)).trans h.b5, (hb (X + 2) (by omega) (by omega)).trans h.b7, h.base, by have := h.size; omega⟩
theorem AB.below {w W W' : World} {X : Nat} {v : Value} {most what k i n : Int} (h : AB w X v most what k i n W) (hb : Below W.heap.size W W') : AB w X v most what k i n W' :=
  h.keep hb.size fun q _ hq => hb.block q (by have := h.size; omega)
theorem AB.mod {w W W' : World} {X : Nat} {v : Value} {most what k i n : Int} {K : Nat → Prop} (h : AB w X v most what k i n W) (hb : Mod K W W') (hk : ∀ q, K q → q < w.heap.size ∨ X + 3 ≤ q) : AB w X v most what k i n W' :=
  h.keep hb.size fun q h1 hq => hb.block q (by have := h.size; omega) fun e => by have := hk q e; have := h.base; omega
theorem AB.cells {w W : World} {X : Nat} {v : Value} {most what k i n : Int} (h : AB w X v most what k i n W) :
    (W.cell? ⟨X, 0, none⟩ = some v ∧ W.cell? ⟨X, 1, none⟩ = some (.int .i64 most)) ∧ (W.cell? ⟨X + 1, 0, none⟩ = some (.int .i64 what) ∧ W.cell? ⟨X + 1, 1, none⟩ = some (.int .i64 k) ∧ W.cell? ⟨X + 1, 2, none⟩ = some (.int .u64 i) ∧ W.cell? ⟨X + 1, 3, none⟩ = some (.int .u64 n)) ∧ X < W.heap.size ∧ X + 1 < W.heap.size ∧ X + 2 < W.heap.size :=
  ⟨⟨cell_blk h.b4 0 _ rfl, cell_blk h.b4 1 _ rfl⟩, ⟨cell_blk h.b5 0 _ rfl, cell_blk h.b5 1 _ rfl, cell_blk h.b5 2 _ rfl, cell_blk h.b5 3 _ rfl⟩, blk_lt h.b4, blk_lt h.b5, blk_lt h.b7⟩
end Go.Proofs.Ytnmbhcekcdicnaa
