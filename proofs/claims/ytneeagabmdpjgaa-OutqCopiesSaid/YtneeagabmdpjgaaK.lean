/-
  Bytes and parts, laid out.
-/
import Derived.Test.YtneeagabmdpjgaaL
import Derived.Lib.SlBytesConst
import Derived.Lib.SmallJoins
namespace Go.Proofs.Ytneeagabmdpjgaa
open Go.RowKit
set_option linter.unusedVariables false
set_option linter.unusedSimpArgs false

/-- Bytes laid out in a block of their own. -/
theorem arg_blk {T : Nat → Prop} {w : World} {b : Nat} {zs : List Int} {fz : Nat × Nat} {e : TypeId} (h : w.heap[b]? = some (.cells (zs.map (Value.int .u8)).toArray e fz)) (hT : T b) : Arg T w (some ⟨b, 0, none⟩) zs.length zs :=
  ⟨rfl, fun _ => ⟨b, 0, rfl, blk_lt h, hT, fun j hj => cell_blk h _ _ (by simp [List.getD, hj])⟩⟩
theorem parts_two {T : Nat → Prop} {w : World} {b : Nat} {a0 a1 : Option Addr} {c0 c1 : Nat} {z0 z1 : List Int} {e : TypeId} {fz : Nat × Nat} (h : w.heap[b]? = some (.cells #[.slice a0 z0.length c0, .slice a1 z1.length c1] e fz)) (hT : T b)
    (h0 : Arg T w a0 z0.length z0) (h1 : Arg T w a1 z1.length z1) (n0 : a0 = none → z0.length = 0 ∧ c0 = 0) (n1 : a1 = none → z1.length = 0 ∧ c1 = 0) : Parts T w (some ⟨b, 0, none⟩) [z0, z1] := fun _ =>
  ⟨b, 0, rfl, blk_lt h, hT, fun j hj => by
    match j, hj with
    | 0, _ => exact ⟨a0, c0, cell_blk h _ _ rfl, h0, n0⟩
    | 1, _ => exact ⟨a1, c1, cell_blk h _ _ rfl, h1, n1⟩⟩
theorem parts_one {T : Nat → Prop} {w : World} {b : Nat} {a0 : Option Addr} {c0 : Nat} {z0 : List Int} {e : TypeId} {fz : Nat × Nat} (h : w.heap[b]? = some (.cells #[.slice a0 z0.length c0] e fz)) (hT : T b)
    (h0 : Arg T w a0 z0.length z0) (n0 : a0 = none → z0.length = 0 ∧ c0 = 0) : Parts T w (some ⟨b, 0, none⟩) [z0] := fun _ =>
  ⟨b, 0, rfl, blk_lt h, hT, fun j hj => by
    match j, hj with
    | 0, _ => exact ⟨a0, c0, cell_blk h _ _ rfl, h0, n0⟩⟩

theorem Arg.keep {T K : Nat → Prop} {n0 : Nat} {w w' : World} {ao : Option Addr} {n : Nat} {zs : List Int} (h : Arg T w ao n zs) (hm : Mod (fun k => ¬ K k ∧ n0 ≤ k) w w') (ht : ∀ k, T k → K k) : Arg T w' ao n zs :=
  h.mod hm fun k hk e => e.1 (ht k hk)
/-- What is made ahead of a step is none of the step's. -/
theorem Mod.since {K : Nat → Prop} {n0 : Nat} {w w1 w2 : World} (hb : Below w.heap.size w w1) (hm : Mod (fun k => ¬ More K w w1 k ∧ n0 ≤ k) w1 w2) : Mod (fun k => ¬ K k ∧ n0 ≤ k) w w2 :=
  Mod.trans (Mod.of_below hb _) hm fun k hk e => ⟨fun e' => e.1 (.inl e'), e.2⟩

end Go.Proofs.Ytneeagabmdpjgaa
