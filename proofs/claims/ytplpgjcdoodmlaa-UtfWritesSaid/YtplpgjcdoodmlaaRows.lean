/-
  No cell of these rows narrows 'for every input' (looked for: loops, veiled, ifaces, maps, wideKeys, modest, calm, conditions, laid).
  DERIVED. THE GIVEN ROWS OF THIS SEAT. 5 by the template 'for every input the law returns true; each argument reads behind the call as it read before'; 0 by the template 'total and deterministic' (their statements: YtplpgjcdoodmlaaTotals.lean).
  GIVEN WITH THE SEED: the statements are not yours to turn. If you find one false, say at which input.
  Laid BY PROGRAM, IN A SANDBOX (cutbox-rows.mjs): the forced cells as the released guide's own fill.sh prints them over the translation 3d491ec37a755973… (all of the seat's roots in one cut). By AI agents, Wed Nov 11 2026. No macro, syntax, notation, axiom, sorry.
-/
import Derived.Test.YtplpgjcdoodmlaaChecked
import GoSem.Claim
import GoSem.ClaimJoined
import GoSem.ClaimMapViews
import Derived.JoinedTies
import Derived.KernelRfl
namespace Go.Proofs.Ytplpgjcdoodmlaa
/- THE CELL 'sum', in the pinned program and in every row, IS THE sha256 OF THE DUMP (.gsa) THAT YtplpgjcdoodmlaaProg.lean LOADS. Nothing in Lean hashes anything: it is a label: what it is worth is what the hold of that sum in a sandbox is worth. -/
noncomputable def Try.pinned : Pinned := { name := "ytplpgjcdoodmlaa", sum := "3d491ec37a755973997d5006567120a9fbc6fbc8b42f61b19a95bfce170a27f8", checked := Try.checked }
namespace Rows
def none {H : Type} : Left H := { results := [], args := [] }

/-- 'bellmanlaw04.UtfEach': WHATEVER THE INPUT: true; the input reads as it did. -/
def utfEachSpec : ChangeSpec := { name := "utfEach", fn := fun _ => fun
  | [d1, d2] => { results := [.lit (.bool true)], args := [d1, d2] }
  | _ => none }
def utfEachRow : OpenClaim := { program := "ytplpgjcdoodmlaa", sum := "3d491ec37a755973997d5006567120a9fbc6fbc8b42f61b19a95bfce170a27f8", func := "bellman/bellmanlaw04.UtfEach", spec := "utfEach", unfollowed := true, recurses := true, apart := false }
def UtfEachSaid : Prop := utfEachRow.holds Try.pinned (OpenSpec.ofChange utfEachSpec)

/-- ITS FALSE NEIGHBOUR: 'it returns false'. Refute it at one input. -/
def utfEachWrong : ChangeSpec := { name := "utfEach", fn := fun _ => fun
  | [d1, d2] => { results := [.lit (.bool false)], args := [d1, d2] }
  | _ => none }
def UtfEachWrongFalsely : Prop := utfEachRow.holds Try.pinned (OpenSpec.ofChange utfEachWrong)

/-- 'bellmanlaw04.UtfOf': WHATEVER THE INPUT: true; the input reads as it did. -/
def utfOfSpec : ChangeSpec := { name := "utfOf", fn := fun _ => fun
  | [d] => { results := [.lit (.bool true)], args := [d] }
  | _ => none }
def utfOfRow : OpenClaim := { program := "ytplpgjcdoodmlaa", sum := "3d491ec37a755973997d5006567120a9fbc6fbc8b42f61b19a95bfce170a27f8", func := "bellman/bellmanlaw04.UtfOf", spec := "utfOf", unfollowed := true, recurses := true, apart := false }
def UtfOfSaid : Prop := utfOfRow.holds Try.pinned (OpenSpec.ofChange utfOfSpec)

/-- ITS FALSE NEIGHBOUR: 'it returns false'. Refute it at one input. -/
def utfOfWrong : ChangeSpec := { name := "utfOf", fn := fun _ => fun
  | [d] => { results := [.lit (.bool false)], args := [d] }
  | _ => none }
def UtfOfWrongFalsely : Prop := utfOfRow.holds Try.pinned (OpenSpec.ofChange utfOfWrong)

/-- 'bellmanlaw04.UtfPoints': WHATEVER THE INPUT: true; the input reads as it did. -/
def utfPointsSpec : ChangeSpec := { name := "utfPoints", fn := fun _ => fun
  | [d] => { results := [.lit (.bool true)], args := [d] }
  | _ => none }
def utfPointsRow : OpenClaim := { program := "ytplpgjcdoodmlaa", sum := "3d491ec37a755973997d5006567120a9fbc6fbc8b42f61b19a95bfce170a27f8", func := "bellman/bellmanlaw04.UtfPoints", spec := "utfPoints", unfollowed := true, recurses := true, apart := false }
def UtfPointsSaid : Prop := utfPointsRow.holds Try.pinned (OpenSpec.ofChange utfPointsSpec)

/-- ITS FALSE NEIGHBOUR: 'it returns false'. Refute it at one input. -/
def utfPointsWrong : ChangeSpec := { name := "utfPoints", fn := fun _ => fun
  | [d] => { results := [.lit (.bool false)], args := [d] }
  | _ => none }
def UtfPointsWrongFalsely : Prop := utfPointsRow.holds Try.pinned (OpenSpec.ofChange utfPointsWrong)

/-- 'bellmanlaw04.UtfHolds': WHATEVER THE INPUT: true; the input reads as it did. -/
def utfHoldsSpec : ChangeSpec := { name := "utfHolds", fn := fun _ => fun
  | [d1, d2] => { results := [.lit (.bool true)], args := [d1, d2] }
  | _ => none }
def utfHoldsRow : OpenClaim := { program := "ytplpgjcdoodmlaa", sum := "3d491ec37a755973997d5006567120a9fbc6fbc8b42f61b19a95bfce170a27f8", func := "bellman/bellmanlaw04.UtfHolds", spec := "utfHolds", unfollowed := true, recurses := true, apart := false }
def UtfHoldsSaid : Prop := utfHoldsRow.holds Try.pinned (OpenSpec.ofChange utfHoldsSpec)

/-- ITS FALSE NEIGHBOUR: 'it returns false'. Refute it at one input. -/
def utfHoldsWrong : ChangeSpec := { name := "utfHolds", fn := fun _ => fun
  | [d1, d2] => { results := [.lit (.bool false)], args := [d1, d2] }
  | _ => none }
def UtfHoldsWrongFalsely : Prop := utfHoldsRow.holds Try.pinned (OpenSpec.ofChange utfHoldsWrong)

/-- 'bellmanlaw04.UtfWrites': WHATEVER THE INPUT: true; the input reads as it did. -/
def utfWritesSpec : ChangeSpec := { name := "utfWrites", fn := fun _ => fun
  | [d1, d2] => { results := [.lit (.bool true)], args := [d1, d2] }
  | _ => none }
def utfWritesRow : OpenClaim := { program := "ytplpgjcdoodmlaa", sum := "3d491ec37a755973997d5006567120a9fbc6fbc8b42f61b19a95bfce170a27f8", func := "bellman/bellmanlaw04.UtfWrites", spec := "utfWrites", unfollowed := true, recurses := true, apart := false }
def UtfWritesSaid : Prop := utfWritesRow.holds Try.pinned (OpenSpec.ofChange utfWritesSpec)

/-- ITS FALSE NEIGHBOUR: 'it returns false'. Refute it at one input. -/
def utfWritesWrong : ChangeSpec := { name := "utfWrites", fn := fun _ => fun
  | [d1, d2] => { results := [.lit (.bool false)], args := [d1, d2] }
  | _ => none }
def UtfWritesWrongFalsely : Prop := utfWritesRow.holds Try.pinned (OpenSpec.ofChange utfWritesWrong)

/- THE SECOND FORM. 'bulk': how many values and letters a reading holds, each counted each time it is reached (what is shared counts as often as it is met; a slice's spare places count too). A statement '..UptoSaid' is the law's where the arguments, and the package variables that the reading takes, are together of bulk at most 1048576: NARROWER than '..Said'. Prove '..Said' where nothing that the law and all that it calls make is longer than what came in: it says more and counts as full. Else prove '..UptoSaid'. A law counts once. -/
mutual
def uptoBulk {H : Type} : DataW H → Nat
  | .lit (.string bytes) => bytes.length + 1
  | .lit _ => 1
  | .nil => 1
  | .ptr d => uptoBulk d + 1
  | .slice elems spare => uptoBulkAll elems + uptoBulkAll spare + 1
  | .agg parts => uptoBulkAll parts + 1
  | .iface _ d => uptoBulk d + 1
  | .map entries => uptoBulkEntries entries + 1
  | .held _ => 1
def uptoBulkAll {H : Type} : List (DataW H) → Nat
  | [] => 0
  | d :: r => uptoBulk d + uptoBulkAll r
def uptoBulkEntries {H : Type} : List (Lit × DataW H) → Nat
  | [] => 0
  | x :: r => uptoBulkEntry x + uptoBulkEntries r
def uptoBulkEntry {H : Type} : Lit × DataW H → Nat
  | (.string bytes, d) => bytes.length + uptoBulk d + 1
  | (_, d) => uptoBulk d + 1
 end
def uptoSmall : (H : Type) → List (DataW H) → Bool := fun _ ds => decide (uptoBulkAll ds ≤ 1048576)
def OpenSpec.upto (s : _root_.Go.ChangeSpec) : _root_.Go.OpenSpec := { _root_.Go.OpenSpec.ofChange s with cond := some uptoSmall }

/-- 'bellmanlaw04.UtfEach', WHERE WHAT IT READS IS OF BULK AT MOST 1048576: true; the input reads as it did. -/
def utfEachUptoRow : OpenClaim := { program := "ytplpgjcdoodmlaa", sum := "3d491ec37a755973997d5006567120a9fbc6fbc8b42f61b19a95bfce170a27f8", func := "bellman/bellmanlaw04.UtfEach", spec := "utfEach", unfollowed := true, recurses := true, apart := false, narrowed := true }
def UtfEachUptoSaid : Prop := utfEachUptoRow.holds Try.pinned (OpenSpec.upto utfEachSpec)

/-- 'bellmanlaw04.UtfOf', WHERE WHAT IT READS IS OF BULK AT MOST 1048576: true; the input reads as it did. -/
def utfOfUptoRow : OpenClaim := { program := "ytplpgjcdoodmlaa", sum := "3d491ec37a755973997d5006567120a9fbc6fbc8b42f61b19a95bfce170a27f8", func := "bellman/bellmanlaw04.UtfOf", spec := "utfOf", unfollowed := true, recurses := true, apart := false, narrowed := true }
def UtfOfUptoSaid : Prop := utfOfUptoRow.holds Try.pinned (OpenSpec.upto utfOfSpec)

/-- 'bellmanlaw04.UtfPoints', WHERE WHAT IT READS IS OF BULK AT MOST 1048576: true; the input reads as it did. -/
def utfPointsUptoRow : OpenClaim := { program := "ytplpgjcdoodmlaa", sum := "3d491ec37a755973997d5006567120a9fbc6fbc8b42f61b19a95bfce170a27f8", func := "bellman/bellmanlaw04.UtfPoints", spec := "utfPoints", unfollowed := true, recurses := true, apart := false, narrowed := true }
def UtfPointsUptoSaid : Prop := utfPointsUptoRow.holds Try.pinned (OpenSpec.upto utfPointsSpec)

/-- 'bellmanlaw04.UtfHolds', WHERE WHAT IT READS IS OF BULK AT MOST 1048576: true; the input reads as it did. -/
def utfHoldsUptoRow : OpenClaim := { program := "ytplpgjcdoodmlaa", sum := "3d491ec37a755973997d5006567120a9fbc6fbc8b42f61b19a95bfce170a27f8", func := "bellman/bellmanlaw04.UtfHolds", spec := "utfHolds", unfollowed := true, recurses := true, apart := false, narrowed := true }
def UtfHoldsUptoSaid : Prop := utfHoldsUptoRow.holds Try.pinned (OpenSpec.upto utfHoldsSpec)

/-- 'bellmanlaw04.UtfWrites', WHERE WHAT IT READS IS OF BULK AT MOST 1048576: true; the input reads as it did. -/
def utfWritesUptoRow : OpenClaim := { program := "ytplpgjcdoodmlaa", sum := "3d491ec37a755973997d5006567120a9fbc6fbc8b42f61b19a95bfce170a27f8", func := "bellman/bellmanlaw04.UtfWrites", spec := "utfWrites", unfollowed := true, recurses := true, apart := false, narrowed := true }
def UtfWritesUptoSaid : Prop := utfWritesUptoRow.holds Try.pinned (OpenSpec.upto utfWritesSpec)

end Rows
end Go.Proofs.Ytplpgjcdoodmlaa
