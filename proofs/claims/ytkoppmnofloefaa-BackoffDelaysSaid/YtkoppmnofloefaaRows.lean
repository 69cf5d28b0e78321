/-
  No cell of these rows narrows 'for every input' (looked for: loops, veiled, ifaces, maps, wideKeys, modest, calm, conditions, laid).
  DERIVED. THE GIVEN ROWS OF THIS SEAT. 5 by the template 'for every input the law returns true; each argument reads behind the call as it read before'; 0 by the template 'total and deterministic' (their statements: YtkoppmnofloefaaTotals.lean).
  GIVEN WITH THE SEED: the statements are not yours to turn. If you find one false, say at which input.
  Laid BY PROGRAM, IN A SANDBOX (cutbox-rows.mjs): the forced cells as the released guide's own fill.sh prints them over the translation 9a33593419915479… (all of the seat's roots in one cut). By AI agents, Wed Nov 11 2026. No macro, syntax, notation, axiom, sorry.
-/
import Derived.Test.YtkoppmnofloefaaChecked
import GoSem.Claim
import GoSem.ClaimJoined
import GoSem.ClaimMapViews
import Derived.JoinedTies
import Derived.KernelRfl
namespace Go.Proofs.Ytkoppmnofloefaa
/- THE CELL 'sum', in the pinned program and in every row, IS THE sha256 OF THE DUMP (.gsa) THAT YtkoppmnofloefaaProg.lean LOADS. Nothing in Lean hashes anything: it is a label: what it is worth is what the hold of that sum in a sandbox is worth. -/
noncomputable def Try.pinned : Pinned := { name := "ytkoppmnofloefaa", sum := "9a3359341991547950e6403359b89eb6bc443a77895b1c06acb8a2d994d76e19", checked := Try.checked }
namespace Rows
def none {H : Type} : Left H := { results := [], args := [] }

/-- 'bellmanlaw20.BackoffHolds': WHATEVER THE INPUT: true; the input reads as it did. -/
def backoffHoldsSpec : ChangeSpec := { name := "backoffHolds", fn := fun _ => fun
  | [d1, d2, d3] => { results := [.lit (.bool true)], args := [d1, d2, d3] }
  | _ => none }
def backoffHoldsRow : OpenClaim := { program := "ytkoppmnofloefaa", sum := "9a3359341991547950e6403359b89eb6bc443a77895b1c06acb8a2d994d76e19", func := "bellman/bellmanlaw20.BackoffHolds", spec := "backoffHolds", apart := false }
def BackoffHoldsSaid : Prop := backoffHoldsRow.holds Try.pinned (OpenSpec.ofChange backoffHoldsSpec)

/-- ITS FALSE NEIGHBOUR: 'it returns false'. Refute it at one input. -/
def backoffHoldsWrong : ChangeSpec := { name := "backoffHolds", fn := fun _ => fun
  | [d1, d2, d3] => { results := [.lit (.bool false)], args := [d1, d2, d3] }
  | _ => none }
def BackoffHoldsWrongFalsely : Prop := backoffHoldsRow.holds Try.pinned (OpenSpec.ofChange backoffHoldsWrong)

/-- 'bellmanlaw20.BackoffPlays': WHATEVER THE INPUT: true; the input reads as it did. -/
def backoffPlaysSpec : ChangeSpec := { name := "backoffPlays", fn := fun _ => fun
  | [d1, d2] => { results := [.lit (.bool true)], args := [d1, d2] }
  | _ => none }
def backoffPlaysRow : OpenClaim := { program := "ytkoppmnofloefaa", sum := "9a3359341991547950e6403359b89eb6bc443a77895b1c06acb8a2d994d76e19", func := "bellman/bellmanlaw20.BackoffPlays", spec := "backoffPlays", apart := false }
def BackoffPlaysSaid : Prop := backoffPlaysRow.holds Try.pinned (OpenSpec.ofChange backoffPlaysSpec)

/-- ITS FALSE NEIGHBOUR: 'it returns false'. Refute it at one input. -/
def backoffPlaysWrong : ChangeSpec := { name := "backoffPlays", fn := fun _ => fun
  | [d1, d2] => { results := [.lit (.bool false)], args := [d1, d2] }
  | _ => none }
def BackoffPlaysWrongFalsely : Prop := backoffPlaysRow.holds Try.pinned (OpenSpec.ofChange backoffPlaysWrong)

/-- 'bellmanlaw20.BackoffCopies': WHATEVER THE INPUT: true; the input reads as it did. -/
def backoffCopiesSpec : ChangeSpec := { name := "backoffCopies", fn := fun _ => fun
  | [d1, d2, d3, d4] => { results := [.lit (.bool true)], args := [d1, d2, d3, d4] }
  | _ => none }
def backoffCopiesRow : OpenClaim := { program := "ytkoppmnofloefaa", sum := "9a3359341991547950e6403359b89eb6bc443a77895b1c06acb8a2d994d76e19", func := "bellman/bellmanlaw20.BackoffCopies", spec := "backoffCopies", apart := false }
def BackoffCopiesSaid : Prop := backoffCopiesRow.holds Try.pinned (OpenSpec.ofChange backoffCopiesSpec)

/-- ITS FALSE NEIGHBOUR: 'it returns false'. Refute it at one input. -/
def backoffCopiesWrong : ChangeSpec := { name := "backoffCopies", fn := fun _ => fun
  | [d1, d2, d3, d4] => { results := [.lit (.bool false)], args := [d1, d2, d3, d4] }
  | _ => none }
def BackoffCopiesWrongFalsely : Prop := backoffCopiesRow.holds Try.pinned (OpenSpec.ofChange backoffCopiesWrong)

/-- 'bellmanlaw20.BackoffDelays': WHATEVER THE INPUT: true; the input reads as it did. -/
def backoffDelaysSpec : ChangeSpec := { name := "backoffDelays", fn := fun _ => fun
  | [d1, d2, d3, d4, d5] => { results := [.lit (.bool true)], args := [d1, d2, d3, d4, d5] }
  | _ => none }
def backoffDelaysRow : OpenClaim := { program := "ytkoppmnofloefaa", sum := "9a3359341991547950e6403359b89eb6bc443a77895b1c06acb8a2d994d76e19", func := "bellman/bellmanlaw20.BackoffDelays", spec := "backoffDelays", unfollowed := true, recurses := true, apart := false }
def BackoffDelaysSaid : Prop := backoffDelaysRow.holds Try.pinned (OpenSpec.ofChange backoffDelaysSpec)

/-- ITS FALSE NEIGHBOUR: 'it returns false'. Refute it at one input. -/
def backoffDelaysWrong : ChangeSpec := { name := "backoffDelays", fn := fun _ => fun
  | [d1, d2, d3, d4, d5] => { results := [.lit (.bool false)], args := [d1, d2, d3, d4, d5] }
  | _ => none }
def BackoffDelaysWrongFalsely : Prop := backoffDelaysRow.holds Try.pinned (OpenSpec.ofChange backoffDelaysWrong)

/-- 'bellmanlaw20.BackoffNone': WHATEVER THE INPUT: true; the input reads as it did. -/
def backoffNoneSpec : ChangeSpec := { name := "backoffNone", fn := fun _ => fun
  | [d1, d2] => { results := [.lit (.bool true)], args := [d1, d2] }
  | _ => none }
def backoffNoneRow : OpenClaim := { program := "ytkoppmnofloefaa", sum := "9a3359341991547950e6403359b89eb6bc443a77895b1c06acb8a2d994d76e19", func := "bellman/bellmanlaw20.BackoffNone", spec := "backoffNone", unfollowed := true, recurses := true, apart := false }
def BackoffNoneSaid : Prop := backoffNoneRow.holds Try.pinned (OpenSpec.ofChange backoffNoneSpec)

/-- ITS FALSE NEIGHBOUR: 'it returns false'. Refute it at one input. -/
def backoffNoneWrong : ChangeSpec := { name := "backoffNone", fn := fun _ => fun
  | [d1, d2] => { results := [.lit (.bool false)], args := [d1, d2] }
  | _ => none }
def BackoffNoneWrongFalsely : Prop := backoffNoneRow.holds Try.pinned (OpenSpec.ofChange backoffNoneWrong)

/- THE SECOND FORM. 'bulk': how many values and letters a reading holds, each counted each time it is reached (what is shared counts as often as it is met; a slice's spare places count too). A statement '..UptoSaid' is the law's where the arguments, and the package variables that the reading takes, are together of bulk at most 1048576: NARROWER than '..Said'. Prove '..Said' where nothing that the law and all that it calls make is longer than what came in: it says more and counts as full. Else prove '..UptoSaid'. A law counts once. -/
mutual
def uptoBulk {H : Type} : DataW H → Nat
  | .lit (.string bytes) => bytes.length + 1
  | .lit _ => 1
  | .nil => 1
  | .ptr d => uptoBulk d + 1
  | .slice elems spare => uptoBulkAll elems + uptoBulkAll spare + 1
  | .agg parts => uptoBulkAll parts + 1
  | .iface _ d => uptoBulk d + 1
  | .map entries => uptoBulkEntries entries + 1
  | .held _ => 1
def uptoBulkAll {H : Type} : List (DataW H) → Nat
  | [] => 0
  | d :: r => uptoBulk d + uptoBulkAll r
def uptoBulkEntries {H : Type} : List (Lit × DataW H) → Nat
  | [] => 0
  | x :: r => uptoBulkEntry x + uptoBulkEntries r
def uptoBulkEntry {H : Type} : Lit × DataW H → Nat
  | (.string bytes, d) => bytes.length + uptoBulk d + 1
  | (_, d) => uptoBulk d + 1
 end
def uptoSmall : (H : Type) → List (DataW H) → Bool := fun _ ds => decide (uptoBulkAll ds ≤ 1048576)
def OpenSpec.upto (s : _root_.Go.ChangeSpec) : _root_.Go.OpenSpec := { _root_.Go.OpenSpec.ofChange s with cond := some uptoSmall }

/-- 'bellmanlaw20.BackoffHolds', WHERE WHAT IT READS IS OF BULK AT MOST 1048576: true; the input reads as it did. -/
def backoffHoldsUptoRow : OpenClaim := { program := "ytkoppmnofloefaa", sum := "9a3359341991547950e6403359b89eb6bc443a77895b1c06acb8a2d994d76e19", func := "bellman/bellmanlaw20.BackoffHolds", spec := "backoffHolds", apart := false, narrowed := true }
def BackoffHoldsUptoSaid : Prop := backoffHoldsUptoRow.holds Try.pinned (OpenSpec.upto backoffHoldsSpec)

/-- 'bellmanlaw20.BackoffPlays', WHERE WHAT IT READS IS OF BULK AT MOST 1048576: true; the input reads as it did. -/
def backoffPlaysUptoRow : OpenClaim := { program := "ytkoppmnofloefaa", sum := "9a3359341991547950e6403359b89eb6bc443a77895b1c06acb8a2d994d76e19", func := "bellman/bellmanlaw20.BackoffPlays", spec := "backoffPlays", apart := false, narrowed := true }
def BackoffPlaysUptoSaid : Prop := backoffPlaysUptoRow.holds Try.pinned (OpenSpec.upto backoffPlaysSpec)

/-- 'bellmanlaw20.BackoffCopies', WHERE WHAT IT READS IS OF BULK AT MOST 1048576: true; the input reads as it did. -/
def backoffCopiesUptoRow : OpenClaim := { program := "ytkoppmnofloefaa", sum := "9a3359341991547950e6403359b89eb6bc443a77895b1c06acb8a2d994d76e19", func := "bellman/bellmanlaw20.BackoffCopies", spec := "backoffCopies", apart := false, narrowed := true }
def BackoffCopiesUptoSaid : Prop := backoffCopiesUptoRow.holds Try.pinned (OpenSpec.upto backoffCopiesSpec)

/-- 'bellmanlaw20.BackoffDelays', WHERE WHAT IT READS IS OF BULK AT MOST 1048576: true; the input reads as it did. -/
def backoffDelaysUptoRow : OpenClaim := { program := "ytkoppmnofloefaa", sum := "9a3359341991547950e6403359b89eb6bc443a77895b1c06acb8a2d994d76e19", func := "bellman/bellmanlaw20.BackoffDelays", spec := "backoffDelays", unfollowed := true, recurses := true, apart := false, narrowed := true }
def BackoffDelaysUptoSaid : Prop := backoffDelaysUptoRow.holds Try.pinned (OpenSpec.upto backoffDelaysSpec)

/-- 'bellmanlaw20.BackoffNone', WHERE WHAT IT READS IS OF BULK AT MOST 1048576: true; the input reads as it did. -/
def backoffNoneUptoRow : OpenClaim := { program := "ytkoppmnofloefaa", sum := "9a3359341991547950e6403359b89eb6bc443a77895b1c06acb8a2d994d76e19", func := "bellman/bellmanlaw20.BackoffNone", spec := "backoffNone", unfollowed := true, recurses := true, apart := false, narrowed := true }
def BackoffNoneUptoSaid : Prop := backoffNoneUptoRow.holds Try.pinned (OpenSpec.upto backoffNoneSpec)

end Rows
end Go.Proofs.Ytkoppmnofloefaa
