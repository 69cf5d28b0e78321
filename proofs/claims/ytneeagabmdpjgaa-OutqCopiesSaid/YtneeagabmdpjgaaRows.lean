/-
  No cell of these rows narrows 'for every input' (looked for: loops, veiled, ifaces, maps, wideKeys, modest, calm, conditions, laid).
  DERIVED. THE GIVEN ROWS OF THIS SEAT. 4 by the template 'for every input the law returns true; each argument reads behind the call as it read before'; 0 by the template 'total and deterministic' (their statements: YtneeagabmdpjgaaTotals.lean).
  GIVEN WITH THE SEED: the statements are not yours to turn. If you find one false, say at which input.
  Laid BY PROGRAM, IN A SANDBOX (cutbox-rows.mjs): the forced cells as the released guide's own fill.sh prints them over the translation 1a1f4b5983f39abb… (all of the seat's roots in one cut). By AI agents, Wed Nov 11 2026. No macro, syntax, notation, axiom, sorry.
-/
import Derived.Test.YtneeagabmdpjgaaChecked
import GoSem.Claim
import GoSem.ClaimJoined
import GoSem.ClaimMapViews
import Derived.JoinedTies
import Derived.KernelRfl
namespace Go.Proofs.Ytneeagabmdpjgaa
/- THE CELL 'sum', in the pinned program and in every row, IS THE sha256 OF THE DUMP (.gsa) THAT YtneeagabmdpjgaaProg.lean LOADS. Nothing in Lean hashes anything: it is a label: what it is worth is what the hold of that sum in a sandbox is worth. -/
noncomputable def Try.pinned : Pinned := { name := "ytneeagabmdpjgaa", sum := "1a1f4b5983f39abb0d7dd39b0548b8a43178ee1d74295356c7c63a7bb5f5af1f", checked := Try.checked }
namespace Rows
def none {H : Type} : Left H := { results := [], args := [] }

/-- 'bellmanlaw23.OutqHolds': WHATEVER THE INPUT: true; the input reads as it did. -/
def outqHoldsSpec : ChangeSpec := { name := "outqHolds", fn := fun _ => fun
  | [d1, d2] => { results := [.lit (.bool true)], args := [d1, d2] }
  | _ => none }
def outqHoldsRow : OpenClaim := { program := "ytneeagabmdpjgaa", sum := "1a1f4b5983f39abb0d7dd39b0548b8a43178ee1d74295356c7c63a7bb5f5af1f", func := "bellman/bellmanlaw23.OutqHolds", spec := "outqHolds", unfollowed := true, recurses := true, apart := false }
def OutqHoldsSaid : Prop := outqHoldsRow.holds Try.pinned (OpenSpec.ofChange outqHoldsSpec)

/-- ITS FALSE NEIGHBOUR: 'it returns false'. Refute it at one input. -/
def outqHoldsWrong : ChangeSpec := { name := "outqHolds", fn := fun _ => fun
  | [d1, d2] => { results := [.lit (.bool false)], args := [d1, d2] }
  | _ => none }
def OutqHoldsWrongFalsely : Prop := outqHoldsRow.holds Try.pinned (OpenSpec.ofChange outqHoldsWrong)

/-- 'bellmanlaw23.OutqPlays': WHATEVER THE INPUT: true; the input reads as it did. -/
def outqPlaysSpec : ChangeSpec := { name := "outqPlays", fn := fun _ => fun
  | [d1, d2] => { results := [.lit (.bool true)], args := [d1, d2] }
  | _ => none }
def outqPlaysRow : OpenClaim := { program := "ytneeagabmdpjgaa", sum := "1a1f4b5983f39abb0d7dd39b0548b8a43178ee1d74295356c7c63a7bb5f5af1f", func := "bellman/bellmanlaw23.OutqPlays", spec := "outqPlays", unfollowed := true, recurses := true, apart := false }
def OutqPlaysSaid : Prop := outqPlaysRow.holds Try.pinned (OpenSpec.ofChange outqPlaysSpec)

/-- ITS FALSE NEIGHBOUR: 'it returns false'. Refute it at one input. -/
def outqPlaysWrong : ChangeSpec := { name := "outqPlays", fn := fun _ => fun
  | [d1, d2] => { results := [.lit (.bool false)], args := [d1, d2] }
  | _ => none }
def OutqPlaysWrongFalsely : Prop := outqPlaysRow.holds Try.pinned (OpenSpec.ofChange outqPlaysWrong)

/-- 'bellmanlaw23.OutqAll': WHATEVER THE INPUT: true; the input reads as it did. -/
def outqAllSpec : ChangeSpec := { name := "outqAll", fn := fun _ => fun
  | [d1, d2, d3] => { results := [.lit (.bool true)], args := [d1, d2, d3] }
  | _ => none }
def outqAllRow : OpenClaim := { program := "ytneeagabmdpjgaa", sum := "1a1f4b5983f39abb0d7dd39b0548b8a43178ee1d74295356c7c63a7bb5f5af1f", func := "bellman/bellmanlaw23.OutqAll", spec := "outqAll", unfollowed := true, recurses := true, apart := false }
def OutqAllSaid : Prop := outqAllRow.holds Try.pinned (OpenSpec.ofChange outqAllSpec)

/-- ITS FALSE NEIGHBOUR: 'it returns false'. Refute it at one input. -/
def outqAllWrong : ChangeSpec := { name := "outqAll", fn := fun _ => fun
  | [d1, d2, d3] => { results := [.lit (.bool false)], args := [d1, d2, d3] }
  | _ => none }
def OutqAllWrongFalsely : Prop := outqAllRow.holds Try.pinned (OpenSpec.ofChange outqAllWrong)

/-- 'bellmanlaw23.OutqCopies': WHATEVER THE INPUT: true; the input reads as it did. -/
def outqCopiesSpec : ChangeSpec := { name := "outqCopies", fn := fun _ => fun
  | [d1, d2, d3, d4] => { results := [.lit (.bool true)], args := [d1, d2, d3, d4] }
  | _ => none }
def outqCopiesRow : OpenClaim := { program := "ytneeagabmdpjgaa", sum := "1a1f4b5983f39abb0d7dd39b0548b8a43178ee1d74295356c7c63a7bb5f5af1f", func := "bellman/bellmanlaw23.OutqCopies", spec := "outqCopies", unfollowed := true, recurses := true, apart := false }
def OutqCopiesSaid : Prop := outqCopiesRow.holds Try.pinned (OpenSpec.ofChange outqCopiesSpec)

/-- ITS FALSE NEIGHBOUR: 'it returns false'. Refute it at one input. -/
def outqCopiesWrong : ChangeSpec := { name := "outqCopies", fn := fun _ => fun
  | [d1, d2, d3, d4] => { results := [.lit (.bool false)], args := [d1, d2, d3, d4] }
  | _ => none }
def OutqCopiesWrongFalsely : Prop := outqCopiesRow.holds Try.pinned (OpenSpec.ofChange outqCopiesWrong)

/- THE SECOND FORM. 'bulk': how many values and letters a reading holds, each counted each time it is reached (what is shared counts as often as it is met; a slice's spare places count too). A statement '..UptoSaid' is the law's where the arguments, and the package variables that the reading takes, are together of bulk at most 1048576: NARROWER than '..Said'. Prove '..Said' where nothing that the law and all that it calls make is longer than what came in: it says more and counts as full. Else prove '..UptoSaid'. A law counts once. -/
mutual
def uptoBulk {H : Type} : DataW H → Nat
  | .lit (.string bytes) => bytes.length + 1
  | .lit _ => 1
  | .nil => 1
  | .ptr d => uptoBulk d + 1
  | .slice elems spare => uptoBulkAll elems + uptoBulkAll spare + 1
  | .agg parts => uptoBulkAll parts + 1
  | .iface _ d => uptoBulk d + 1
  | .map entries => uptoBulkEntries entries + 1
  | .held _ => 1
def uptoBulkAll {H : Type} : List (DataW H) → Nat
  | [] => 0
  | d :: r => uptoBulk d + uptoBulkAll r
def uptoBulkEntries {H : Type} : List (Lit × DataW H) → Nat
  | [] => 0
  | x :: r => uptoBulkEntry x + uptoBulkEntries r
def uptoBulkEntry {H : Type} : Lit × DataW H → Nat
  | (.string bytes, d) => bytes.length + uptoBulk d + 1
  | (_, d) => uptoBulk d + 1
 end
def uptoSmall : (H : Type) → List (DataW H) → Bool := fun _ ds => decide (uptoBulkAll ds ≤ 1048576)
def OpenSpec.upto (s : _root_.Go.ChangeSpec) : _root_.Go.OpenSpec := { _root_.Go.OpenSpec.ofChange s with cond := some uptoSmall }

/-- 'bellmanlaw23.OutqHolds', WHERE WHAT IT READS IS OF BULK AT MOST 1048576: true; the input reads as it did. -/
def outqHoldsUptoRow : OpenClaim := { program := "ytneeagabmdpjgaa", sum := "1a1f4b5983f39abb0d7dd39b0548b8a43178ee1d74295356c7c63a7bb5f5af1f", func := "bellman/bellmanlaw23.OutqHolds", spec := "outqHolds", unfollowed := true, recurses := true, apart := false, narrowed := true }
def OutqHoldsUptoSaid : Prop := outqHoldsUptoRow.holds Try.pinned (OpenSpec.upto outqHoldsSpec)

/-- 'bellmanlaw23.OutqPlays', WHERE WHAT IT READS IS OF BULK AT MOST 1048576: true; the input reads as it did. -/
def outqPlaysUptoRow : OpenClaim := { program := "ytneeagabmdpjgaa", sum := "1a1f4b5983f39abb0d7dd39b0548b8a43178ee1d74295356c7c63a7bb5f5af1f", func := "bellman/bellmanlaw23.OutqPlays", spec := "outqPlays", unfollowed := true, recurses := true, apart := false, narrowed := true }
def OutqPlaysUptoSaid : Prop := outqPlaysUptoRow.holds Try.pinned (OpenSpec.upto outqPlaysSpec)

/-- 'bellmanlaw23.OutqAll', WHERE WHAT IT READS IS OF BULK AT MOST 1048576: true; the input reads as it did. -/
def outqAllUptoRow : OpenClaim := { program := "ytneeagabmdpjgaa", sum := "1a1f4b5983f39abb0d7dd39b0548b8a43178ee1d74295356c7c63a7bb5f5af1f", func := "bellman/bellmanlaw23.OutqAll", spec := "outqAll", unfollowed := true, recurses := true, apart := false, narrowed := true }
def OutqAllUptoSaid : Prop := outqAllUptoRow.holds Try.pinned (OpenSpec.upto outqAllSpec)

/-- 'bellmanlaw23.OutqCopies', WHERE WHAT IT READS IS OF BULK AT MOST 1048576: true; the input reads as it did. -/
def outqCopiesUptoRow : OpenClaim := { program := "ytneeagabmdpjgaa", sum := "1a1f4b5983f39abb0d7dd39b0548b8a43178ee1d74295356c7c63a7bb5f5af1f", func := "bellman/bellmanlaw23.OutqCopies", spec := "outqCopies", unfollowed := true, recurses := true, apart := false, narrowed := true }
def OutqCopiesUptoSaid : Prop := outqCopiesUptoRow.holds Try.pinned (OpenSpec.upto outqCopiesSpec)

end Rows
end Go.Proofs.Ytneeagabmdpjgaa
