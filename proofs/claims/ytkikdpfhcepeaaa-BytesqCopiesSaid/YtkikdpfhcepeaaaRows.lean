/-
  No cell of these rows narrows 'for every input' (looked for: loops, veiled, ifaces, maps, wideKeys, modest, calm, conditions, laid).
  DERIVED. THE GIVEN ROWS OF THIS SEAT. 4 by the template 'for every input the law returns true; each argument reads behind the call as it read before'; 0 by the template 'total and deterministic' (their statements: YtkikdpfhcepeaaaTotals.lean).
  GIVEN WITH THE SEED: the statements are not yours to turn. If you find one false, say at which input.
  Laid BY PROGRAM, IN A SANDBOX (cutbox-rows.mjs): the forced cells as the released guide's own fill.sh prints them over the translation 0d0e7434410692b2… (all of the seat's roots in one cut). By AI agents, Wed Nov 11 2026. No macro, syntax, notation, axiom, sorry.
-/
import Derived.Test.YtkikdpfhcepeaaaChecked
import GoSem.Claim
import GoSem.ClaimJoined
import GoSem.ClaimMapViews
import Derived.JoinedTies
import Derived.KernelRfl
namespace Go.Proofs.Ytkikdpfhcepeaaa
/- THE CELL 'sum', in the pinned program and in every row, IS THE sha256 OF THE DUMP (.gsa) THAT YtkikdpfhcepeaaaProg.lean LOADS. Nothing in Lean hashes anything: it is a label: what it is worth is what the hold of that sum in a sandbox is worth. -/
noncomputable def Try.pinned : Pinned := { name := "ytkikdpfhcepeaaa", sum := "0d0e7434410692b27dea7dbb6169eccb70c3180e41306b7d8115ce20b20d7c8f", checked := Try.checked }
namespace Rows
def none {H : Type} : Left H := { results := [], args := [] }

/-- 'bellmanlaw02.BytesqHolds': WHATEVER THE INPUT: true; the input reads as it did. -/
def bytesqHoldsSpec : ChangeSpec := { name := "bytesqHolds", fn := fun _ => fun
  | [d1, d2] => { results := [.lit (.bool true)], args := [d1, d2] }
  | _ => none }
def bytesqHoldsRow : OpenClaim := { program := "ytkikdpfhcepeaaa", sum := "0d0e7434410692b27dea7dbb6169eccb70c3180e41306b7d8115ce20b20d7c8f", func := "bellman/bellmanlaw02.BytesqHolds", spec := "bytesqHolds", unfollowed := true, recurses := true, apart := false }
def BytesqHoldsSaid : Prop := bytesqHoldsRow.holds Try.pinned (OpenSpec.ofChange bytesqHoldsSpec)

/-- ITS FALSE NEIGHBOUR: 'it returns false'. Refute it at one input. -/
def bytesqHoldsWrong : ChangeSpec := { name := "bytesqHolds", fn := fun _ => fun
  | [d1, d2] => { results := [.lit (.bool false)], args := [d1, d2] }
  | _ => none }
def BytesqHoldsWrongFalsely : Prop := bytesqHoldsRow.holds Try.pinned (OpenSpec.ofChange bytesqHoldsWrong)

/-- 'bellmanlaw02.BytesqPlays': WHATEVER THE INPUT: true; the input reads as it did. -/
def bytesqPlaysSpec : ChangeSpec := { name := "bytesqPlays", fn := fun _ => fun
  | [d1, d2] => { results := [.lit (.bool true)], args := [d1, d2] }
  | _ => none }
def bytesqPlaysRow : OpenClaim := { program := "ytkikdpfhcepeaaa", sum := "0d0e7434410692b27dea7dbb6169eccb70c3180e41306b7d8115ce20b20d7c8f", func := "bellman/bellmanlaw02.BytesqPlays", spec := "bytesqPlays", unfollowed := true, recurses := true, apart := false }
def BytesqPlaysSaid : Prop := bytesqPlaysRow.holds Try.pinned (OpenSpec.ofChange bytesqPlaysSpec)

/-- ITS FALSE NEIGHBOUR: 'it returns false'. Refute it at one input. -/
def bytesqPlaysWrong : ChangeSpec := { name := "bytesqPlays", fn := fun _ => fun
  | [d1, d2] => { results := [.lit (.bool false)], args := [d1, d2] }
  | _ => none }
def BytesqPlaysWrongFalsely : Prop := bytesqPlaysRow.holds Try.pinned (OpenSpec.ofChange bytesqPlaysWrong)

/-- 'bellmanlaw02.BytesqCopies': WHATEVER THE INPUT: true; the input reads as it did. -/
def bytesqCopiesSpec : ChangeSpec := { name := "bytesqCopies", fn := fun _ => fun
  | [d1, d2, d3] => { results := [.lit (.bool true)], args := [d1, d2, d3] }
  | _ => none }
def bytesqCopiesRow : OpenClaim := { program := "ytkikdpfhcepeaaa", sum := "0d0e7434410692b27dea7dbb6169eccb70c3180e41306b7d8115ce20b20d7c8f", func := "bellman/bellmanlaw02.BytesqCopies", spec := "bytesqCopies", unfollowed := true, recurses := true, apart := false }
def BytesqCopiesSaid : Prop := bytesqCopiesRow.holds Try.pinned (OpenSpec.ofChange bytesqCopiesSpec)

/-- ITS FALSE NEIGHBOUR: 'it returns false'. Refute it at one input. -/
def bytesqCopiesWrong : ChangeSpec := { name := "bytesqCopies", fn := fun _ => fun
  | [d1, d2, d3] => { results := [.lit (.bool false)], args := [d1, d2, d3] }
  | _ => none }
def BytesqCopiesWrongFalsely : Prop := bytesqCopiesRow.holds Try.pinned (OpenSpec.ofChange bytesqCopiesWrong)

/-- 'bellmanlaw02.BytesqNone': WHATEVER THE INPUT: true; the input reads as it did. -/
def bytesqNoneSpec : ChangeSpec := { name := "bytesqNone", fn := fun _ => fun
  | [d1, d2] => { results := [.lit (.bool true)], args := [d1, d2] }
  | _ => none }
def bytesqNoneRow : OpenClaim := { program := "ytkikdpfhcepeaaa", sum := "0d0e7434410692b27dea7dbb6169eccb70c3180e41306b7d8115ce20b20d7c8f", func := "bellman/bellmanlaw02.BytesqNone", spec := "bytesqNone", unfollowed := true, recurses := true, apart := false }
def BytesqNoneSaid : Prop := bytesqNoneRow.holds Try.pinned (OpenSpec.ofChange bytesqNoneSpec)

/-- ITS FALSE NEIGHBOUR: 'it returns false'. Refute it at one input. -/
def bytesqNoneWrong : ChangeSpec := { name := "bytesqNone", fn := fun _ => fun
  | [d1, d2] => { results := [.lit (.bool false)], args := [d1, d2] }
  | _ => none }
def BytesqNoneWrongFalsely : Prop := bytesqNoneRow.holds Try.pinned (OpenSpec.ofChange bytesqNoneWrong)

/- THE SECOND FORM. 'bulk': how many values and letters a reading holds, each counted each time it is reached (what is shared counts as often as it is met; a slice's spare places count too). A statement '..UptoSaid' is the law's where the arguments, and the package variables that the reading takes, are together of bulk at most 1048576: NARROWER than '..Said'. Prove '..Said' where nothing that the law and all that it calls make is longer than what came in: it says more and counts as full. Else prove '..UptoSaid'. A law counts once. -/
mutual
def uptoBulk {H : Type} : DataW H → Nat
  | .lit (.string bytes) => bytes.length + 1
  | .lit _ => 1
  | .nil => 1
  | .ptr d => uptoBulk d + 1
  | .slice elems spare => uptoBulkAll elems + uptoBulkAll spare + 1
  | .agg parts => uptoBulkAll parts + 1
  | .iface _ d => uptoBulk d + 1
  | .map entries => uptoBulkEntries entries + 1
  | .held _ => 1
def uptoBulkAll {H : Type} : List (DataW H) → Nat
  | [] => 0
  | d :: r => uptoBulk d + uptoBulkAll r
def uptoBulkEntries {H : Type} : List (Lit × DataW H) → Nat
  | [] => 0
  | x :: r => uptoBulkEntry x + uptoBulkEntries r
def uptoBulkEntry {H : Type} : Lit × DataW H → Nat
  | (.string bytes, d) => bytes.length + uptoBulk d + 1
  | (_, d) => uptoBulk d + 1
 end
def uptoSmall : (H : Type) → List (DataW H) → Bool := fun _ ds => decide (uptoBulkAll ds ≤ 1048576)
def OpenSpec.upto (s : _root_.Go.ChangeSpec) : _root_.Go.OpenSpec := { _root_.Go.OpenSpec.ofChange s with cond := some uptoSmall }

/-- 'bellmanlaw02.BytesqHolds', WHERE WHAT IT READS IS OF BULK AT MOST 1048576: true; the input reads as it did. -/
def bytesqHoldsUptoRow : OpenClaim := { program := "ytkikdpfhcepeaaa", sum := "0d0e7434410692b27dea7dbb6169eccb70c3180e41306b7d8115ce20b20d7c8f", func := "bellman/bellmanlaw02.BytesqHolds", spec := "bytesqHolds", unfollowed := true, recurses := true, apart := false, narrowed := true }
def BytesqHoldsUptoSaid : Prop := bytesqHoldsUptoRow.holds Try.pinned (OpenSpec.upto bytesqHoldsSpec)

/-- 'bellmanlaw02.BytesqPlays', WHERE WHAT IT READS IS OF BULK AT MOST 1048576: true; the input reads as it did. -/
def bytesqPlaysUptoRow : OpenClaim := { program := "ytkikdpfhcepeaaa", sum := "0d0e7434410692b27dea7dbb6169eccb70c3180e41306b7d8115ce20b20d7c8f", func := "bellman/bellmanlaw02.BytesqPlays", spec := "bytesqPlays", unfollowed := true, recurses := true, apart := false, narrowed := true }
def BytesqPlaysUptoSaid : Prop := bytesqPlaysUptoRow.holds Try.pinned (OpenSpec.upto bytesqPlaysSpec)

/-- 'bellmanlaw02.BytesqCopies', WHERE WHAT IT READS IS OF BULK AT MOST 1048576: true; the input reads as it did. -/
def bytesqCopiesUptoRow : OpenClaim := { program := "ytkikdpfhcepeaaa", sum := "0d0e7434410692b27dea7dbb6169eccb70c3180e41306b7d8115ce20b20d7c8f", func := "bellman/bellmanlaw02.BytesqCopies", spec := "bytesqCopies", unfollowed := true, recurses := true, apart := false, narrowed := true }
def BytesqCopiesUptoSaid : Prop := bytesqCopiesUptoRow.holds Try.pinned (OpenSpec.upto bytesqCopiesSpec)

/-- 'bellmanlaw02.BytesqNone', WHERE WHAT IT READS IS OF BULK AT MOST 1048576: true; the input reads as it did. -/
def bytesqNoneUptoRow : OpenClaim := { program := "ytkikdpfhcepeaaa", sum := "0d0e7434410692b27dea7dbb6169eccb70c3180e41306b7d8115ce20b20d7c8f", func := "bellman/bellmanlaw02.BytesqNone", spec := "bytesqNone", unfollowed := true, recurses := true, apart := false, narrowed := true }
def BytesqNoneUptoSaid : Prop := bytesqNoneUptoRow.holds Try.pinned (OpenSpec.upto bytesqNoneSpec)

end Rows
end Go.Proofs.Ytkikdpfhcepeaaa
