/-
  No cell of these rows narrows 'for every input' (looked for: loops, veiled, ifaces, maps, wideKeys, modest, calm, conditions, laid).
  DERIVED. THE GIVEN ROWS OF THIS SEAT. 5 by the template 'for every input the law returns true; each argument reads behind the call as it read before'; 0 by the template 'total and deterministic' (their statements: YtnmbhcekcdicnaaTotals.lean).
  GIVEN WITH THE SEED: the statements are not yours to turn. If you find one false, say at which input.
  Laid BY PROGRAM, IN A SANDBOX (cutbox-rows.mjs): the forced cells as the released guide's own fill.sh prints them over the translation 5937ed40428d1478… (all of the seat's roots in one cut). By AI agents, Wed Nov 11 2026. No macro, syntax, notation, axiom, sorry.
-/
import Derived.Test.YtnmbhcekcdicnaaChecked
import GoSem.Claim
import GoSem.ClaimJoined
import GoSem.ClaimMapViews
import Derived.JoinedTies
import Derived.KernelRfl
namespace Go.Proofs.Ytnmbhcekcdicnaa
/- THE CELL 'sum', in the pinned program and in every row, IS THE sha256 OF THE DUMP (.gsa) THAT YtnmbhcekcdicnaaProg.lean LOADS. Nothing in Lean hashes anything: it is a label: what it is worth is what the hold of that sum in a sandbox is worth. -/
noncomputable def Try.pinned : Pinned := { name := "ytnmbhcekcdicnaa", sum := "5937ed40428d1478cbcfec83f5fe1012a2b576f4b742721d6dfc098fff51b2c5", checked := Try.checked }
namespace Rows
def none {H : Type} : Left H := { results := [], args := [] }

/-- 'bellmanlaw21.TimerAll': WHATEVER THE INPUT: true; the input reads as it did. -/
def timerAllSpec : ChangeSpec := { name := "timerAll", fn := fun _ => fun
  | [d1, d2, d3, d4] => { results := [.lit (.bool true)], args := [d1, d2, d3, d4] }
  | _ => none }
def timerAllRow : OpenClaim := { program := "ytnmbhcekcdicnaa", sum := "5937ed40428d1478cbcfec83f5fe1012a2b576f4b742721d6dfc098fff51b2c5", func := "bellman/bellmanlaw21.TimerAll", spec := "timerAll", inPlace := ["slices.overlaps[bellman/timer.row]", "maps.clone"], unfollowed := true, recurses := true, plainKeys := false, apart := false }
def TimerAllSaid : Prop := timerAllRow.holds Try.pinned (OpenSpec.ofChange timerAllSpec)

/-- ITS FALSE NEIGHBOUR: 'it returns false'. Refute it at one input. -/
def timerAllWrong : ChangeSpec := { name := "timerAll", fn := fun _ => fun
  | [d1, d2, d3, d4] => { results := [.lit (.bool false)], args := [d1, d2, d3, d4] }
  | _ => none }
def TimerAllWrongFalsely : Prop := timerAllRow.holds Try.pinned (OpenSpec.ofChange timerAllWrong)

/-- 'bellmanlaw21.TimerCopies': WHATEVER THE INPUT: true; the input reads as it did. -/
def timerCopiesSpec : ChangeSpec := { name := "timerCopies", fn := fun _ => fun
  | [d1, d2, d3, d4] => { results := [.lit (.bool true)], args := [d1, d2, d3, d4] }
  | _ => none }
def timerCopiesRow : OpenClaim := { program := "ytnmbhcekcdicnaa", sum := "5937ed40428d1478cbcfec83f5fe1012a2b576f4b742721d6dfc098fff51b2c5", func := "bellman/bellmanlaw21.TimerCopies", spec := "timerCopies", inPlace := ["slices.overlaps[bellman/timer.row]", "maps.clone"], unfollowed := true, recurses := true, plainKeys := false, apart := false }
def TimerCopiesSaid : Prop := timerCopiesRow.holds Try.pinned (OpenSpec.ofChange timerCopiesSpec)

/-- ITS FALSE NEIGHBOUR: 'it returns false'. Refute it at one input. -/
def timerCopiesWrong : ChangeSpec := { name := "timerCopies", fn := fun _ => fun
  | [d1, d2, d3, d4] => { results := [.lit (.bool false)], args := [d1, d2, d3, d4] }
  | _ => none }
def TimerCopiesWrongFalsely : Prop := timerCopiesRow.holds Try.pinned (OpenSpec.ofChange timerCopiesWrong)

/-- 'bellmanlaw21.TimerFull': WHATEVER THE INPUT: true; the input reads as it did. -/
def timerFullSpec : ChangeSpec := { name := "timerFull", fn := fun _ => fun
  | [d1, d2, d3] => { results := [.lit (.bool true)], args := [d1, d2, d3] }
  | _ => none }
def timerFullRow : OpenClaim := { program := "ytnmbhcekcdicnaa", sum := "5937ed40428d1478cbcfec83f5fe1012a2b576f4b742721d6dfc098fff51b2c5", func := "bellman/bellmanlaw21.TimerFull", spec := "timerFull", inPlace := ["slices.overlaps[bellman/timer.row]"], unfollowed := true, recurses := true, plainKeys := false, apart := false }
def TimerFullSaid : Prop := timerFullRow.holds Try.pinned (OpenSpec.ofChange timerFullSpec)

/-- ITS FALSE NEIGHBOUR: 'it returns false'. Refute it at one input. -/
def timerFullWrong : ChangeSpec := { name := "timerFull", fn := fun _ => fun
  | [d1, d2, d3] => { results := [.lit (.bool false)], args := [d1, d2, d3] }
  | _ => none }
def TimerFullWrongFalsely : Prop := timerFullRow.holds Try.pinned (OpenSpec.ofChange timerFullWrong)

/-- 'bellmanlaw21.TimerHolds': WHATEVER THE INPUT: true; the input reads as it did. -/
def timerHoldsSpec : ChangeSpec := { name := "timerHolds", fn := fun _ => fun
  | [d1, d2, d3] => { results := [.lit (.bool true)], args := [d1, d2, d3] }
  | _ => none }
def timerHoldsRow : OpenClaim := { program := "ytnmbhcekcdicnaa", sum := "5937ed40428d1478cbcfec83f5fe1012a2b576f4b742721d6dfc098fff51b2c5", func := "bellman/bellmanlaw21.TimerHolds", spec := "timerHolds", inPlace := ["slices.overlaps[bellman/timer.row]"], unfollowed := true, recurses := true, plainKeys := false, apart := false }
def TimerHoldsSaid : Prop := timerHoldsRow.holds Try.pinned (OpenSpec.ofChange timerHoldsSpec)

/-- ITS FALSE NEIGHBOUR: 'it returns false'. Refute it at one input. -/
def timerHoldsWrong : ChangeSpec := { name := "timerHolds", fn := fun _ => fun
  | [d1, d2, d3] => { results := [.lit (.bool false)], args := [d1, d2, d3] }
  | _ => none }
def TimerHoldsWrongFalsely : Prop := timerHoldsRow.holds Try.pinned (OpenSpec.ofChange timerHoldsWrong)

/-- 'bellmanlaw21.TimerPlays': WHATEVER THE INPUT: true; the input reads as it did. -/
def timerPlaysSpec : ChangeSpec := { name := "timerPlays", fn := fun _ => fun
  | [d1, d2, d3] => { results := [.lit (.bool true)], args := [d1, d2, d3] }
  | _ => none }
def timerPlaysRow : OpenClaim := { program := "ytnmbhcekcdicnaa", sum := "5937ed40428d1478cbcfec83f5fe1012a2b576f4b742721d6dfc098fff51b2c5", func := "bellman/bellmanlaw21.TimerPlays", spec := "timerPlays", inPlace := ["slices.overlaps[bellman/timer.row]", "maps.clone"], unfollowed := true, recurses := true, plainKeys := false, apart := false }
def TimerPlaysSaid : Prop := timerPlaysRow.holds Try.pinned (OpenSpec.ofChange timerPlaysSpec)

/-- ITS FALSE NEIGHBOUR: 'it returns false'. Refute it at one input. -/
def timerPlaysWrong : ChangeSpec := { name := "timerPlays", fn := fun _ => fun
  | [d1, d2, d3] => { results := [.lit (.bool false)], args := [d1, d2, d3] }
  | _ => none }
def TimerPlaysWrongFalsely : Prop := timerPlaysRow.holds Try.pinned (OpenSpec.ofChange timerPlaysWrong)

/- THE SECOND FORM. 'bulk': how many values and letters a reading holds, each counted each time it is reached (what is shared counts as often as it is met; a slice's spare places count too). A statement '..UptoSaid' is the law's where the arguments, and the package variables that the reading takes, are together of bulk at most 1048576: NARROWER than '..Said'. Prove '..Said' where nothing that the law and all that it calls make is longer than what came in: it says more and counts as full. Else prove '..UptoSaid'. A law counts once. -/
mutual
def uptoBulk {H : Type} : DataW H → Nat
  | .lit (.string bytes) => bytes.length + 1
  | .lit _ => 1
  | .nil => 1
  | .ptr d => uptoBulk d + 1
  | .slice elems spare => uptoBulkAll elems + uptoBulkAll spare + 1
  | .agg parts => uptoBulkAll parts + 1
  | .iface _ d => uptoBulk d + 1
  | .map entries => uptoBulkEntries entries + 1
  | .held _ => 1
def uptoBulkAll {H : Type} : List (DataW H) → Nat
  | [] => 0
  | d :: r => uptoBulk d + uptoBulkAll r
def uptoBulkEntries {H : Type} : List (Lit × DataW H) → Nat
  | [] => 0
  | x :: r => uptoBulkEntry x + uptoBulkEntries r
def uptoBulkEntry {H : Type} : Lit × DataW H → Nat
  | (.string bytes, d) => bytes.length + uptoBulk d + 1
  | (_, d) => uptoBulk d + 1
 end
def uptoSmall : (H : Type) → List (DataW H) → Bool := fun _ ds => decide (uptoBulkAll ds ≤ 1048576)
def OpenSpec.upto (s : _root_.Go.ChangeSpec) : _root_.Go.OpenSpec := { _root_.Go.OpenSpec.ofChange s with cond := some uptoSmall }

/-- 'bellmanlaw21.TimerAll', WHERE WHAT IT READS IS OF BULK AT MOST 1048576: true; the input reads as it did. -/
def timerAllUptoRow : OpenClaim := { program := "ytnmbhcekcdicnaa", sum := "5937ed40428d1478cbcfec83f5fe1012a2b576f4b742721d6dfc098fff51b2c5", func := "bellman/bellmanlaw21.TimerAll", spec := "timerAll", inPlace := ["slices.overlaps[bellman/timer.row]", "maps.clone"], unfollowed := true, recurses := true, plainKeys := false, apart := false, narrowed := true }
def TimerAllUptoSaid : Prop := timerAllUptoRow.holds Try.pinned (OpenSpec.upto timerAllSpec)

/-- 'bellmanlaw21.TimerCopies', WHERE WHAT IT READS IS OF BULK AT MOST 1048576: true; the input reads as it did. -/
def timerCopiesUptoRow : OpenClaim := { program := "ytnmbhcekcdicnaa", sum := "5937ed40428d1478cbcfec83f5fe1012a2b576f4b742721d6dfc098fff51b2c5", func := "bellman/bellmanlaw21.TimerCopies", spec := "timerCopies", inPlace := ["slices.overlaps[bellman/timer.row]", "maps.clone"], unfollowed := true, recurses := true, plainKeys := false, apart := false, narrowed := true }
def TimerCopiesUptoSaid : Prop := timerCopiesUptoRow.holds Try.pinned (OpenSpec.upto timerCopiesSpec)

/-- 'bellmanlaw21.TimerFull', WHERE WHAT IT READS IS OF BULK AT MOST 1048576: true; the input reads as it did. -/
def timerFullUptoRow : OpenClaim := { program := "ytnmbhcekcdicnaa", sum := "5937ed40428d1478cbcfec83f5fe1012a2b576f4b742721d6dfc098fff51b2c5", func := "bellman/bellmanlaw21.TimerFull", spec := "timerFull", inPlace := ["slices.overlaps[bellman/timer.row]"], unfollowed := true, recurses := true, plainKeys := false, apart := false, narrowed := true }
def TimerFullUptoSaid : Prop := timerFullUptoRow.holds Try.pinned (OpenSpec.upto timerFullSpec)

/-- 'bellmanlaw21.TimerHolds', WHERE WHAT IT READS IS OF BULK AT MOST 1048576: true; the input reads as it did. -/
def timerHoldsUptoRow : OpenClaim := { program := "ytnmbhcekcdicnaa", sum := "5937ed40428d1478cbcfec83f5fe1012a2b576f4b742721d6dfc098fff51b2c5", func := "bellman/bellmanlaw21.TimerHolds", spec := "timerHolds", inPlace := ["slices.overlaps[bellman/timer.row]"], unfollowed := true, recurses := true, plainKeys := false, apart := false, narrowed := true }
def TimerHoldsUptoSaid : Prop := timerHoldsUptoRow.holds Try.pinned (OpenSpec.upto timerHoldsSpec)

/-- 'bellmanlaw21.TimerPlays', WHERE WHAT IT READS IS OF BULK AT MOST 1048576: true; the input reads as it did. -/
def timerPlaysUptoRow : OpenClaim := { program := "ytnmbhcekcdicnaa", sum := "5937ed40428d1478cbcfec83f5fe1012a2b576f4b742721d6dfc098fff51b2c5", func := "bellman/bellmanlaw21.TimerPlays", spec := "timerPlays", inPlace := ["slices.overlaps[bellman/timer.row]", "maps.clone"], unfollowed := true, recurses := true, plainKeys := false, apart := false, narrowed := true }
def TimerPlaysUptoSaid : Prop := timerPlaysUptoRow.holds Try.pinned (OpenSpec.upto timerPlaysSpec)

end Rows
end Go.Proofs.Ytnmbhcekcdicnaa
