/-
  No cell of these rows narrows 'for every input' (looked for: loops, veiled, ifaces, maps, wideKeys, modest, calm, conditions, laid).
  DERIVED. THE GIVEN ROWS OF THIS SEAT. 4 by the template 'for every input the law returns true; each argument reads behind the call as it read before'; 0 by the template 'total and deterministic' (their statements: YtfnojmkiajdoaaaTotals.lean).
  GIVEN WITH THE SEED: the statements are not yours to turn. If you find one false, say at which input.
  Laid BY PROGRAM, IN A SANDBOX (cutbox-rows.mjs): the forced cells as the released guide's own fill.sh prints them over the translation ca51e02112645457… (all of the seat's roots in one cut). By AI agents, Wed Nov 11 2026. No macro, syntax, notation, axiom, sorry.
-/
import Derived.Test.YtfnojmkiajdoaaaChecked
import GoSem.Claim
import GoSem.ClaimJoined
import GoSem.ClaimMapViews
import Derived.JoinedTies
import Derived.KernelRfl
namespace Go.Proofs.Ytfnojmkiajdoaaa
/- THE CELL 'sum', in the pinned program and in every row, IS THE sha256 OF THE DUMP (.gsa) THAT YtfnojmkiajdoaaaProg.lean LOADS. Nothing in Lean hashes anything: it is a label: what it is worth is what the hold of that sum in a sandbox is worth. -/
noncomputable def Try.pinned : Pinned := { name := "ytfnojmkiajdoaaa", sum := "ca51e02112645457e3d71bfd7577771d49d689a73b49c09d76db23e5bd08bbd4", checked := Try.checked }
namespace Rows
def none {H : Type} : Left H := { results := [], args := [] }

/-- 'bellmanlaw06.FieldOf': WHATEVER THE INPUT: true; the input reads as it did. -/
def fieldOfSpec : ChangeSpec := { name := "fieldOf", fn := fun _ => fun
  | [d] => { results := [.lit (.bool true)], args := [d] }
  | _ => none }
def fieldOfRow : OpenClaim := { program := "ytfnojmkiajdoaaa", sum := "ca51e02112645457e3d71bfd7577771d49d689a73b49c09d76db23e5bd08bbd4", func := "bellman/bellmanlaw06.FieldOf", spec := "fieldOf", inPlace := ["internal/bytealg.IndexByteString", "internal/bytealg.IndexString"], unfollowed := true, recurses := true, named := ["internal/bytealg.MaxLen"], apart := false }
def FieldOfSaid : Prop := fieldOfRow.holds Try.pinned (OpenSpec.ofChange fieldOfSpec)

/-- ITS FALSE NEIGHBOUR: 'it returns false'. Refute it at one input. -/
def fieldOfWrong : ChangeSpec := { name := "fieldOf", fn := fun _ => fun
  | [d] => { results := [.lit (.bool false)], args := [d] }
  | _ => none }
def FieldOfWrongFalsely : Prop := fieldOfRow.holds Try.pinned (OpenSpec.ofChange fieldOfWrong)

/-- 'bellmanlaw06.FieldHolds': WHATEVER THE INPUT: true; the input reads as it did. -/
def fieldHoldsSpec : ChangeSpec := { name := "fieldHolds", fn := fun _ => fun
  | [d1, d2] => { results := [.lit (.bool true)], args := [d1, d2] }
  | _ => none }
def fieldHoldsRow : OpenClaim := { program := "ytfnojmkiajdoaaa", sum := "ca51e02112645457e3d71bfd7577771d49d689a73b49c09d76db23e5bd08bbd4", func := "bellman/bellmanlaw06.FieldHolds", spec := "fieldHolds", inPlace := ["internal/bytealg.IndexByteString", "internal/bytealg.IndexString"], unfollowed := true, recurses := true, named := ["internal/bytealg.MaxLen"], apart := false }
def FieldHoldsSaid : Prop := fieldHoldsRow.holds Try.pinned (OpenSpec.ofChange fieldHoldsSpec)

/-- ITS FALSE NEIGHBOUR: 'it returns false'. Refute it at one input. -/
def fieldHoldsWrong : ChangeSpec := { name := "fieldHolds", fn := fun _ => fun
  | [d1, d2] => { results := [.lit (.bool false)], args := [d1, d2] }
  | _ => none }
def FieldHoldsWrongFalsely : Prop := fieldHoldsRow.holds Try.pinned (OpenSpec.ofChange fieldHoldsWrong)

/-- 'bellmanlaw06.FieldLine': WHATEVER THE INPUT: true; the input reads as it did. -/
def fieldLineSpec : ChangeSpec := { name := "fieldLine", fn := fun _ => fun
  | [d] => { results := [.lit (.bool true)], args := [d] }
  | _ => none }
def fieldLineRow : OpenClaim := { program := "ytfnojmkiajdoaaa", sum := "ca51e02112645457e3d71bfd7577771d49d689a73b49c09d76db23e5bd08bbd4", func := "bellman/bellmanlaw06.FieldLine", spec := "fieldLine", inPlace := ["internal/bytealg.IndexByteString", "internal/bytealg.IndexString"], unfollowed := true, recurses := true, named := ["internal/bytealg.MaxLen"], apart := false }
def FieldLineSaid : Prop := fieldLineRow.holds Try.pinned (OpenSpec.ofChange fieldLineSpec)

/-- ITS FALSE NEIGHBOUR: 'it returns false'. Refute it at one input. -/
def fieldLineWrong : ChangeSpec := { name := "fieldLine", fn := fun _ => fun
  | [d] => { results := [.lit (.bool false)], args := [d] }
  | _ => none }
def FieldLineWrongFalsely : Prop := fieldLineRow.holds Try.pinned (OpenSpec.ofChange fieldLineWrong)

/-- 'bellmanlaw06.FieldEach': WHATEVER THE INPUT: true; the input reads as it did. -/
def fieldEachSpec : ChangeSpec := { name := "fieldEach", fn := fun _ => fun
  | [d1, d2] => { results := [.lit (.bool true)], args := [d1, d2] }
  | _ => none }
def fieldEachRow : OpenClaim := { program := "ytfnojmkiajdoaaa", sum := "ca51e02112645457e3d71bfd7577771d49d689a73b49c09d76db23e5bd08bbd4", func := "bellman/bellmanlaw06.FieldEach", spec := "fieldEach", inPlace := ["internal/bytealg.IndexByteString", "internal/bytealg.IndexString"], unfollowed := true, recurses := true, named := ["internal/bytealg.MaxLen"], apart := false }
def FieldEachSaid : Prop := fieldEachRow.holds Try.pinned (OpenSpec.ofChange fieldEachSpec)

/-- ITS FALSE NEIGHBOUR: 'it returns false'. Refute it at one input. -/
def fieldEachWrong : ChangeSpec := { name := "fieldEach", fn := fun _ => fun
  | [d1, d2] => { results := [.lit (.bool false)], args := [d1, d2] }
  | _ => none }
def FieldEachWrongFalsely : Prop := fieldEachRow.holds Try.pinned (OpenSpec.ofChange fieldEachWrong)

/- THE SECOND FORM. 'bulk': how many values and letters a reading holds, each counted each time it is reached (what is shared counts as often as it is met; a slice's spare places count too). A statement '..UptoSaid' is the law's where the arguments, and the package variables that the reading takes, are together of bulk at most 1048576: NARROWER than '..Said'. Prove '..Said' where nothing that the law and all that it calls make is longer than what came in: it says more and counts as full. Else prove '..UptoSaid'. A law counts once. -/
mutual
def uptoBulk {H : Type} : DataW H → Nat
  | .lit (.string bytes) => bytes.length + 1
  | .lit _ => 1
  | .nil => 1
  | .ptr d => uptoBulk d + 1
  | .slice elems spare => uptoBulkAll elems + uptoBulkAll spare + 1
  | .agg parts => uptoBulkAll parts + 1
  | .iface _ d => uptoBulk d + 1
  | .map entries => uptoBulkEntries entries + 1
  | .held _ => 1
def uptoBulkAll {H : Type} : List (DataW H) → Nat
  | [] => 0
  | d :: r => uptoBulk d + uptoBulkAll r
def uptoBulkEntries {H : Type} : List (Lit × DataW H) → Nat
  | [] => 0
  | x :: r => uptoBulkEntry x + uptoBulkEntries r
def uptoBulkEntry {H : Type} : Lit × DataW H → Nat
  | (.string bytes, d) => bytes.length + uptoBulk d + 1
  | (_, d) => uptoBulk d + 1
 end
def uptoSmall : (H : Type) → List (DataW H) → Bool := fun _ ds => decide (uptoBulkAll ds ≤ 1048576)
def OpenSpec.upto (s : _root_.Go.ChangeSpec) : _root_.Go.OpenSpec := { _root_.Go.OpenSpec.ofChange s with cond := some uptoSmall }

/-- 'bellmanlaw06.FieldOf', WHERE WHAT IT READS IS OF BULK AT MOST 1048576: true; the input reads as it did. -/
def fieldOfUptoRow : OpenClaim := { program := "ytfnojmkiajdoaaa", sum := "ca51e02112645457e3d71bfd7577771d49d689a73b49c09d76db23e5bd08bbd4", func := "bellman/bellmanlaw06.FieldOf", spec := "fieldOf", inPlace := ["internal/bytealg.IndexByteString", "internal/bytealg.IndexString"], unfollowed := true, recurses := true, named := ["internal/bytealg.MaxLen"], apart := false, narrowed := true }
def FieldOfUptoSaid : Prop := fieldOfUptoRow.holds Try.pinned (OpenSpec.upto fieldOfSpec)

/-- 'bellmanlaw06.FieldHolds', WHERE WHAT IT READS IS OF BULK AT MOST 1048576: true; the input reads as it did. -/
def fieldHoldsUptoRow : OpenClaim := { program := "ytfnojmkiajdoaaa", sum := "ca51e02112645457e3d71bfd7577771d49d689a73b49c09d76db23e5bd08bbd4", func := "bellman/bellmanlaw06.FieldHolds", spec := "fieldHolds", inPlace := ["internal/bytealg.IndexByteString", "internal/bytealg.IndexString"], unfollowed := true, recurses := true, named := ["internal/bytealg.MaxLen"], apart := false, narrowed := true }
def FieldHoldsUptoSaid : Prop := fieldHoldsUptoRow.holds Try.pinned (OpenSpec.upto fieldHoldsSpec)

/-- 'bellmanlaw06.FieldLine', WHERE WHAT IT READS IS OF BULK AT MOST 1048576: true; the input reads as it did. -/
def fieldLineUptoRow : OpenClaim := { program := "ytfnojmkiajdoaaa", sum := "ca51e02112645457e3d71bfd7577771d49d689a73b49c09d76db23e5bd08bbd4", func := "bellman/bellmanlaw06.FieldLine", spec := "fieldLine", inPlace := ["internal/bytealg.IndexByteString", "internal/bytealg.IndexString"], unfollowed := true, recurses := true, named := ["internal/bytealg.MaxLen"], apart := false, narrowed := true }
def FieldLineUptoSaid : Prop := fieldLineUptoRow.holds Try.pinned (OpenSpec.upto fieldLineSpec)

/-- 'bellmanlaw06.FieldEach', WHERE WHAT IT READS IS OF BULK AT MOST 1048576: true; the input reads as it did. -/
def fieldEachUptoRow : OpenClaim := { program := "ytfnojmkiajdoaaa", sum := "ca51e02112645457e3d71bfd7577771d49d689a73b49c09d76db23e5bd08bbd4", func := "bellman/bellmanlaw06.FieldEach", spec := "fieldEach", inPlace := ["internal/bytealg.IndexByteString", "internal/bytealg.IndexString"], unfollowed := true, recurses := true, named := ["internal/bytealg.MaxLen"], apart := false, narrowed := true }
def FieldEachUptoSaid : Prop := fieldEachUptoRow.holds Try.pinned (OpenSpec.upto fieldEachSpec)

end Rows
end Go.Proofs.Ytfnojmkiajdoaaa
