/-
  No cell of these rows narrows 'for every input' (looked for: loops, veiled, ifaces, maps, wideKeys, modest, calm, conditions, laid).
  DERIVED. THE GIVEN ROWS OF THIS SEAT. 6 by the template 'for every input the law returns true; each argument reads behind the call as it read before'; 0 by the template 'total and deterministic' (their statements: YtgjclhhjigflkacTotals.lean).
  GIVEN WITH THE SEED: the statements are not yours to turn. If you find one false, say at which input.
  Laid BY PROGRAM, IN A SANDBOX (cutbox-rows.mjs): the forced cells as the released guide's own fill.sh prints them over the translation 6b9f9d250df27c97… (all of the seat's roots in one cut). By AI agents, Wed Nov 11 2026. No macro, syntax, notation, axiom, sorry.
-/
import Derived.Test.YtgjclhhjigflkacChecked
import GoSem.Claim
import GoSem.ClaimJoined
import GoSem.ClaimMapViews
import Derived.JoinedTies
import Derived.KernelRfl
namespace Go.Proofs.Ytgjclhhjigflkac
/- THE CELL 'sum', in the pinned program and in every row, IS THE sha256 OF THE DUMP (.gsa) THAT YtgjclhhjigflkacProg.lean LOADS. Nothing in Lean hashes anything: it is a label: what it is worth is what the hold of that sum in a sandbox is worth. -/
noncomputable def Try.pinned : Pinned := { name := "ytgjclhhjigflkac", sum := "6b9f9d250df27c97240772d4f4f5ae344efe5e5efd24306aad2ef70b49c2172a", checked := Try.checked }
namespace Rows
def none {H : Type} : Left H := { results := [], args := [] }

/-- 'peristylelaw27.MoverKeeps': WHATEVER THE INPUT: true; the input reads as it did. -/
def moverKeepsSpec : ChangeSpec := { name := "moverKeeps", fn := fun _ => fun
  | [d1, d2, d3] => { results := [.lit (.bool true)], args := [d1, d2, d3] }
  | _ => none }
def moverKeepsRow : OpenClaim := { program := "ytgjclhhjigflkac", sum := "6b9f9d250df27c97240772d4f4f5ae344efe5e5efd24306aad2ef70b49c2172a", func := "peristyle/peristylelaw27.MoverKeeps", spec := "moverKeeps", inPlace := ["internal/abi.NoEscape"], unfollowed := true, recurses := true, apart := false }
def MoverKeepsSaid : Prop := moverKeepsRow.holds Try.pinned (OpenSpec.ofChange moverKeepsSpec)

/-- ITS FALSE NEIGHBOUR: 'it returns false'. Refute it at one input. -/
def moverKeepsWrong : ChangeSpec := { name := "moverKeeps", fn := fun _ => fun
  | [d1, d2, d3] => { results := [.lit (.bool false)], args := [d1, d2, d3] }
  | _ => none }
def MoverKeepsWrongFalsely : Prop := moverKeepsRow.holds Try.pinned (OpenSpec.ofChange moverKeepsWrong)

/-- 'peristylelaw27.MoverProjects': WHATEVER THE INPUT: true; the input reads as it did. -/
def moverProjectsSpec : ChangeSpec := { name := "moverProjects", fn := fun _ => fun
  | [d1, d2, d3] => { results := [.lit (.bool true)], args := [d1, d2, d3] }
  | _ => none }
def moverProjectsRow : OpenClaim := { program := "ytgjclhhjigflkac", sum := "6b9f9d250df27c97240772d4f4f5ae344efe5e5efd24306aad2ef70b49c2172a", func := "peristyle/peristylelaw27.MoverProjects", spec := "moverProjects", inPlace := ["internal/abi.NoEscape"], unfollowed := true, recurses := true, apart := false }
def MoverProjectsSaid : Prop := moverProjectsRow.holds Try.pinned (OpenSpec.ofChange moverProjectsSpec)

/-- ITS FALSE NEIGHBOUR: 'it returns false'. Refute it at one input. -/
def moverProjectsWrong : ChangeSpec := { name := "moverProjects", fn := fun _ => fun
  | [d1, d2, d3] => { results := [.lit (.bool false)], args := [d1, d2, d3] }
  | _ => none }
def MoverProjectsWrongFalsely : Prop := moverProjectsRow.holds Try.pinned (OpenSpec.ofChange moverProjectsWrong)

/-- 'peristylelaw25.SchemaBytes': WHATEVER THE INPUT: true; the input reads as it did. -/
def schemaBytesSpec : ChangeSpec := { name := "schemaBytes", fn := fun _ => fun
  | [d1, d2] => { results := [.lit (.bool true)], args := [d1, d2] }
  | _ => none }
def schemaBytesRow : OpenClaim := { program := "ytgjclhhjigflkac", sum := "6b9f9d250df27c97240772d4f4f5ae344efe5e5efd24306aad2ef70b49c2172a", func := "peristyle/peristylelaw25.SchemaBytes", spec := "schemaBytes", inPlace := ["internal/abi.NoEscape"], unfollowed := true, recurses := true, apart := false }
def SchemaBytesSaid : Prop := schemaBytesRow.holds Try.pinned (OpenSpec.ofChange schemaBytesSpec)

/-- ITS FALSE NEIGHBOUR: 'it returns false'. Refute it at one input. -/
def schemaBytesWrong : ChangeSpec := { name := "schemaBytes", fn := fun _ => fun
  | [d1, d2] => { results := [.lit (.bool false)], args := [d1, d2] }
  | _ => none }
def SchemaBytesWrongFalsely : Prop := schemaBytesRow.holds Try.pinned (OpenSpec.ofChange schemaBytesWrong)

/-- 'peristylelaw25.SchemaFinds': WHATEVER THE INPUT: true; the input reads as it did. -/
def schemaFindsSpec : ChangeSpec := { name := "schemaFinds", fn := fun _ => fun
  | [d1, d2, d3] => { results := [.lit (.bool true)], args := [d1, d2, d3] }
  | _ => none }
def schemaFindsRow : OpenClaim := { program := "ytgjclhhjigflkac", sum := "6b9f9d250df27c97240772d4f4f5ae344efe5e5efd24306aad2ef70b49c2172a", func := "peristyle/peristylelaw25.SchemaFinds", spec := "schemaFinds", inPlace := ["internal/abi.NoEscape"], unfollowed := true, recurses := true, apart := false }
def SchemaFindsSaid : Prop := schemaFindsRow.holds Try.pinned (OpenSpec.ofChange schemaFindsSpec)

/-- ITS FALSE NEIGHBOUR: 'it returns false'. Refute it at one input. -/
def schemaFindsWrong : ChangeSpec := { name := "schemaFinds", fn := fun _ => fun
  | [d1, d2, d3] => { results := [.lit (.bool false)], args := [d1, d2, d3] }
  | _ => none }
def SchemaFindsWrongFalsely : Prop := schemaFindsRow.holds Try.pinned (OpenSpec.ofChange schemaFindsWrong)

/-- 'peristylelaw25.SchemaChanges': WHATEVER THE INPUT: true; the input reads as it did. -/
def schemaChangesSpec : ChangeSpec := { name := "schemaChanges", fn := fun _ => fun
  | [d1, d2] => { results := [.lit (.bool true)], args := [d1, d2] }
  | _ => none }
def schemaChangesRow : OpenClaim := { program := "ytgjclhhjigflkac", sum := "6b9f9d250df27c97240772d4f4f5ae344efe5e5efd24306aad2ef70b49c2172a", func := "peristyle/peristylelaw25.SchemaChanges", spec := "schemaChanges", inPlace := ["internal/abi.NoEscape"], unfollowed := true, recurses := true, apart := false }
def SchemaChangesSaid : Prop := schemaChangesRow.holds Try.pinned (OpenSpec.ofChange schemaChangesSpec)

/-- ITS FALSE NEIGHBOUR: 'it returns false'. Refute it at one input. -/
def schemaChangesWrong : ChangeSpec := { name := "schemaChanges", fn := fun _ => fun
  | [d1, d2] => { results := [.lit (.bool false)], args := [d1, d2] }
  | _ => none }
def SchemaChangesWrongFalsely : Prop := schemaChangesRow.holds Try.pinned (OpenSpec.ofChange schemaChangesWrong)

/-- 'peristylelaw25.SchemaStays': WHATEVER THE INPUT: true; the input reads as it did. -/
def schemaStaysSpec : ChangeSpec := { name := "schemaStays", fn := fun _ => fun
  | [d] => { results := [.lit (.bool true)], args := [d] }
  | _ => none }
def schemaStaysRow : OpenClaim := { program := "ytgjclhhjigflkac", sum := "6b9f9d250df27c97240772d4f4f5ae344efe5e5efd24306aad2ef70b49c2172a", func := "peristyle/peristylelaw25.SchemaStays", spec := "schemaStays", inPlace := ["internal/abi.NoEscape"], unfollowed := true, recurses := true, apart := false }
def SchemaStaysSaid : Prop := schemaStaysRow.holds Try.pinned (OpenSpec.ofChange schemaStaysSpec)

/-- ITS FALSE NEIGHBOUR: 'it returns false'. Refute it at one input. -/
def schemaStaysWrong : ChangeSpec := { name := "schemaStays", fn := fun _ => fun
  | [d] => { results := [.lit (.bool false)], args := [d] }
  | _ => none }
def SchemaStaysWrongFalsely : Prop := schemaStaysRow.holds Try.pinned (OpenSpec.ofChange schemaStaysWrong)

/- THE SECOND FORM. 'bulk': how many values and letters a reading holds, each counted each time it is reached (what is shared counts as often as it is met; a slice's spare places count too). A statement '..UptoSaid' is the law's where the arguments, and the package variables that the reading takes, are together of bulk at most 1048576: NARROWER than '..Said'. Prove '..Said' where nothing that the law and all that it calls make is longer than what came in: it says more and counts as full. Else prove '..UptoSaid'. A law counts once. -/
mutual
def uptoBulk {H : Type} : DataW H → Nat
  | .lit (.string bytes) => bytes.length + 1
  | .lit _ => 1
  | .nil => 1
  | .ptr d => uptoBulk d + 1
  | .slice elems spare => uptoBulkAll elems + uptoBulkAll spare + 1
  | .agg parts => uptoBulkAll parts + 1
  | .iface _ d => uptoBulk d + 1
  | .map entries => uptoBulkEntries entries + 1
  | .held _ => 1
def uptoBulkAll {H : Type} : List (DataW H) → Nat
  | [] => 0
  | d :: r => uptoBulk d + uptoBulkAll r
def uptoBulkEntries {H : Type} : List (Lit × DataW H) → Nat
  | [] => 0
  | x :: r => uptoBulkEntry x + uptoBulkEntries r
def uptoBulkEntry {H : Type} : Lit × DataW H → Nat
  | (.string bytes, d) => bytes.length + uptoBulk d + 1
  | (_, d) => uptoBulk d + 1
 end
def uptoSmall : (H : Type) → List (DataW H) → Bool := fun _ ds => decide (uptoBulkAll ds ≤ 1048576)
def OpenSpec.upto (s : _root_.Go.ChangeSpec) : _root_.Go.OpenSpec := { _root_.Go.OpenSpec.ofChange s with cond := some uptoSmall }

/-- 'peristylelaw27.MoverKeeps', WHERE WHAT IT READS IS OF BULK AT MOST 1048576: true; the input reads as it did. -/
def moverKeepsUptoRow : OpenClaim := { program := "ytgjclhhjigflkac", sum := "6b9f9d250df27c97240772d4f4f5ae344efe5e5efd24306aad2ef70b49c2172a", func := "peristyle/peristylelaw27.MoverKeeps", spec := "moverKeeps", inPlace := ["internal/abi.NoEscape"], unfollowed := true, recurses := true, apart := false, narrowed := true }
def MoverKeepsUptoSaid : Prop := moverKeepsUptoRow.holds Try.pinned (OpenSpec.upto moverKeepsSpec)

/-- 'peristylelaw27.MoverProjects', WHERE WHAT IT READS IS OF BULK AT MOST 1048576: true; the input reads as it did. -/
def moverProjectsUptoRow : OpenClaim := { program := "ytgjclhhjigflkac", sum := "6b9f9d250df27c97240772d4f4f5ae344efe5e5efd24306aad2ef70b49c2172a", func := "peristyle/peristylelaw27.MoverProjects", spec := "moverProjects", inPlace := ["internal/abi.NoEscape"], unfollowed := true, recurses := true, apart := false, narrowed := true }
def MoverProjectsUptoSaid : Prop := moverProjectsUptoRow.holds Try.pinned (OpenSpec.upto moverProjectsSpec)

/-- 'peristylelaw25.SchemaBytes', WHERE WHAT IT READS IS OF BULK AT MOST 1048576: true; the input reads as it did. -/
def schemaBytesUptoRow : OpenClaim := { program := "ytgjclhhjigflkac", sum := "6b9f9d250df27c97240772d4f4f5ae344efe5e5efd24306aad2ef70b49c2172a", func := "peristyle/peristylelaw25.SchemaBytes", spec := "schemaBytes", inPlace := ["internal/abi.NoEscape"], unfollowed := true, recurses := true, apart := false, narrowed := true }
def SchemaBytesUptoSaid : Prop := schemaBytesUptoRow.holds Try.pinned (OpenSpec.upto schemaBytesSpec)

/-- 'peristylelaw25.SchemaFinds', WHERE WHAT IT READS IS OF BULK AT MOST 1048576: true; the input reads as it did. -/
def schemaFindsUptoRow : OpenClaim := { program := "ytgjclhhjigflkac", sum := "6b9f9d250df27c97240772d4f4f5ae344efe5e5efd24306aad2ef70b49c2172a", func := "peristyle/peristylelaw25.SchemaFinds", spec := "schemaFinds", inPlace := ["internal/abi.NoEscape"], unfollowed := true, recurses := true, apart := false, narrowed := true }
def SchemaFindsUptoSaid : Prop := schemaFindsUptoRow.holds Try.pinned (OpenSpec.upto schemaFindsSpec)

/-- 'peristylelaw25.SchemaChanges', WHERE WHAT IT READS IS OF BULK AT MOST 1048576: true; the input reads as it did. -/
def schemaChangesUptoRow : OpenClaim := { program := "ytgjclhhjigflkac", sum := "6b9f9d250df27c97240772d4f4f5ae344efe5e5efd24306aad2ef70b49c2172a", func := "peristyle/peristylelaw25.SchemaChanges", spec := "schemaChanges", inPlace := ["internal/abi.NoEscape"], unfollowed := true, recurses := true, apart := false, narrowed := true }
def SchemaChangesUptoSaid : Prop := schemaChangesUptoRow.holds Try.pinned (OpenSpec.upto schemaChangesSpec)

/-- 'peristylelaw25.SchemaStays', WHERE WHAT IT READS IS OF BULK AT MOST 1048576: true; the input reads as it did. -/
def schemaStaysUptoRow : OpenClaim := { program := "ytgjclhhjigflkac", sum := "6b9f9d250df27c97240772d4f4f5ae344efe5e5efd24306aad2ef70b49c2172a", func := "peristyle/peristylelaw25.SchemaStays", spec := "schemaStays", inPlace := ["internal/abi.NoEscape"], unfollowed := true, recurses := true, apart := false, narrowed := true }
def SchemaStaysUptoSaid : Prop := schemaStaysUptoRow.holds Try.pinned (OpenSpec.upto schemaStaysSpec)

end Rows
end Go.Proofs.Ytgjclhhjigflkac
