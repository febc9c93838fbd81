/-
  No cell of these rows narrows 'for every input' (looked for: loops, veiled, ifaces, maps, wideKeys, modest, calm, conditions, laid).
  DERIVED. THE GIVEN ROWS OF THIS SEAT. 12 by the template 'for every input the law returns true; each argument reads behind the call as it read before'; 0 by the template 'total and deterministic' (their statements: YtgjclhhjigflkabTotals.lean).
  GIVEN WITH THE SEED: the statements are not yours to turn. If you find one false, say at which input.
  Laid BY PROGRAM, IN A SANDBOX (cutbox-rows.mjs): the forced cells as the released guide's own fill.sh prints them over the translation ae634c38ee2b7395… (all of the seat's roots in one cut). By AI agents, Wed Nov 11 2026. No macro, syntax, notation, axiom, sorry.
-/
import Derived.Test.YtgjclhhjigflkabChecked
import GoSem.Claim
import GoSem.ClaimJoined
import GoSem.ClaimMapViews
import Derived.JoinedTies
import Derived.KernelRfl
namespace Go.Proofs.Ytgjclhhjigflkab
/- THE CELL 'sum', in the pinned program and in every row, IS THE sha256 OF THE DUMP (.gsa) THAT YtgjclhhjigflkabProg.lean LOADS. Nothing in Lean hashes anything: it is a label: what it is worth is what the hold of that sum in a sandbox is worth. -/
noncomputable def Try.pinned : Pinned := { name := "ytgjclhhjigflkab", sum := "ae634c38ee2b73953fe7ba049fecc20ffdfa36cf01c552e71f9bf87503096535", checked := Try.checked }
namespace Rows
def none {H : Type} : Left H := { results := [], args := [] }

/-- 'peristylelaw04.DeviceFuses': WHATEVER THE INPUT: true; the input reads as it did. -/
def deviceFusesSpec : ChangeSpec := { name := "deviceFuses", fn := fun _ => fun
  | [d1, d2, d3] => { results := [.lit (.bool true)], args := [d1, d2, d3] }
  | _ => none }
def deviceFusesRow : OpenClaim := { program := "ytgjclhhjigflkab", sum := "ae634c38ee2b73953fe7ba049fecc20ffdfa36cf01c552e71f9bf87503096535", func := "peristyle/peristylelaw04.DeviceFuses", spec := "deviceFuses", apart := false }
def DeviceFusesSaid : Prop := deviceFusesRow.holds Try.pinned (OpenSpec.ofChange deviceFusesSpec)

/-- ITS FALSE NEIGHBOUR: 'it returns false'. Refute it at one input. -/
def deviceFusesWrong : ChangeSpec := { name := "deviceFuses", fn := fun _ => fun
  | [d1, d2, d3] => { results := [.lit (.bool false)], args := [d1, d2, d3] }
  | _ => none }
def DeviceFusesWrongFalsely : Prop := deviceFusesRow.holds Try.pinned (OpenSpec.ofChange deviceFusesWrong)

/-- 'peristylelaw04.DeviceSure': WHATEVER THE INPUT: true; the input reads as it did. -/
def deviceSureSpec : ChangeSpec := { name := "deviceSure", fn := fun _ => fun
  | [d1, d2, d3] => { results := [.lit (.bool true)], args := [d1, d2, d3] }
  | _ => none }
def deviceSureRow : OpenClaim := { program := "ytgjclhhjigflkab", sum := "ae634c38ee2b73953fe7ba049fecc20ffdfa36cf01c552e71f9bf87503096535", func := "peristyle/peristylelaw04.DeviceSure", spec := "deviceSure", apart := false }
def DeviceSureSaid : Prop := deviceSureRow.holds Try.pinned (OpenSpec.ofChange deviceSureSpec)

/-- ITS FALSE NEIGHBOUR: 'it returns false'. Refute it at one input. -/
def deviceSureWrong : ChangeSpec := { name := "deviceSure", fn := fun _ => fun
  | [d1, d2, d3] => { results := [.lit (.bool false)], args := [d1, d2, d3] }
  | _ => none }
def DeviceSureWrongFalsely : Prop := deviceSureRow.holds Try.pinned (OpenSpec.ofChange deviceSureWrong)

/-- 'peristylelaw04.DevicePlays': WHATEVER THE INPUT: true; the input reads as it did. -/
def devicePlaysSpec : ChangeSpec := { name := "devicePlays", fn := fun _ => fun
  | [d1, d2] => { results := [.lit (.bool true)], args := [d1, d2] }
  | _ => none }
def devicePlaysRow : OpenClaim := { program := "ytgjclhhjigflkab", sum := "ae634c38ee2b73953fe7ba049fecc20ffdfa36cf01c552e71f9bf87503096535", func := "peristyle/peristylelaw04.DevicePlays", spec := "devicePlays", unfollowed := true, recurses := true, apart := false }
def DevicePlaysSaid : Prop := devicePlaysRow.holds Try.pinned (OpenSpec.ofChange devicePlaysSpec)

/-- ITS FALSE NEIGHBOUR: 'it returns false'. Refute it at one input. -/
def devicePlaysWrong : ChangeSpec := { name := "devicePlays", fn := fun _ => fun
  | [d1, d2] => { results := [.lit (.bool false)], args := [d1, d2] }
  | _ => none }
def DevicePlaysWrongFalsely : Prop := devicePlaysRow.holds Try.pinned (OpenSpec.ofChange devicePlaysWrong)

/-- 'peristylelaw04.DeviceNobody': WHATEVER THE INPUT: true; the input reads as it did. -/
def deviceNobodySpec : ChangeSpec := { name := "deviceNobody", fn := fun _ => fun
  | [d1, d2] => { results := [.lit (.bool true)], args := [d1, d2] }
  | _ => none }
def deviceNobodyRow : OpenClaim := { program := "ytgjclhhjigflkab", sum := "ae634c38ee2b73953fe7ba049fecc20ffdfa36cf01c552e71f9bf87503096535", func := "peristyle/peristylelaw04.DeviceNobody", spec := "deviceNobody", unfollowed := true, recurses := true, apart := false }
def DeviceNobodySaid : Prop := deviceNobodyRow.holds Try.pinned (OpenSpec.ofChange deviceNobodySpec)

/-- ITS FALSE NEIGHBOUR: 'it returns false'. Refute it at one input. -/
def deviceNobodyWrong : ChangeSpec := { name := "deviceNobody", fn := fun _ => fun
  | [d1, d2] => { results := [.lit (.bool false)], args := [d1, d2] }
  | _ => none }
def DeviceNobodyWrongFalsely : Prop := deviceNobodyRow.holds Try.pinned (OpenSpec.ofChange deviceNobodyWrong)

/-- 'peristylelaw32.CoverChooses': WHATEVER THE INPUT: true; the input reads as it did. -/
def coverChoosesSpec : ChangeSpec := { name := "coverChooses", fn := fun _ => fun
  | [d1, d2, d3] => { results := [.lit (.bool true)], args := [d1, d2, d3] }
  | _ => none }
def coverChoosesRow : OpenClaim := { program := "ytgjclhhjigflkab", sum := "ae634c38ee2b73953fe7ba049fecc20ffdfa36cf01c552e71f9bf87503096535", func := "peristyle/peristylelaw32.CoverChooses", spec := "coverChooses", unfollowed := true, recurses := true, apart := false }
def CoverChoosesSaid : Prop := coverChoosesRow.holds Try.pinned (OpenSpec.ofChange coverChoosesSpec)

/-- ITS FALSE NEIGHBOUR: 'it returns false'. Refute it at one input. -/
def coverChoosesWrong : ChangeSpec := { name := "coverChooses", fn := fun _ => fun
  | [d1, d2, d3] => { results := [.lit (.bool false)], args := [d1, d2, d3] }
  | _ => none }
def CoverChoosesWrongFalsely : Prop := coverChoosesRow.holds Try.pinned (OpenSpec.ofChange coverChoosesWrong)

/-- 'peristylelaw32.CoverMay': WHATEVER THE INPUT: true; the input reads as it did. -/
def coverMaySpec : ChangeSpec := { name := "coverMay", fn := fun _ => fun
  | [d1, d2, d3] => { results := [.lit (.bool true)], args := [d1, d2, d3] }
  | _ => none }
def coverMayRow : OpenClaim := { program := "ytgjclhhjigflkab", sum := "ae634c38ee2b73953fe7ba049fecc20ffdfa36cf01c552e71f9bf87503096535", func := "peristyle/peristylelaw32.CoverMay", spec := "coverMay", unfollowed := true, recurses := true, apart := false }
def CoverMaySaid : Prop := coverMayRow.holds Try.pinned (OpenSpec.ofChange coverMaySpec)

/-- ITS FALSE NEIGHBOUR: 'it returns false'. Refute it at one input. -/
def coverMayWrong : ChangeSpec := { name := "coverMay", fn := fun _ => fun
  | [d1, d2, d3] => { results := [.lit (.bool false)], args := [d1, d2, d3] }
  | _ => none }
def CoverMayWrongFalsely : Prop := coverMayRow.holds Try.pinned (OpenSpec.ofChange coverMayWrong)

/-- 'peristylelaw10.RunsOf': WHATEVER THE INPUT: true; the input reads as it did. -/
def runsOfSpec : ChangeSpec := { name := "runsOf", fn := fun _ => fun
  | [d1, d2] => { results := [.lit (.bool true)], args := [d1, d2] }
  | _ => none }
def runsOfRow : OpenClaim := { program := "ytgjclhhjigflkab", sum := "ae634c38ee2b73953fe7ba049fecc20ffdfa36cf01c552e71f9bf87503096535", func := "peristyle/peristylelaw10.RunsOf", spec := "runsOf", inPlace := ["internal/abi.NoEscape"], unfollowed := true, recurses := true, apart := false }
def RunsOfSaid : Prop := runsOfRow.holds Try.pinned (OpenSpec.ofChange runsOfSpec)

/-- ITS FALSE NEIGHBOUR: 'it returns false'. Refute it at one input. -/
def runsOfWrong : ChangeSpec := { name := "runsOf", fn := fun _ => fun
  | [d1, d2] => { results := [.lit (.bool false)], args := [d1, d2] }
  | _ => none }
def RunsOfWrongFalsely : Prop := runsOfRow.holds Try.pinned (OpenSpec.ofChange runsOfWrong)

/-- 'peristylelaw10.RunsAny': WHATEVER THE INPUT: true; the input reads as it did. -/
def runsAnySpec : ChangeSpec := { name := "runsAny", fn := fun _ => fun
  | [d1, d2] => { results := [.lit (.bool true)], args := [d1, d2] }
  | _ => none }
def runsAnyRow : OpenClaim := { program := "ytgjclhhjigflkab", sum := "ae634c38ee2b73953fe7ba049fecc20ffdfa36cf01c552e71f9bf87503096535", func := "peristyle/peristylelaw10.RunsAny", spec := "runsAny", inPlace := ["internal/abi.NoEscape"], unfollowed := true, recurses := true, apart := false }
def RunsAnySaid : Prop := runsAnyRow.holds Try.pinned (OpenSpec.ofChange runsAnySpec)

/-- ITS FALSE NEIGHBOUR: 'it returns false'. Refute it at one input. -/
def runsAnyWrong : ChangeSpec := { name := "runsAny", fn := fun _ => fun
  | [d1, d2] => { results := [.lit (.bool false)], args := [d1, d2] }
  | _ => none }
def RunsAnyWrongFalsely : Prop := runsAnyRow.holds Try.pinned (OpenSpec.ofChange runsAnyWrong)

/-- 'peristylelaw10.RunsTakes': WHATEVER THE INPUT: true; the input reads as it did. -/
def runsTakesSpec : ChangeSpec := { name := "runsTakes", fn := fun _ => fun
  | [d1, d2] => { results := [.lit (.bool true)], args := [d1, d2] }
  | _ => none }
def runsTakesRow : OpenClaim := { program := "ytgjclhhjigflkab", sum := "ae634c38ee2b73953fe7ba049fecc20ffdfa36cf01c552e71f9bf87503096535", func := "peristyle/peristylelaw10.RunsTakes", spec := "runsTakes", inPlace := ["internal/abi.NoEscape"], unfollowed := true, recurses := true, apart := false }
def RunsTakesSaid : Prop := runsTakesRow.holds Try.pinned (OpenSpec.ofChange runsTakesSpec)

/-- ITS FALSE NEIGHBOUR: 'it returns false'. Refute it at one input. -/
def runsTakesWrong : ChangeSpec := { name := "runsTakes", fn := fun _ => fun
  | [d1, d2] => { results := [.lit (.bool false)], args := [d1, d2] }
  | _ => none }
def RunsTakesWrongFalsely : Prop := runsTakesRow.holds Try.pinned (OpenSpec.ofChange runsTakesWrong)

/-- 'peristylelaw10.RunsFew': WHATEVER THE INPUT: true; the input reads as it did. -/
def runsFewSpec : ChangeSpec := { name := "runsFew", fn := fun _ => fun
  | [d] => { results := [.lit (.bool true)], args := [d] }
  | _ => none }
def runsFewRow : OpenClaim := { program := "ytgjclhhjigflkab", sum := "ae634c38ee2b73953fe7ba049fecc20ffdfa36cf01c552e71f9bf87503096535", func := "peristyle/peristylelaw10.RunsFew", spec := "runsFew", inPlace := ["internal/abi.NoEscape"], unfollowed := true, recurses := true, apart := false }
def RunsFewSaid : Prop := runsFewRow.holds Try.pinned (OpenSpec.ofChange runsFewSpec)

/-- ITS FALSE NEIGHBOUR: 'it returns false'. Refute it at one input. -/
def runsFewWrong : ChangeSpec := { name := "runsFew", fn := fun _ => fun
  | [d] => { results := [.lit (.bool false)], args := [d] }
  | _ => none }
def RunsFewWrongFalsely : Prop := runsFewRow.holds Try.pinned (OpenSpec.ofChange runsFewWrong)

/-- 'peristylelaw27.MoverMerges': WHATEVER THE INPUT: true; the input reads as it did. -/
def moverMergesSpec : ChangeSpec := { name := "moverMerges", fn := fun _ => fun
  | [d1, d2, d3] => { results := [.lit (.bool true)], args := [d1, d2, d3] }
  | _ => none }
def moverMergesRow : OpenClaim := { program := "ytgjclhhjigflkab", sum := "ae634c38ee2b73953fe7ba049fecc20ffdfa36cf01c552e71f9bf87503096535", func := "peristyle/peristylelaw27.MoverMerges", spec := "moverMerges", inPlace := ["internal/abi.NoEscape"], unfollowed := true, recurses := true, apart := false }
def MoverMergesSaid : Prop := moverMergesRow.holds Try.pinned (OpenSpec.ofChange moverMergesSpec)

/-- ITS FALSE NEIGHBOUR: 'it returns false'. Refute it at one input. -/
def moverMergesWrong : ChangeSpec := { name := "moverMerges", fn := fun _ => fun
  | [d1, d2, d3] => { results := [.lit (.bool false)], args := [d1, d2, d3] }
  | _ => none }
def MoverMergesWrongFalsely : Prop := moverMergesRow.holds Try.pinned (OpenSpec.ofChange moverMergesWrong)

/-- 'peristylelaw27.MoverLives': WHATEVER THE INPUT: true; the input reads as it did. -/
def moverLivesSpec : ChangeSpec := { name := "moverLives", fn := fun _ => fun
  | [d1, d2, d3] => { results := [.lit (.bool true)], args := [d1, d2, d3] }
  | _ => none }
def moverLivesRow : OpenClaim := { program := "ytgjclhhjigflkab", sum := "ae634c38ee2b73953fe7ba049fecc20ffdfa36cf01c552e71f9bf87503096535", func := "peristyle/peristylelaw27.MoverLives", spec := "moverLives", inPlace := ["internal/abi.NoEscape"], unfollowed := true, recurses := true, apart := false }
def MoverLivesSaid : Prop := moverLivesRow.holds Try.pinned (OpenSpec.ofChange moverLivesSpec)

/-- ITS FALSE NEIGHBOUR: 'it returns false'. Refute it at one input. -/
def moverLivesWrong : ChangeSpec := { name := "moverLives", fn := fun _ => fun
  | [d1, d2, d3] => { results := [.lit (.bool false)], args := [d1, d2, d3] }
  | _ => none }
def MoverLivesWrongFalsely : Prop := moverLivesRow.holds Try.pinned (OpenSpec.ofChange moverLivesWrong)

/- THE SECOND FORM. 'bulk': how many values and letters a reading holds, each counted each time it is reached (what is shared counts as often as it is met; a slice's spare places count too). A statement '..UptoSaid' is the law's where the arguments, and the package variables that the reading takes, are together of bulk at most 1048576: NARROWER than '..Said'. Prove '..Said' where nothing that the law and all that it calls make is longer than what came in: it says more and counts as full. Else prove '..UptoSaid'. A law counts once. -/
mutual
def uptoBulk {H : Type} : DataW H → Nat
  | .lit (.string bytes) => bytes.length + 1
  | .lit _ => 1
  | .nil => 1
  | .ptr d => uptoBulk d + 1
  | .slice elems spare => uptoBulkAll elems + uptoBulkAll spare + 1
  | .agg parts => uptoBulkAll parts + 1
  | .iface _ d => uptoBulk d + 1
  | .map entries => uptoBulkEntries entries + 1
  | .held _ => 1
def uptoBulkAll {H : Type} : List (DataW H) → Nat
  | [] => 0
  | d :: r => uptoBulk d + uptoBulkAll r
def uptoBulkEntries {H : Type} : List (Lit × DataW H) → Nat
  | [] => 0
  | x :: r => uptoBulkEntry x + uptoBulkEntries r
def uptoBulkEntry {H : Type} : Lit × DataW H → Nat
  | (.string bytes, d) => bytes.length + uptoBulk d + 1
  | (_, d) => uptoBulk d + 1
 end
def uptoSmall : (H : Type) → List (DataW H) → Bool := fun _ ds => decide (uptoBulkAll ds ≤ 1048576)
def OpenSpec.upto (s : _root_.Go.ChangeSpec) : _root_.Go.OpenSpec := { _root_.Go.OpenSpec.ofChange s with cond := some uptoSmall }

/-- 'peristylelaw04.DeviceFuses', WHERE WHAT IT READS IS OF BULK AT MOST 1048576: true; the input reads as it did. -/
def deviceFusesUptoRow : OpenClaim := { program := "ytgjclhhjigflkab", sum := "ae634c38ee2b73953fe7ba049fecc20ffdfa36cf01c552e71f9bf87503096535", func := "peristyle/peristylelaw04.DeviceFuses", spec := "deviceFuses", apart := false, narrowed := true }
def DeviceFusesUptoSaid : Prop := deviceFusesUptoRow.holds Try.pinned (OpenSpec.upto deviceFusesSpec)

/-- 'peristylelaw04.DeviceSure', WHERE WHAT IT READS IS OF BULK AT MOST 1048576: true; the input reads as it did. -/
def deviceSureUptoRow : OpenClaim := { program := "ytgjclhhjigflkab", sum := "ae634c38ee2b73953fe7ba049fecc20ffdfa36cf01c552e71f9bf87503096535", func := "peristyle/peristylelaw04.DeviceSure", spec := "deviceSure", apart := false, narrowed := true }
def DeviceSureUptoSaid : Prop := deviceSureUptoRow.holds Try.pinned (OpenSpec.upto deviceSureSpec)

/-- 'peristylelaw04.DevicePlays', WHERE WHAT IT READS IS OF BULK AT MOST 1048576: true; the input reads as it did. -/
def devicePlaysUptoRow : OpenClaim := { program := "ytgjclhhjigflkab", sum := "ae634c38ee2b73953fe7ba049fecc20ffdfa36cf01c552e71f9bf87503096535", func := "peristyle/peristylelaw04.DevicePlays", spec := "devicePlays", unfollowed := true, recurses := true, apart := false, narrowed := true }
def DevicePlaysUptoSaid : Prop := devicePlaysUptoRow.holds Try.pinned (OpenSpec.upto devicePlaysSpec)

/-- 'peristylelaw04.DeviceNobody', WHERE WHAT IT READS IS OF BULK AT MOST 1048576: true; the input reads as it did. -/
def deviceNobodyUptoRow : OpenClaim := { program := "ytgjclhhjigflkab", sum := "ae634c38ee2b73953fe7ba049fecc20ffdfa36cf01c552e71f9bf87503096535", func := "peristyle/peristylelaw04.DeviceNobody", spec := "deviceNobody", unfollowed := true, recurses := true, apart := false, narrowed := true }
def DeviceNobodyUptoSaid : Prop := deviceNobodyUptoRow.holds Try.pinned (OpenSpec.upto deviceNobodySpec)

/-- 'peristylelaw32.CoverChooses', WHERE WHAT IT READS IS OF BULK AT MOST 1048576: true; the input reads as it did. -/
def coverChoosesUptoRow : OpenClaim := { program := "ytgjclhhjigflkab", sum := "ae634c38ee2b73953fe7ba049fecc20ffdfa36cf01c552e71f9bf87503096535", func := "peristyle/peristylelaw32.CoverChooses", spec := "coverChooses", unfollowed := true, recurses := true, apart := false, narrowed := true }
def CoverChoosesUptoSaid : Prop := coverChoosesUptoRow.holds Try.pinned (OpenSpec.upto coverChoosesSpec)

/-- 'peristylelaw32.CoverMay', WHERE WHAT IT READS IS OF BULK AT MOST 1048576: true; the input reads as it did. -/
def coverMayUptoRow : OpenClaim := { program := "ytgjclhhjigflkab", sum := "ae634c38ee2b73953fe7ba049fecc20ffdfa36cf01c552e71f9bf87503096535", func := "peristyle/peristylelaw32.CoverMay", spec := "coverMay", unfollowed := true, recurses := true, apart := false, narrowed := true }
def CoverMayUptoSaid : Prop := coverMayUptoRow.holds Try.pinned (OpenSpec.upto coverMaySpec)

/-- 'peristylelaw10.RunsOf', WHERE WHAT IT READS IS OF BULK AT MOST 1048576: true; the input reads as it did. -/
def runsOfUptoRow : OpenClaim := { program := "ytgjclhhjigflkab", sum := "ae634c38ee2b73953fe7ba049fecc20ffdfa36cf01c552e71f9bf87503096535", func := "peristyle/peristylelaw10.RunsOf", spec := "runsOf", inPlace := ["internal/abi.NoEscape"], unfollowed := true, recurses := true, apart := false, narrowed := true }
def RunsOfUptoSaid : Prop := runsOfUptoRow.holds Try.pinned (OpenSpec.upto runsOfSpec)

/-- 'peristylelaw10.RunsAny', WHERE WHAT IT READS IS OF BULK AT MOST 1048576: true; the input reads as it did. -/
def runsAnyUptoRow : OpenClaim := { program := "ytgjclhhjigflkab", sum := "ae634c38ee2b73953fe7ba049fecc20ffdfa36cf01c552e71f9bf87503096535", func := "peristyle/peristylelaw10.RunsAny", spec := "runsAny", inPlace := ["internal/abi.NoEscape"], unfollowed := true, recurses := true, apart := false, narrowed := true }
def RunsAnyUptoSaid : Prop := runsAnyUptoRow.holds Try.pinned (OpenSpec.upto runsAnySpec)

/-- 'peristylelaw10.RunsTakes', WHERE WHAT IT READS IS OF BULK AT MOST 1048576: true; the input reads as it did. -/
def runsTakesUptoRow : OpenClaim := { program := "ytgjclhhjigflkab", sum := "ae634c38ee2b73953fe7ba049fecc20ffdfa36cf01c552e71f9bf87503096535", func := "peristyle/peristylelaw10.RunsTakes", spec := "runsTakes", inPlace := ["internal/abi.NoEscape"], unfollowed := true, recurses := true, apart := false, narrowed := true }
def RunsTakesUptoSaid : Prop := runsTakesUptoRow.holds Try.pinned (OpenSpec.upto runsTakesSpec)

/-- 'peristylelaw10.RunsFew', WHERE WHAT IT READS IS OF BULK AT MOST 1048576: true; the input reads as it did. -/
def runsFewUptoRow : OpenClaim := { program := "ytgjclhhjigflkab", sum := "ae634c38ee2b73953fe7ba049fecc20ffdfa36cf01c552e71f9bf87503096535", func := "peristyle/peristylelaw10.RunsFew", spec := "runsFew", inPlace := ["internal/abi.NoEscape"], unfollowed := true, recurses := true, apart := false, narrowed := true }
def RunsFewUptoSaid : Prop := runsFewUptoRow.holds Try.pinned (OpenSpec.upto runsFewSpec)

/-- 'peristylelaw27.MoverMerges', WHERE WHAT IT READS IS OF BULK AT MOST 1048576: true; the input reads as it did. -/
def moverMergesUptoRow : OpenClaim := { program := "ytgjclhhjigflkab", sum := "ae634c38ee2b73953fe7ba049fecc20ffdfa36cf01c552e71f9bf87503096535", func := "peristyle/peristylelaw27.MoverMerges", spec := "moverMerges", inPlace := ["internal/abi.NoEscape"], unfollowed := true, recurses := true, apart := false, narrowed := true }
def MoverMergesUptoSaid : Prop := moverMergesUptoRow.holds Try.pinned (OpenSpec.upto moverMergesSpec)

/-- 'peristylelaw27.MoverLives', WHERE WHAT IT READS IS OF BULK AT MOST 1048576: true; the input reads as it did. -/
def moverLivesUptoRow : OpenClaim := { program := "ytgjclhhjigflkab", sum := "ae634c38ee2b73953fe7ba049fecc20ffdfa36cf01c552e71f9bf87503096535", func := "peristyle/peristylelaw27.MoverLives", spec := "moverLives", inPlace := ["internal/abi.NoEscape"], unfollowed := true, recurses := true, apart := false, narrowed := true }
def MoverLivesUptoSaid : Prop := moverLivesUptoRow.holds Try.pinned (OpenSpec.upto moverLivesSpec)

end Rows
end Go.Proofs.Ytgjclhhjigflkab
