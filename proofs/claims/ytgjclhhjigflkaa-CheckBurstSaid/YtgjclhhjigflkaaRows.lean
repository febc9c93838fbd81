/-
  No cell of these rows narrows 'for every input' (looked for: loops, veiled, ifaces, maps, wideKeys, modest, calm, conditions, laid).
  DERIVED. THE GIVEN ROWS OF THIS SEAT. 12 by the template 'for every input the law returns true; each argument reads behind the call as it read before'; 0 by the template 'total and deterministic' (their statements: YtgjclhhjigflkaaTotals.lean).
  GIVEN WITH THE SEED: the statements are not yours to turn. If you find one false, say at which input.
  Laid BY PROGRAM, IN A SANDBOX (cutbox-rows.mjs): the forced cells as the released guide's own fill.sh prints them over the translation 670728d03955ab22… (all of the seat's roots in one cut). By AI agents, Wed Nov 11 2026. No macro, syntax, notation, axiom, sorry.
-/
import Derived.Test.YtgjclhhjigflkaaChecked
import GoSem.Claim
import GoSem.ClaimJoined
import GoSem.ClaimMapViews
import Derived.JoinedTies
import Derived.KernelRfl
namespace Go.Proofs.Ytgjclhhjigflkaa
/- THE CELL 'sum', in the pinned program and in every row, IS THE sha256 OF THE DUMP (.gsa) THAT YtgjclhhjigflkaaProg.lean LOADS. Nothing in Lean hashes anything: it is a label: what it is worth is what the hold of that sum in a sandbox is worth. -/
noncomputable def Try.pinned : Pinned := { name := "ytgjclhhjigflkaa", sum := "670728d03955ab223d27dc5727a4c6f8c9834e04478c8b47ec79bfe1264dd267", checked := Try.checked }
namespace Rows
def none {H : Type} : Left H := { results := [], args := [] }

/-- 'peristylelaw03.CheckSums': WHATEVER THE INPUT: true; the input reads as it did. -/
def checkSumsSpec : ChangeSpec := { name := "checkSums", fn := fun _ => fun
  | [d1, d2] => { results := [.lit (.bool true)], args := [d1, d2] }
  | _ => none }
def checkSumsRow : OpenClaim := { program := "ytgjclhhjigflkaa", sum := "670728d03955ab223d27dc5727a4c6f8c9834e04478c8b47ec79bfe1264dd267", func := "peristyle/peristylelaw03.CheckSums", spec := "checkSums", apart := false }
def CheckSumsSaid : Prop := checkSumsRow.holds Try.pinned (OpenSpec.ofChange checkSumsSpec)

/-- ITS FALSE NEIGHBOUR: 'it returns false'. Refute it at one input. -/
def checkSumsWrong : ChangeSpec := { name := "checkSums", fn := fun _ => fun
  | [d1, d2] => { results := [.lit (.bool false)], args := [d1, d2] }
  | _ => none }
def CheckSumsWrongFalsely : Prop := checkSumsRow.holds Try.pinned (OpenSpec.ofChange checkSumsWrong)

/-- 'peristylelaw03.CheckParts': WHATEVER THE INPUT: true; the input reads as it did. -/
def checkPartsSpec : ChangeSpec := { name := "checkParts", fn := fun _ => fun
  | [d1, d2] => { results := [.lit (.bool true)], args := [d1, d2] }
  | _ => none }
def checkPartsRow : OpenClaim := { program := "ytgjclhhjigflkaa", sum := "670728d03955ab223d27dc5727a4c6f8c9834e04478c8b47ec79bfe1264dd267", func := "peristyle/peristylelaw03.CheckParts", spec := "checkParts", apart := false }
def CheckPartsSaid : Prop := checkPartsRow.holds Try.pinned (OpenSpec.ofChange checkPartsSpec)

/-- ITS FALSE NEIGHBOUR: 'it returns false'. Refute it at one input. -/
def checkPartsWrong : ChangeSpec := { name := "checkParts", fn := fun _ => fun
  | [d1, d2] => { results := [.lit (.bool false)], args := [d1, d2] }
  | _ => none }
def CheckPartsWrongFalsely : Prop := checkPartsRow.holds Try.pinned (OpenSpec.ofChange checkPartsWrong)

/-- 'peristylelaw03.CheckSeals': WHATEVER THE INPUT: true; the input reads as it did. -/
def checkSealsSpec : ChangeSpec := { name := "checkSeals", fn := fun _ => fun
  | [d1, d2] => { results := [.lit (.bool true)], args := [d1, d2] }
  | _ => none }
def checkSealsRow : OpenClaim := { program := "ytgjclhhjigflkaa", sum := "670728d03955ab223d27dc5727a4c6f8c9834e04478c8b47ec79bfe1264dd267", func := "peristyle/peristylelaw03.CheckSeals", spec := "checkSeals", apart := false }
def CheckSealsSaid : Prop := checkSealsRow.holds Try.pinned (OpenSpec.ofChange checkSealsSpec)

/-- ITS FALSE NEIGHBOUR: 'it returns false'. Refute it at one input. -/
def checkSealsWrong : ChangeSpec := { name := "checkSeals", fn := fun _ => fun
  | [d1, d2] => { results := [.lit (.bool false)], args := [d1, d2] }
  | _ => none }
def CheckSealsWrongFalsely : Prop := checkSealsRow.holds Try.pinned (OpenSpec.ofChange checkSealsWrong)

/-- 'peristylelaw03.CheckBurst': WHATEVER THE INPUT: true; the input reads as it did. -/
def checkBurstSpec : ChangeSpec := { name := "checkBurst", fn := fun _ => fun
  | [d1, d2, d3] => { results := [.lit (.bool true)], args := [d1, d2, d3] }
  | _ => none }
def checkBurstRow : OpenClaim := { program := "ytgjclhhjigflkaa", sum := "670728d03955ab223d27dc5727a4c6f8c9834e04478c8b47ec79bfe1264dd267", func := "peristyle/peristylelaw03.CheckBurst", spec := "checkBurst", apart := false }
def CheckBurstSaid : Prop := checkBurstRow.holds Try.pinned (OpenSpec.ofChange checkBurstSpec)

/-- ITS FALSE NEIGHBOUR: 'it returns false'. Refute it at one input. -/
def checkBurstWrong : ChangeSpec := { name := "checkBurst", fn := fun _ => fun
  | [d1, d2, d3] => { results := [.lit (.bool false)], args := [d1, d2, d3] }
  | _ => none }
def CheckBurstWrongFalsely : Prop := checkBurstRow.holds Try.pinned (OpenSpec.ofChange checkBurstWrong)

/-- 'peristylelaw03.CheckThree': WHATEVER THE INPUT: true; the input reads as it did. -/
def checkThreeSpec : ChangeSpec := { name := "checkThree", fn := fun _ => fun
  | [d1, d2, d3] => { results := [.lit (.bool true)], args := [d1, d2, d3] }
  | _ => none }
def checkThreeRow : OpenClaim := { program := "ytgjclhhjigflkaa", sum := "670728d03955ab223d27dc5727a4c6f8c9834e04478c8b47ec79bfe1264dd267", func := "peristyle/peristylelaw03.CheckThree", spec := "checkThree", apart := false }
def CheckThreeSaid : Prop := checkThreeRow.holds Try.pinned (OpenSpec.ofChange checkThreeSpec)

/-- ITS FALSE NEIGHBOUR: 'it returns false'. Refute it at one input. -/
def checkThreeWrong : ChangeSpec := { name := "checkThree", fn := fun _ => fun
  | [d1, d2, d3] => { results := [.lit (.bool false)], args := [d1, d2, d3] }
  | _ => none }
def CheckThreeWrongFalsely : Prop := checkThreeRow.holds Try.pinned (OpenSpec.ofChange checkThreeWrong)

/-- 'peristylelaw02.VintPuts': WHATEVER THE INPUT: true; the input reads as it did. -/
def vintPutsSpec : ChangeSpec := { name := "vintPuts", fn := fun _ => fun
  | [d1, d2] => { results := [.lit (.bool true)], args := [d1, d2] }
  | _ => none }
def vintPutsRow : OpenClaim := { program := "ytgjclhhjigflkaa", sum := "670728d03955ab223d27dc5727a4c6f8c9834e04478c8b47ec79bfe1264dd267", func := "peristyle/peristylelaw02.VintPuts", spec := "vintPuts", apart := false }
def VintPutsSaid : Prop := vintPutsRow.holds Try.pinned (OpenSpec.ofChange vintPutsSpec)

/-- ITS FALSE NEIGHBOUR: 'it returns false'. Refute it at one input. -/
def vintPutsWrong : ChangeSpec := { name := "vintPuts", fn := fun _ => fun
  | [d1, d2] => { results := [.lit (.bool false)], args := [d1, d2] }
  | _ => none }
def VintPutsWrongFalsely : Prop := vintPutsRow.holds Try.pinned (OpenSpec.ofChange vintPutsWrong)

/-- 'peristylelaw02.VintTakes': WHATEVER THE INPUT: true; the input reads as it did. -/
def vintTakesSpec : ChangeSpec := { name := "vintTakes", fn := fun _ => fun
  | [d] => { results := [.lit (.bool true)], args := [d] }
  | _ => none }
def vintTakesRow : OpenClaim := { program := "ytgjclhhjigflkaa", sum := "670728d03955ab223d27dc5727a4c6f8c9834e04478c8b47ec79bfe1264dd267", func := "peristyle/peristylelaw02.VintTakes", spec := "vintTakes", apart := false }
def VintTakesSaid : Prop := vintTakesRow.holds Try.pinned (OpenSpec.ofChange vintTakesSpec)

/-- ITS FALSE NEIGHBOUR: 'it returns false'. Refute it at one input. -/
def vintTakesWrong : ChangeSpec := { name := "vintTakes", fn := fun _ => fun
  | [d] => { results := [.lit (.bool false)], args := [d] }
  | _ => none }
def VintTakesWrongFalsely : Prop := vintTakesRow.holds Try.pinned (OpenSpec.ofChange vintTakesWrong)

/-- 'peristylelaw02.VintApart': WHATEVER THE INPUT: true; the input reads as it did. -/
def vintApartSpec : ChangeSpec := { name := "vintApart", fn := fun _ => fun
  | [d1, d2] => { results := [.lit (.bool true)], args := [d1, d2] }
  | _ => none }
def vintApartRow : OpenClaim := { program := "ytgjclhhjigflkaa", sum := "670728d03955ab223d27dc5727a4c6f8c9834e04478c8b47ec79bfe1264dd267", func := "peristyle/peristylelaw02.VintApart", spec := "vintApart", apart := false }
def VintApartSaid : Prop := vintApartRow.holds Try.pinned (OpenSpec.ofChange vintApartSpec)

/-- ITS FALSE NEIGHBOUR: 'it returns false'. Refute it at one input. -/
def vintApartWrong : ChangeSpec := { name := "vintApart", fn := fun _ => fun
  | [d1, d2] => { results := [.lit (.bool false)], args := [d1, d2] }
  | _ => none }
def VintApartWrongFalsely : Prop := vintApartRow.holds Try.pinned (OpenSpec.ofChange vintApartWrong)

/-- 'peristylelaw07.PlainInts': WHATEVER THE INPUT: true; the input reads as it did. -/
def plainIntsSpec : ChangeSpec := { name := "plainInts", fn := fun _ => fun
  | [d1, d2, d3] => { results := [.lit (.bool true)], args := [d1, d2, d3] }
  | _ => none }
def plainIntsRow : OpenClaim := { program := "ytgjclhhjigflkaa", sum := "670728d03955ab223d27dc5727a4c6f8c9834e04478c8b47ec79bfe1264dd267", func := "peristyle/peristylelaw07.PlainInts", spec := "plainInts", inPlace := ["internal/abi.NoEscape"], apart := false }
def PlainIntsSaid : Prop := plainIntsRow.holds Try.pinned (OpenSpec.ofChange plainIntsSpec)

/-- ITS FALSE NEIGHBOUR: 'it returns false'. Refute it at one input. -/
def plainIntsWrong : ChangeSpec := { name := "plainInts", fn := fun _ => fun
  | [d1, d2, d3] => { results := [.lit (.bool false)], args := [d1, d2, d3] }
  | _ => none }
def PlainIntsWrongFalsely : Prop := plainIntsRow.holds Try.pinned (OpenSpec.ofChange plainIntsWrong)

/-- 'peristylelaw07.PlainTexts': WHATEVER THE INPUT: true; the input reads as it did. -/
def plainTextsSpec : ChangeSpec := { name := "plainTexts", fn := fun _ => fun
  | [d1, d2, d3] => { results := [.lit (.bool true)], args := [d1, d2, d3] }
  | _ => none }
def plainTextsRow : OpenClaim := { program := "ytgjclhhjigflkaa", sum := "670728d03955ab223d27dc5727a4c6f8c9834e04478c8b47ec79bfe1264dd267", func := "peristyle/peristylelaw07.PlainTexts", spec := "plainTexts", inPlace := ["internal/abi.NoEscape"], apart := false }
def PlainTextsSaid : Prop := plainTextsRow.holds Try.pinned (OpenSpec.ofChange plainTextsSpec)

/-- ITS FALSE NEIGHBOUR: 'it returns false'. Refute it at one input. -/
def plainTextsWrong : ChangeSpec := { name := "plainTexts", fn := fun _ => fun
  | [d1, d2, d3] => { results := [.lit (.bool false)], args := [d1, d2, d3] }
  | _ => none }
def PlainTextsWrongFalsely : Prop := plainTextsRow.holds Try.pinned (OpenSpec.ofChange plainTextsWrong)

/-- 'peristylelaw07.PlainApart': WHATEVER THE INPUT: true; the input reads as it did. -/
def plainApartSpec : ChangeSpec := { name := "plainApart", fn := fun _ => fun
  | [d1, d2] => { results := [.lit (.bool true)], args := [d1, d2] }
  | _ => none }
def plainApartRow : OpenClaim := { program := "ytgjclhhjigflkaa", sum := "670728d03955ab223d27dc5727a4c6f8c9834e04478c8b47ec79bfe1264dd267", func := "peristyle/peristylelaw07.PlainApart", spec := "plainApart", inPlace := ["internal/abi.NoEscape"], apart := false }
def PlainApartSaid : Prop := plainApartRow.holds Try.pinned (OpenSpec.ofChange plainApartSpec)

/-- ITS FALSE NEIGHBOUR: 'it returns false'. Refute it at one input. -/
def plainApartWrong : ChangeSpec := { name := "plainApart", fn := fun _ => fun
  | [d1, d2] => { results := [.lit (.bool false)], args := [d1, d2] }
  | _ => none }
def PlainApartWrongFalsely : Prop := plainApartRow.holds Try.pinned (OpenSpec.ofChange plainApartWrong)

/-- 'peristylelaw02.VintLists': WHATEVER THE INPUT: true; the input reads as it did. -/
def vintListsSpec : ChangeSpec := { name := "vintLists", fn := fun _ => fun
  | [d1, d2] => { results := [.lit (.bool true)], args := [d1, d2] }
  | _ => none }
def vintListsRow : OpenClaim := { program := "ytgjclhhjigflkaa", sum := "670728d03955ab223d27dc5727a4c6f8c9834e04478c8b47ec79bfe1264dd267", func := "peristyle/peristylelaw02.VintLists", spec := "vintLists", inPlace := ["internal/abi.NoEscape"], apart := false }
def VintListsSaid : Prop := vintListsRow.holds Try.pinned (OpenSpec.ofChange vintListsSpec)

/-- ITS FALSE NEIGHBOUR: 'it returns false'. Refute it at one input. -/
def vintListsWrong : ChangeSpec := { name := "vintLists", fn := fun _ => fun
  | [d1, d2] => { results := [.lit (.bool false)], args := [d1, d2] }
  | _ => none }
def VintListsWrongFalsely : Prop := vintListsRow.holds Try.pinned (OpenSpec.ofChange vintListsWrong)

/- THE SECOND FORM. 'bulk': how many values and letters a reading holds, each counted each time it is reached (what is shared counts as often as it is met; a slice's spare places count too). A statement '..UptoSaid' is the law's where the arguments, and the package variables that the reading takes, are together of bulk at most 1048576: NARROWER than '..Said'. Prove '..Said' where nothing that the law and all that it calls make is longer than what came in: it says more and counts as full. Else prove '..UptoSaid'. A law counts once. -/
mutual
def uptoBulk {H : Type} : DataW H → Nat
  | .lit (.string bytes) => bytes.length + 1
  | .lit _ => 1
  | .nil => 1
  | .ptr d => uptoBulk d + 1
  | .slice elems spare => uptoBulkAll elems + uptoBulkAll spare + 1
  | .agg parts => uptoBulkAll parts + 1
  | .iface _ d => uptoBulk d + 1
  | .map entries => uptoBulkEntries entries + 1
  | .held _ => 1
def uptoBulkAll {H : Type} : List (DataW H) → Nat
  | [] => 0
  | d :: r => uptoBulk d + uptoBulkAll r
def uptoBulkEntries {H : Type} : List (Lit × DataW H) → Nat
  | [] => 0
  | x :: r => uptoBulkEntry x + uptoBulkEntries r
def uptoBulkEntry {H : Type} : Lit × DataW H → Nat
  | (.string bytes, d) => bytes.length + uptoBulk d + 1
  | (_, d) => uptoBulk d + 1
 end
def uptoSmall : (H : Type) → List (DataW H) → Bool := fun _ ds => decide (uptoBulkAll ds ≤ 1048576)
def OpenSpec.upto (s : _root_.Go.ChangeSpec) : _root_.Go.OpenSpec := { _root_.Go.OpenSpec.ofChange s with cond := some uptoSmall }

/-- 'peristylelaw03.CheckSums', WHERE WHAT IT READS IS OF BULK AT MOST 1048576: true; the input reads as it did. -/
def checkSumsUptoRow : OpenClaim := { program := "ytgjclhhjigflkaa", sum := "670728d03955ab223d27dc5727a4c6f8c9834e04478c8b47ec79bfe1264dd267", func := "peristyle/peristylelaw03.CheckSums", spec := "checkSums", apart := false, narrowed := true }
def CheckSumsUptoSaid : Prop := checkSumsUptoRow.holds Try.pinned (OpenSpec.upto checkSumsSpec)

/-- 'peristylelaw03.CheckParts', WHERE WHAT IT READS IS OF BULK AT MOST 1048576: true; the input reads as it did. -/
def checkPartsUptoRow : OpenClaim := { program := "ytgjclhhjigflkaa", sum := "670728d03955ab223d27dc5727a4c6f8c9834e04478c8b47ec79bfe1264dd267", func := "peristyle/peristylelaw03.CheckParts", spec := "checkParts", apart := false, narrowed := true }
def CheckPartsUptoSaid : Prop := checkPartsUptoRow.holds Try.pinned (OpenSpec.upto checkPartsSpec)

/-- 'peristylelaw03.CheckSeals', WHERE WHAT IT READS IS OF BULK AT MOST 1048576: true; the input reads as it did. -/
def checkSealsUptoRow : OpenClaim := { program := "ytgjclhhjigflkaa", sum := "670728d03955ab223d27dc5727a4c6f8c9834e04478c8b47ec79bfe1264dd267", func := "peristyle/peristylelaw03.CheckSeals", spec := "checkSeals", apart := false, narrowed := true }
def CheckSealsUptoSaid : Prop := checkSealsUptoRow.holds Try.pinned (OpenSpec.upto checkSealsSpec)

/-- 'peristylelaw03.CheckBurst', WHERE WHAT IT READS IS OF BULK AT MOST 1048576: true; the input reads as it did. -/
def checkBurstUptoRow : OpenClaim := { program := "ytgjclhhjigflkaa", sum := "670728d03955ab223d27dc5727a4c6f8c9834e04478c8b47ec79bfe1264dd267", func := "peristyle/peristylelaw03.CheckBurst", spec := "checkBurst", apart := false, narrowed := true }
def CheckBurstUptoSaid : Prop := checkBurstUptoRow.holds Try.pinned (OpenSpec.upto checkBurstSpec)

/-- 'peristylelaw03.CheckThree', WHERE WHAT IT READS IS OF BULK AT MOST 1048576: true; the input reads as it did. -/
def checkThreeUptoRow : OpenClaim := { program := "ytgjclhhjigflkaa", sum := "670728d03955ab223d27dc5727a4c6f8c9834e04478c8b47ec79bfe1264dd267", func := "peristyle/peristylelaw03.CheckThree", spec := "checkThree", apart := false, narrowed := true }
def CheckThreeUptoSaid : Prop := checkThreeUptoRow.holds Try.pinned (OpenSpec.upto checkThreeSpec)

/-- 'peristylelaw02.VintPuts', WHERE WHAT IT READS IS OF BULK AT MOST 1048576: true; the input reads as it did. -/
def vintPutsUptoRow : OpenClaim := { program := "ytgjclhhjigflkaa", sum := "670728d03955ab223d27dc5727a4c6f8c9834e04478c8b47ec79bfe1264dd267", func := "peristyle/peristylelaw02.VintPuts", spec := "vintPuts", apart := false, narrowed := true }
def VintPutsUptoSaid : Prop := vintPutsUptoRow.holds Try.pinned (OpenSpec.upto vintPutsSpec)

/-- 'peristylelaw02.VintTakes', WHERE WHAT IT READS IS OF BULK AT MOST 1048576: true; the input reads as it did. -/
def vintTakesUptoRow : OpenClaim := { program := "ytgjclhhjigflkaa", sum := "670728d03955ab223d27dc5727a4c6f8c9834e04478c8b47ec79bfe1264dd267", func := "peristyle/peristylelaw02.VintTakes", spec := "vintTakes", apart := false, narrowed := true }
def VintTakesUptoSaid : Prop := vintTakesUptoRow.holds Try.pinned (OpenSpec.upto vintTakesSpec)

/-- 'peristylelaw02.VintApart', WHERE WHAT IT READS IS OF BULK AT MOST 1048576: true; the input reads as it did. -/
def vintApartUptoRow : OpenClaim := { program := "ytgjclhhjigflkaa", sum := "670728d03955ab223d27dc5727a4c6f8c9834e04478c8b47ec79bfe1264dd267", func := "peristyle/peristylelaw02.VintApart", spec := "vintApart", apart := false, narrowed := true }
def VintApartUptoSaid : Prop := vintApartUptoRow.holds Try.pinned (OpenSpec.upto vintApartSpec)

/-- 'peristylelaw07.PlainInts', WHERE WHAT IT READS IS OF BULK AT MOST 1048576: true; the input reads as it did. -/
def plainIntsUptoRow : OpenClaim := { program := "ytgjclhhjigflkaa", sum := "670728d03955ab223d27dc5727a4c6f8c9834e04478c8b47ec79bfe1264dd267", func := "peristyle/peristylelaw07.PlainInts", spec := "plainInts", inPlace := ["internal/abi.NoEscape"], apart := false, narrowed := true }
def PlainIntsUptoSaid : Prop := plainIntsUptoRow.holds Try.pinned (OpenSpec.upto plainIntsSpec)

/-- 'peristylelaw07.PlainTexts', WHERE WHAT IT READS IS OF BULK AT MOST 1048576: true; the input reads as it did. -/
def plainTextsUptoRow : OpenClaim := { program := "ytgjclhhjigflkaa", sum := "670728d03955ab223d27dc5727a4c6f8c9834e04478c8b47ec79bfe1264dd267", func := "peristyle/peristylelaw07.PlainTexts", spec := "plainTexts", inPlace := ["internal/abi.NoEscape"], apart := false, narrowed := true }
def PlainTextsUptoSaid : Prop := plainTextsUptoRow.holds Try.pinned (OpenSpec.upto plainTextsSpec)

/-- 'peristylelaw07.PlainApart', WHERE WHAT IT READS IS OF BULK AT MOST 1048576: true; the input reads as it did. -/
def plainApartUptoRow : OpenClaim := { program := "ytgjclhhjigflkaa", sum := "670728d03955ab223d27dc5727a4c6f8c9834e04478c8b47ec79bfe1264dd267", func := "peristyle/peristylelaw07.PlainApart", spec := "plainApart", inPlace := ["internal/abi.NoEscape"], apart := false, narrowed := true }
def PlainApartUptoSaid : Prop := plainApartUptoRow.holds Try.pinned (OpenSpec.upto plainApartSpec)

/-- 'peristylelaw02.VintLists', WHERE WHAT IT READS IS OF BULK AT MOST 1048576: true; the input reads as it did. -/
def vintListsUptoRow : OpenClaim := { program := "ytgjclhhjigflkaa", sum := "670728d03955ab223d27dc5727a4c6f8c9834e04478c8b47ec79bfe1264dd267", func := "peristyle/peristylelaw02.VintLists", spec := "vintLists", inPlace := ["internal/abi.NoEscape"], apart := false, narrowed := true }
def VintListsUptoSaid : Prop := vintListsUptoRow.holds Try.pinned (OpenSpec.upto vintListsSpec)

end Rows
end Go.Proofs.Ytgjclhhjigflkaa
