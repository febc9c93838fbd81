-- written by mkprint.py, a program of this session, over the kit's printer
import Derived.Test.YtgjclhhjigflkaaProg
import Derived.Below
import Derived.Deep.Draws
import Derived.Deep.AppendLies
import Derived.Maps.AppendAt
import Derived.OwnWalk
import Derived.Laws.BytesArg
import Derived.Laws.MakeOwn
import Derived.Laws.OwnMore
import Derived.Deep.OwnRows
import Derived.Tactics
import Derived.Lib.ConvBytes
import Derived.Laws.Slices
import Derived.WalkKit
import Derived.KernelRfl
import Derived.RowKit3
import Derived.Deep.LoopGhost
import Derived.Deep.QuietTactic
import Derived.BigQuiet
import Derived.WideLaws
import Derived.Deep.DeepCutAuto
import Derived.Deep.CutBlock
import Derived.Deep.RegionHeld3
import Derived.Laws.Rows
import Derived.Lib.AppendStr
import Derived.ArgAppend
import Derived.Laws.IdiomCopy
import Derived.OrdersHeld
import Derived.Laws.BitsLemmas
import Derived.RowKit
import Derived.Test.YtgjclhhjigflkaaMyWords
import Derived.Test.YtgjclhhjigflkaaWWords
import Derived.Test.YtgjclhhjigflkaaWLast
import Derived.Test.YtgjclhhjigflkaaWTab
import Derived.Test.YtgjclhhjigflkaaWFour
import Derived.Test.YtgjclhhjigflkaaWQPut
import Derived.Test.YtgjclhhjigflkaaWApart
import Derived.Test.YtgjclhhjigflkaaWArr
import Derived.Test.YtgjclhhjigflkaaWZeros
import Derived.Test.YtgjclhhjigflkaaWFoot
import Derived.Test.YtgjclhhjigflkaaWKept
import Derived.Test.YtgjclhhjigflkaaWShare
import Derived.Test.YtgjclhhjigflkaaWN
import Derived.Test.YtgjclhhjigflkaaWFootNe
import Derived.Test.YtgjclhhjigflkaaWAt
import Derived.Test.YtgjclhhjigflkaaWEqStruct
import Derived.Test.YtgjclhhjigflkaaWRepsOne
import Derived.Test.YtgjclhhjigflkaaWInv
import Derived.Test.YtgjclhhjigflkaaWInvWords
import Derived.Test.YtgjclhhjigflkaaWGuard
import Derived.Test.YtgjclhhjigflkaaWNEv
import Derived.Test.YtgjclhhjigflkaaWMore
namespace Go.Proofs.Ytgjclhhjigflkaa.M
open Go.RowKit Go.Proofs.YtgjclhhjigflkaaW.PrintWords Go.Proofs.YtgjclhhjigflkaaW.PrintLast Go.Proofs.YtgjclhhjigflkaaW.PrintMore
attribute [local go_sem] max2_int min2_int max_two min_two max_three min_three max_four min_four   -- for this text's walks alone
set_option linter.unusedVariables false
set_option linter.unusedSimpArgs false



def errW : Option Int → Value
  | none => .nilIface
  | some c => .iface 0 (.int .i64 c)
theorem errW_none : errW none = .nilIface := rfl
theorem errW_some (c : Int) : errW (some c) = .iface 0 (.int .i64 c) := rfl

theorem info3 : (Try.prog.info? 3).map (fun i => (i.zero, i.size, i.bytes)) = some (some (.int .i64 0), 1, 8) := by kernel_rfl
theorem info5 : (Try.prog.info? 5).map (fun i => (i.zero, i.size, i.bytes)) = some (some (.int .u8 0), 1, 1) := by kernel_rfl
theorem info9 : (Try.prog.info? 9).map (fun i => (i.zero, i.size, i.bytes)) = some (some (.string ⟨#[]⟩), 1, 16) := by kernel_rfl
-- the values' own types

end Go.Proofs.Ytgjclhhjigflkaa.M
