/- The reference's bits, in the form that the printed texts call them by. -/
import Derived.Test.YtgjclhhjigflkabWalkField
namespace Go.Proofs.Ytgjclhhjigflkab.M
open Go.RowKit Go.Proofs.Ytgjclhhjigflkab.MyWords Go.Proofs.YtgjclhhjigflkabW.PrintWords Go.Proofs.YtgjclhhjigflkabW.PrintLast Go.Proofs.YtgjclhhjigflkabW.PrintMore
set_option linter.unusedVariables false
def peristyleref01_Zig.f (a0 : Int) : Option Int := some (wordOf (zigF a0))
theorem peristyleref01_Zig.calls (a0 : Int) (r : Int) (w : World) (h : peristyleref01_Zig.f a0 = some r) :
    Calls Try.prog 136 #[.int .i64 a0] w fun e w' => e = .returned (.int .i64 r) ∧ Below w.heap.size w w' := by
  obtain rfl := Option.some.inj h
  exact ref_Zig.calls a0 w
def peristyleref01_Zag.f (a0 : Int) : Option Int := some (wordOf (zagF a0))
theorem peristyleref01_Zag.calls (a0 : Int) (r : Int) (w : World) (h : peristyleref01_Zag.f a0 = some r) :
    Calls Try.prog 141 #[.int .i64 a0] w fun e w' => e = .returned (.int .i64 r) ∧ Below w.heap.size w w' := by
  obtain rfl := Option.some.inj h
  exact ref_Zag.calls a0 w
def peristyleref01_Field.f (a0 a1 a2 : Int) : Option Int := some (wordOf (fieldF a0 a1 a2))
theorem peristyleref01_Field.calls (a0 a1 a2 : Int) (r : Int) (w : World) (h : peristyleref01_Field.f a0 a1 a2 = some r) :
    Calls Try.prog 137 #[.int .i64 a0, .int .i64 a1, .int .i64 a2] w fun e w' => e = .returned (.int .i64 r) ∧ Below w.heap.size w w' := by
  obtain rfl := Option.some.inj h
  exact ref_Field.calls a0 a1 a2 w
def peristyleref01_With.f (a0 a1 a2 a3 : Int) : Option Int := some (wordOf (withF a0 a1 a2 a3))
theorem peristyleref01_With.calls (a0 a1 a2 a3 : Int) (r : Int) (w : World) (h : peristyleref01_With.f a0 a1 a2 a3 = some r) :
    Calls Try.prog 140 #[.int .i64 a0, .int .i64 a1, .int .i64 a2, .int .i64 a3] w fun e w' => e = .returned (.int .i64 r) ∧ Below w.heap.size w w' := by
  obtain rfl := Option.some.inj h
  exact ref_With.calls a0 a1 a2 a3 w
end Go.Proofs.Ytgjclhhjigflkab.M
