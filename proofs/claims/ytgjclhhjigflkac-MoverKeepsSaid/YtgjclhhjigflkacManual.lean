/- The reference's bits, in the form that the printed texts call them by. -/
import Derived.Test.YtgjclhhjigflkacWalkField
namespace Go.Proofs.Ytgjclhhjigflkac.M
open Go.RowKit Go.Proofs.Ytgjclhhjigflkac.MyWords Go.Proofs.YtgjclhhjigflkacW.PrintWords Go.Proofs.YtgjclhhjigflkacW.PrintLast Go.Proofs.YtgjclhhjigflkacW.PrintMore
set_option linter.unusedVariables false
def peristyleref01_Zig.f (a0 : Int) : Option Int := some (wordOf (zigF a0))
theorem peristyleref01_Zig.calls (a0 : Int) (r : Int) (w : World) (h : peristyleref01_Zig.f a0 = some r) :
    Calls Try.prog 107 #[.int .i64 a0] w fun e w' => e = .returned (.int .i64 r) ∧ Below w.heap.size w w' := by
  obtain rfl := Option.some.inj h
  exact ref_Zig.calls a0 w
def peristyleref01_Zag.f (a0 : Int) : Option Int := some (wordOf (zagF a0))
theorem peristyleref01_Zag.calls (a0 : Int) (r : Int) (w : World) (h : peristyleref01_Zag.f a0 = some r) :
    Calls Try.prog 147 #[.int .i64 a0] w fun e w' => e = .returned (.int .i64 r) ∧ Below w.heap.size w w' := by
  obtain rfl := Option.some.inj h
  exact ref_Zag.calls a0 w
def peristyleref01_Field.f (a0 a1 a2 : Int) : Option Int := some (wordOf (fieldF a0 a1 a2))
theorem peristyleref01_Field.calls (a0 a1 a2 : Int) (r : Int) (w : World) (h : peristyleref01_Field.f a0 a1 a2 = some r) :
    Calls Try.prog 108 #[.int .i64 a0, .int .i64 a1, .int .i64 a2] w fun e w' => e = .returned (.int .i64 r) ∧ Below w.heap.size w w' := by
  obtain rfl := Option.some.inj h
  exact ref_Field.calls a0 a1 a2 w
def peristyleref01_With.f (a0 a1 a2 a3 : Int) : Option Int := some (wordOf (withF a0 a1 a2 a3))
theorem peristyleref01_With.calls (a0 a1 a2 a3 : Int) (r : Int) (w : World) (h : peristyleref01_With.f a0 a1 a2 a3 = some r) :
    Calls Try.prog 146 #[.int .i64 a0, .int .i64 a1, .int .i64 a2, .int .i64 a3] w fun e w' => e = .returned (.int .i64 r) ∧ Below w.heap.size w w' := by
  obtain rfl := Option.some.inj h
  exact ref_With.calls a0 a1 a2 a3 w
end Go.Proofs.Ytgjclhhjigflkac.M
