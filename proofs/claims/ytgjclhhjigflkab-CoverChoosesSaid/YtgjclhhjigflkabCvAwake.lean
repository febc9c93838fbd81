/- What must come, comes (law 32): the whole of awake is computed. -/
import Derived.Test.YtgjclhhjigflkabCvManual
import Derived.Test.YtgjclhhjigflkabCx5
namespace Go.Proofs.Ytgjclhhjigflkab.Sc
open Go Go.RowKit Go.Proofs.Ytgjclhhjigflkab.C Go.Proofs.Ytgjclhhjigflkab.Hand Go.Proofs.Ytgjclhhjigflkab.EvW Go.Proofs.YtgjclhhjigflkabW.PrintWords
set_option linter.unusedVariables false
set_option linter.unusedSimpArgs false
set_option maxRecDepth 100000 in
theorem awake_ev : Ev (fun k => peristylelaw32_awake.f k) true := Ev.of peristylelaw32_awake.mono (k := 40) (by decide +kernel)
end Go.Proofs.Ytgjclhhjigflkab.Sc
