-- written by mkprint.py, a program of this session, over the kit's printer
import Derived.Test.YtgjclhhjigflkabCx0
namespace Go.Proofs.Ytgjclhhjigflkab.C
open Go.RowKit Go.Proofs.YtgjclhhjigflkabW.PrintWords Go.Proofs.YtgjclhhjigflkabW.PrintLast Go.Proofs.YtgjclhhjigflkabW.PrintMore
attribute [local go_sem] max2_int min2_int max_two min_two max_three min_three max_four min_four   -- for this text's walks alone
set_option linter.unusedVariables false
set_option linter.unusedSimpArgs false
/-! ### peristyleref32_has: function 127 -/
/-! ### peristyleref32_used: function 82 -/
/-! ### peristyleref32_Place: function 128 -/
/-! ### peristyleref32_all: function 83 -/
/-! ### peristyleref32_from: function 85 -/
end Go.Proofs.Ytgjclhhjigflkab.C
