/- Proved: the sum of any bytes, and of any bytes behind others of any sum, is the document's. Conditions: none beyond the statement's own. -/
import Derived.Test.YtgjclhhjigflkaaMx1
import Derived.Test.YtgjclhhjigflkaaEvCheck
namespace Go.Proofs.Ytgjclhhjigflkaa.Pure
open Go.RowKit Go.Proofs.Ytgjclhhjigflkaa.M Go.Proofs.Ytgjclhhjigflkaa.Ck Go.Proofs.Ytgjclhhjigflkaa.EvW Go.Proofs.YtgjclhhjigflkaaW.PrintWords Go.Proofs.YtgjclhhjigflkaaW.PrintLast
theorem CheckSums : peristylelaw03_CheckSums.Pure := by
  intro a s _ hs
  refine Ev.rounds ?_
  unfold peristylelaw03_CheckSums.f
  by_cases h : (s.size : Int) > 2048
  · exact ev_pos h (Ev.bind awake_ev (Ev.now _))
  · refine ev_neg h (Ev.bind (sum_ev s hs) (Ev.bind (rsum_ev s hs) (ev_pos rfl (Ev.bind (more_ev a s hs) (Ev.bind (rmore_ev a s hs) (ev_pos rfl (Ev.bind awake_ev (Ev.now _))))))))
end Go.Proofs.Ytgjclhhjigflkaa.Pure
