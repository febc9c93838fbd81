/- The law RunsOf, plain. -/
import Derived.Test.YtgjclhhjigflkabMx9
import Derived.Test.YtgjclhhjigflkabEvRunsOf
namespace Go.Proofs.Ytgjclhhjigflkab.Pure
set_option linter.unusedVariables false
set_option linter.unusedSimpArgs false
open Go.RowKit Go.Proofs.Ytgjclhhjigflkab.M Go.Proofs.Ytgjclhhjigflkab.EvW Go.Proofs.Ytgjclhhjigflkab.Vi Go.Proofs.Ytgjclhhjigflkab.Ru Go.Proofs.YtgjclhhjigflkabW.PrintWords Go.Proofs.YtgjclhhjigflkabW.PrintLast
theorem RunsOf : peristylelaw10_RunsOf.Pure := by
  intro l0 a1 _ _ hw hat
  refine Ev.rounds ?_
  by_cases h : (l0.length : Int) > 100
  · exact ev_pos h (Ev.bind awake_ev (Ev.now _))
  · have hi := ofS_inv l0 (by omega)
    have hc : (cnt 0 none (ofS l0)).2 = true := by rw [hi.cnt]
    have hf : flatS (ofS l0) = (l0, 0) := by unfold flatS; rw [if_pos hc, hi.flat]
    have hl := out_len hi (by omega)
    obtain ⟨r, f1, f2⟩ := find_both (ofS l0) (by omega) a1 (wf64_of _ hat)
    have hfl := flat_ev (ofS l0) (by omega)
    rw [hf] at hfl
    refine ev_neg h (Ev.bind (of_ev l0 (by omega)) (Ev.bind hfl (Ev.bind f1 (Ev.bind (rof_ev l0 (by omega)) (Ev.bind f2 (Ev.bind (rof_ev l0 (by omega)) (Ev.bind (rsame_ev (ofS l0) (by omega)) ?_)))))))
    refine ev_pos rfl (Ev.bind (same_ev l0 (by omega)) ?_)
    exact ev_pos rfl (ev_pos rfl (ev_pos rfl (ev_pos rfl (Ev.bind awake_ev (Ev.now _)))))
end Go.Proofs.Ytgjclhhjigflkab.Pure
