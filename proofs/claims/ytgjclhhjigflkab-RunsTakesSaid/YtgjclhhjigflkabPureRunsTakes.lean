/- The law RunsTakes, plain. -/
import Derived.Test.YtgjclhhjigflkabMx15
import Derived.Test.YtgjclhhjigflkabEvRunsTake
namespace Go.Proofs.Ytgjclhhjigflkab.Pure
set_option linter.unusedVariables false
set_option linter.unusedSimpArgs false
open Go.RowKit Go.Proofs.Ytgjclhhjigflkab.M Go.Proofs.Ytgjclhhjigflkab.EvW Go.Proofs.Ytgjclhhjigflkab.Vi Go.Proofs.Ytgjclhhjigflkab.Ru Go.Proofs.YtgjclhhjigflkabW.PrintWords Go.Proofs.YtgjclhhjigflkabW.PrintLast
theorem RunsTakes : peristylelaw10_RunsTakes.Pure := by
  intro a0 a1 _ hat
  refine Ev.rounds ?_
  by_cases h : (a0.size : Int) > 512
  · exact ev_pos h (Ev.bind awake_ev (Ev.now _))
  · have hlen : (takeR a0.data.toList a1).1.length ≤ 1000 := by
      unfold takeR
      split
      · simp
      · refine Nat.le_trans (takeG_len _ _ _ _ _) ?_
        rw [data_length]; simp; omega
    refine ev_neg h (Ev.bind (takeRuns_ev a0 (by omega) a1) (Ev.bind (rtakeRuns_ev a0 (by omega) a1) (Ev.bind (put_ev _ (by omega)) (Ev.bind (rsame_ev _ (by omega)) ?_))))
    refine ev_pos rfl (ev_pos rfl ?_)
    by_cases he : (takeR a0.data.toList a1).2 = 0
    · have hp : putS (takeR a0.data.toList a1).1 = (a0, 0) := by
        have he2 := he
        unfold takeR at he2
        split at he2
        · simp at he2
        · rename_i hn
          obtain ⟨g1, q, g2, g3⟩ := takeG_ok a1 (a0.data.toList.length + 1) a0.data.toList 0 [] (takeG (a0.data.toList.length + 1) a0.data.toList a1 0 []).1 (Prod.ext rfl he2)
          unfold takeR
          rw [if_neg hn]
          unfold putS
          rw [if_pos g1, g2, List.nil_append, g3]
      rw [hp]
      exact ev_pos he (ev_pos rfl (ev_pos rfl (Ev.bind awake_ev (Ev.now _))))
    · exact ev_neg he (Ev.bind awake_ev (Ev.now _))
end Go.Proofs.Ytgjclhhjigflkab.Pure
