/- Runs: the reference's runs of numbers (cut from XEvRunsOf by wip/mk/evrows.py). -/
import Derived.Test.YtgjclhhjigflkabMx5
import Derived.Test.YtgjclhhjigflkabEvRows
namespace Go.Proofs.Ytgjclhhjigflkab.Ru
set_option linter.unusedVariables false
set_option linter.unusedSimpArgs false
open Go.RowKit Go.Proofs.Ytgjclhhjigflkab.M Go.Proofs.Ytgjclhhjigflkab.EvW Go.Proofs.YtgjclhhjigflkabW.PrintWords Go.Proofs.YtgjclhhjigflkabW.PrintLast Go.Proofs.YtgjclhhjigflkabW.PrintMore
theorem rof_l0 (l : List Int) (hl : l.length ≤ 65536) : ∀ (rest done : List Int) (out : List T), l = done ++ rest → Inv done out →
    Ev (fun k => peristyleref10_Of.l0 k l out (done.length : Int)) (ofG done rest out) := by
  intro rest
  induction rest with
  | nil =>
    intro done out h hi
    rw [ofG]
    exact Ev.step (fun k => by rw [peristyleref10_Of.l0]) (ev_neg (by rw [h]; simp) (Ev.step (fun k => by rw [peristyleref10_Of.j1]) (ev_neg (by decide) (Ev.now _))))
  | cons n rest ih =>
    intro done out h hi
    have hlen : l.length = done.length + 1 + rest.length := by rw [h]; simp; omega
    have hr : rd l (done.length : Int) = n := by rw [h]; exact rd_mid done rest n
    have hl2 : l = (done ++ [n]) ++ rest := by rw [h]; simp
    have hout := out_len hi (by omega)
    have hnext := ih (done ++ [n]) _ hl2 (inv_step hi n (by omega))
    rw [ofG]
    have hw : wrap64 ((done.length : Int) + 1) = ((done ++ [n]).length : Int) := by rw [w64 _ (by omega) (by omega)]; simp
    refine Ev.step (fun k => by rw [peristyleref10_Of.l0]) (ev_pos (by omega) (Ev.step (fun k => by rw [peristyleref10_Of.j1, hr]) (ev_pos (decide_eq_true (by omega)) ?_)))
    rcases List.eq_nil_or_concat done with hd | ⟨d, q, hd⟩
    · subst hd
      rw [if_neg (by simp)] at hnext ⊢
      rw [hw]
      exact ev_neg (by simp) (ev_pos (by simp) (ev_pos (by omega) (ev_pos (by omega) hnext)))
    · rw [List.concat_eq_append] at hd
      subst hd
      have hq : rd l (wrap64 (((d ++ [q]).length : Int) - 1)) = q := by rw [w64 _ (by omega) (by omega), h]; exact rd_last d (n :: rest) q
      have hwl : wrap64 (((d ++ [q]).length : Int) - 1) = ((d ++ [q]).length : Int) - 1 := w64 _ (by omega) (by omega)
      refine ev_pos (by simp; try omega) (ev_pos (by omega) (ev_pos (by omega) (ev_pos (by rw [hwl]; simp) (ev_pos (by rw [hwl]; omega) ?_))))
      rw [hq, hw]
      by_cases hnq : n = q
      · subst hnq
        have hne : (d ++ [n]).getLast? = some n := by simp
        obtain ⟨o, r, rfl, e, hi2, g1, g2⟩ := inv_bump hi n hne (by omega)
        obtain ⟨s1, s2⟩ := snoc_ok o r (by simp at hout; omega)
        refine ev_pos rfl (ev_pos s1 (ev_pos s2 ?_))
        rw [bump_set _ _ (by omega) (by omega) (by simp at hout; omega)]
        rw [if_pos hne, bump_snoc] at hnext ⊢
        exact hnext
      · have hne : (d ++ [q]).getLast? ≠ some n := by simp; exact fun h => hnq h.symm
        rw [if_neg hne] at hnext ⊢
        exact ev_neg hnq (ev_pos (by omega) hnext)
theorem rof_ev (l : List Int) (hl : l.length ≤ 65536) : Ev (fun k => peristyleref10_Of.f k l) (ofS l) := rof_l0 l hl l [] [] rfl inv_nil
end Go.Proofs.Ytgjclhhjigflkab.Ru
