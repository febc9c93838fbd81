/- The law MoverLives, plain. -/
import Derived.Test.YtgjclhhjigflkabMx9
import Derived.Test.YtgjclhhjigflkabEvLives
namespace Go.Proofs.Ytgjclhhjigflkab.Pure
set_option linter.unusedVariables false
set_option linter.unusedSimpArgs false
open Go.RowKit Go.Proofs.Ytgjclhhjigflkab.M Go.Proofs.Ytgjclhhjigflkab.EvW Go.Proofs.Ytgjclhhjigflkab.Ru Go.Proofs.Ytgjclhhjigflkab.Mv Go.Proofs.YtgjclhhjigflkabW.PrintWords Go.Proofs.YtgjclhhjigflkabW.PrintLast
theorem lives_l1 (x0 : List (List C)) (x1 : List T) (x2 : List Mk) (h0 : x0.length ≤ 60) (h1 : x1.length ≤ 60) (h2 : x2.length ≤ 60) (d : Nat) : ∀ j : Nat, j + d = x0.length → (∀ i (hi : i < x0.length), i < j → x0[i].length ≤ 20) →
    Ev (fun k => peristylelaw27_MoverLives.l1 k x0 x1 x2 (j : Int)) true := by
  induction d with
  | zero =>
    intro j h hc
    obtain ⟨g1, g2⟩ := livesS_ok x0 x1 x2 (by omega) (fun i hi => by have := hc i hi (by omega); omega)
    refine Ev.step (fun k => by rw [peristylelaw27_MoverLives.l1]) (ev_neg (by omega) ?_)
    exact Ev.bind (lives_ev x0 x1 x2 (by omega) (by omega) (by omega)) (Ev.bind (rlives_ev x0 x1 x2 (by omega) (by omega) (by omega)) (Ev.bind (lsame_ev _ g1 g2) (ev_pos rfl (ev_pos rfl (Ev.bind awake_ev (Ev.now _))))))
  | succ d ih =>
    intro j h hc
    have hj : j < x0.length := by omega
    obtain ⟨b, e1, e2⟩ := light_ev (x0[j])
    refine Ev.step (fun k => by rw [peristylelaw27_MoverLives.l1, rdRow x0 j hj]) (ev_pos (by omega) (ev_pos (by omega) (Ev.bind e1 ?_)))
    cases b with
    | false => exact ev_neg Bool.false_ne_true (Ev.bind awake_ev (Ev.now _))
    | true =>
      refine ev_pos rfl ?_
      rw [w64 _ (by omega) (by omega)]
      have := ih (j + 1) (by omega) (fun i hi hij => by
        by_cases he : i = j
        · subst he; exact e2 rfl
        · exact hc i hi (by omega))
      rw [Int.natCast_add] at this
      exact this
theorem lives_j1 (x0 : List (List C)) (x1 : List T) (x2 : List Mk) (s : Int) : Ev (fun k => peristylelaw27_MoverLives.j1 k x0 x1 x2 s) true := by
  have hno : Ev (fun k => peristylelaw27_MoverLives.j2 k x0 x1 x2 true) true := Ev.step (fun k => by rw [peristylelaw27_MoverLives.j2]) (ev_pos rfl (Ev.bind awake_ev (Ev.now _)))
  refine Ev.step (fun k => by rw [peristylelaw27_MoverLives.j1]) ?_
  by_cases c1 : (x0.length : Int) > 60
  · exact ev_pos c1 hno
  · refine ev_neg c1 ?_
    by_cases c2 : (x1.length : Int) > 60
    · exact ev_pos c2 hno
    · refine ev_neg c2 ?_
      by_cases c3 : s > 1024
      · exact ev_pos c3 hno
      · refine ev_neg c3 ?_
        by_cases c4 : (x2.length : Int) > 60
        · rw [decide_eq_true c4]; exact hno
        · rw [decide_eq_false c4]
          have hl : Ev (fun k => peristylelaw27_MoverLives.l1 k x0 x1 x2 0) true := lives_l1 x0 x1 x2 (by omega) (by omega) (by omega) x0.length 0 (by omega) (fun i hi h => absurd h (by omega))
          exact Ev.step (fun k => by rw [peristylelaw27_MoverLives.j2]) (ev_neg Bool.false_ne_true hl)
theorem lives_l0' (x0 : List (List C)) (x1 : List T) (x2 : List Mk) (d : Nat) : ∀ (j : Nat) (s : Int), j + d = 60 → Ev (fun k => peristylelaw27_MoverLives.l0 k x0 x1 x2 s (j : Int)) true := by
  induction d with
  | zero =>
    intro j s h
    refine Ev.step (fun k => by rw [peristylelaw27_MoverLives.l0]) ?_
    by_cases c1 : (j : Int) < (x1.length : Int)
    · exact ev_pos c1 (ev_neg (by omega) (lives_j1 x0 x1 x2 s))
    · exact ev_neg c1 (lives_j1 x0 x1 x2 s)
  | succ d ih =>
    intro j s h
    refine Ev.step (fun k => by rw [peristylelaw27_MoverLives.l0]) ?_
    by_cases c1 : (j : Int) < (x1.length : Int)
    · refine ev_pos c1 (ev_pos (by omega) ?_)
      by_cases c2 : s ≤ 1024
      · refine ev_pos c2 (ev_pos (by omega) ?_)
        rw [w64 ((j : Int) + 1) (by omega) (by omega)]
        have := ih (j + 1) (wrap64 (s + (mn 1024 (mx 0 ((rd_T86 x1 (j : Int)).f2))))) (by omega)
        rw [Int.natCast_add] at this
        exact this
      · exact ev_neg c2 (lives_j1 x0 x1 x2 s)
    · exact ev_neg c1 (lives_j1 x0 x1 x2 s)
theorem MoverLives : peristylelaw27_MoverLives.Pure := by
  intro l0 l1 l2 _ _ _ _ _ _
  exact Ev.rounds (lives_l0' l0 l1 l2 60 0 0 rfl)
end Go.Proofs.Ytgjclhhjigflkab.Pure
