/- The law MoverProjects, plain. -/
import Derived.Test.YtgjclhhjigflkacMx9
import Derived.Test.YtgjclhhjigflkacEvKinds
namespace Go.Proofs.Ytgjclhhjigflkac.Pure
set_option linter.unusedVariables false
set_option linter.unusedSimpArgs false
open Go.RowKit Go.Proofs.Ytgjclhhjigflkac.M Go.Proofs.Ytgjclhhjigflkac.EvW Go.Proofs.Ytgjclhhjigflkac.Ru Go.Proofs.Ytgjclhhjigflkac.Mv Go.Proofs.YtgjclhhjigflkacW.PrintWords Go.Proofs.YtgjclhhjigflkacW.PrintLast
theorem projects_l0 (x0 : List (List C)) (x1 : List Int) (n : ByteArray) (t : List Cl) (p : List S52) (h0 : x0.length ≤ 30) (h1 : x1.length ≤ 10) (d : Nat) : ∀ j : Nat, j + d = x0.length →
    Ev (fun k => peristylelaw27_MoverProjects.l0 k x0 x1 (j : Int) n t p) true := by
  induction d with
  | zero =>
    intro j h
    obtain ⟨g1, g2⟩ := projS_ok x0 x1
    have g3 := kindG_len t x1
    have hk1 : Ev (fun k => mover_Kinds.f k n t p (⟨#[]⟩ : ByteArray) x1 0) (kindG [] (kindR t x1)) := kinds_l0 x1 (by omega) n t p x1 [] [] rfl rfl
    have hk2 : Ev (fun k => peristyleref27_Kinds.f k n t p (⟨#[]⟩ : ByteArray) x1 0) (kindG [] (kindR t x1)) := rkinds_l0 x1 (by omega) n _ t p 0 x1 [] [] rfl rfl
    refine Ev.step (fun k => by rw [peristylelaw27_MoverProjects.l0]) (ev_neg (by omega) ?_)
    refine Ev.bind (project_ev x0 x1 (by omega) (by omega)) (Ev.bind (rproject_ev x0 x1 (by omega) (by omega)) (Ev.bind hk1 (Ev.bind hk2 ?_)))
    refine Ev.bind (rowsame_ev (projS x0 x1).1 (by omega) (fun x hx => by have := g2 x hx; omega)) (ev_pos rfl (ev_pos rfl ?_))
    exact Ev.bind (same_ev (kindG [] (kindR t x1)).1 (by omega)) (ev_pos rfl (ev_pos rfl (Ev.bind awake_ev (Ev.now _))))
  | succ d ih =>
    intro j h
    have hj : j < x0.length := by omega
    obtain ⟨b, e1, _⟩ := light_ev (x0[j])
    refine Ev.step (fun k => by rw [peristylelaw27_MoverProjects.l0, rdRow x0 j hj]) (ev_pos (by omega) (ev_pos (by omega) (Ev.bind e1 ?_)))
    cases b with
    | false => exact ev_neg Bool.false_ne_true (Ev.bind awake_ev (Ev.now _))
    | true =>
      refine ev_pos rfl ?_
      rw [w64 _ (by omega) (by omega)]
      have := ih (j + 1) (by omega)
      rw [Int.natCast_add] at this
      exact this
theorem MoverProjects : peristylelaw27_MoverProjects.Pure := by
  intro l0 l1 n t p _ _ _ _ _ _ ht _ hp _
  refine Ev.rounds ?_
  have hno : Ev (fun k => peristylelaw27_MoverProjects.j0 k l0 l1 true n t p) true := Ev.step (fun k => by rw [peristylelaw27_MoverProjects.j0]) (ev_pos rfl (Ev.bind awake_ev (Ev.now _)))
  by_cases c1 : (l0.length : Int) > 30
  · exact ev_pos c1 hno
  · refine ev_neg c1 ?_
    by_cases c2 : (l1.length : Int) > 10
    · exact ev_pos c2 hno
    · refine ev_neg c2 ?_
      obtain ⟨b, hb⟩ := tlight_ev n t p hp ht
      refine Ev.bind hb ?_
      cases b with
      | false => exact hno
      | true =>
        have hl : Ev (fun k => peristylelaw27_MoverProjects.l0 k l0 l1 0 n t p) true := projects_l0 l0 l1 n t p (by omega) (by omega) l0.length 0 (by omega)
        exact Ev.step (fun k => by rw [peristylelaw27_MoverProjects.j0]) (ev_neg (by decide) hl)
end Go.Proofs.Ytgjclhhjigflkac.Pure
