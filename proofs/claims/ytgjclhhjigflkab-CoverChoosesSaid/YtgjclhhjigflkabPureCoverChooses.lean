/- By which projections any table is read (law 32, over the printed chain). -/
import Derived.Test.YtgjclhhjigflkabCx7
import Derived.Test.YtgjclhhjigflkabCvRef8
import Derived.Test.YtgjclhhjigflkabCvLaw
namespace Go.Proofs.Ytgjclhhjigflkab.Pure
open Go Go.RowKit Go.Proofs.Ytgjclhhjigflkab.C Go.Proofs.Ytgjclhhjigflkab.Hand Go.Proofs.Ytgjclhhjigflkab.EvW Go.Proofs.Ytgjclhhjigflkab.Sc Go.Proofs.YtgjclhhjigflkabW.PrintWords Go.Proofs.YtgjclhhjigflkabW.PrintLast
set_option linter.unusedVariables false
theorem cc_awake (t : Tab) (need tested : List Int) (us : List ByteArray) : Ev (fun k => peristylelaw32_CoverChooses.j0 k us true t.f0 t.f1 t.f2 need tested) true :=
  Ev.step (fun k => by rw [peristylelaw32_CoverChooses.j0, if_pos rfl]) awake_some
theorem cc_go (t : Tab) (hg : gtB t = true) (need tested : List Int) (us : List ByteArray) (hn : need.length ≤ 20) (ht : tested.length ≤ 20) (hu : us.length ≤ 20) : Ev (fun k => peristylelaw32_CoverChooses.j0 k us false t.f0 t.f1 t.f2 need tested) true := by
  refine Ev.step (f := fun k => (cover_Choose.f k t.f0 t.f1 t.f2 need tested us).bind fun a => (peristyleref32_Choose.f k t.f0 t.f1 t.f2 need tested us).bind fun b => if a.1 = b.1 then (peristyleref01_Same.f k a.2.1 b.2.1).bind fun q => if q = true then (if a.2.2 = b.2.2 then (peristylelaw32_awake.f k).bind fun r => some r else none) else none else none) (fun k => by rw [peristylelaw32_CoverChooses.j0, if_neg (by decide)]) ?_
  refine Ev.bind (choose_f t hg need tested us (by omega) (by omega) (by omega)) (Ev.bind (rchoose_ev t hg need tested us (by omega) (by omega) (by omega)) (ev_pos rfl ?_))
  exact Ev.bind (same_ev _ (choose_len t hg need tested us)) (ev_pos rfl (ev_pos rfl awake_some))
theorem CoverChooses : peristylelaw32_CoverChooses.Pure := by
  intro a0_0 l0_1 l0_2 need tested us _ _ _ _ _ _ _ _ _ _ _
  refine Ev.rounds ?_
  unfold peristylelaw32_CoverChooses.f
  obtain ⟨b, e, p⟩ := light_ev ⟨a0_0, l0_1, l0_2⟩ need us
  cases b with
  | false => exact Ev.bind e (ev_neg (by decide) (cc_awake ⟨a0_0, l0_1, l0_2⟩ need tested us))
  | true =>
    obtain ⟨hg, hn, hu⟩ := p rfl
    refine Ev.bind e (ev_pos rfl ?_)
    by_cases h : (tested.length : Int) > 20
    · rw [decide_eq_true h]
      exact cc_awake ⟨a0_0, l0_1, l0_2⟩ need tested us
    · rw [decide_eq_false h]
      exact cc_go ⟨a0_0, l0_1, l0_2⟩ hg need tested us hn (by omega) hu
end Go.Proofs.Ytgjclhhjigflkab.Pure
