/- The law RunsAny, plain. -/
import Derived.Test.YtgjclhhjigflkabMx12
import Derived.Test.YtgjclhhjigflkabEvRunsOf
namespace Go.Proofs.Ytgjclhhjigflkab.Pure
set_option linter.unusedVariables false
set_option linter.unusedSimpArgs false
open Go.RowKit Go.Proofs.Ytgjclhhjigflkab.M Go.Proofs.Ytgjclhhjigflkab.EvW Go.Proofs.Ytgjclhhjigflkab.Vi Go.Proofs.Ytgjclhhjigflkab.Ru Go.Proofs.YtgjclhhjigflkabW.PrintWords Go.Proofs.YtgjclhhjigflkabW.PrintLast
theorem any_j2 (l : List T) (a : Int) (hw : ∀ r ∈ l, wf64 r.f0 ∧ wf64 r.f2) (ha : wf64 a) (b : Bool) (hb : b = true ∨ l.length ≤ 60) : Ev (fun k => peristylelaw10_RunsAny.j2 k l a b) true := by
  refine Ev.step (fun k => by rw [peristylelaw10_RunsAny.j2]) ?_
  cases b with
  | true => exact ev_pos rfl (Ev.bind awake_ev (Ev.now _))
  | false =>
    have hl : l.length ≤ 60 := hb.resolve_left (by decide)
    obtain ⟨r, f1, f2⟩ := find_both l (by omega) a ha
    have hfs : (flatS l).1.length ≤ 1000000 := by
      unfold flatS
      split
      · rename_i h; have := (cnt_len l h).1; simp only; omega
      · simp
    refine ev_neg (by decide) (Ev.bind (flat_ev l (by omega)) (Ev.bind (rflat_ev l (by omega)) (Ev.bind (put_ev l (by omega)) (Ev.bind (rputRuns_ev l (by omega) hw) (Ev.bind f1 (Ev.bind f2 (Ev.bind (same_ev (flatS l).1 hfs) ?_)))))))
    exact ev_pos rfl (ev_pos rfl (ev_pos rfl (ev_pos rfl (ev_pos rfl (ev_pos rfl (Ev.bind awake_ev (Ev.now _)))))))
theorem any_j1 (l : List T) (a : Int) (hw : ∀ r ∈ l, wf64 r.f0 ∧ wf64 r.f2) (ha : wf64 a) (n : Int) : Ev (fun k => peristylelaw10_RunsAny.j1 k l a n) true := by
  refine Ev.step (fun k => by rw [peristylelaw10_RunsAny.j1]) ?_
  by_cases h : (l.length : Int) > 60
  · exact ev_pos h (any_j2 l a hw ha true (.inl rfl))
  · exact ev_neg h (any_j2 l a hw ha _ (.inr (by omega)))
theorem any_l0 (l : List T) (a : Int) (hw : ∀ r ∈ l, wf64 r.f0 ∧ wf64 r.f2) (ha : wf64 a) (d : Nat) : ∀ (n : Int) (i : Int), 60 - i ≤ d → 0 ≤ i → Ev (fun k => peristylelaw10_RunsAny.l0 k l a n i) true := by
  have hj := any_j1 l a hw ha
  induction d with
  | zero =>
    intro n i h h0
    refine Ev.step (fun k => by rw [peristylelaw10_RunsAny.l0]) ?_
    by_cases h1 : i < (l.length : Int)
    · exact ev_pos h1 (ev_neg (by omega) (hj n))
    · exact ev_neg h1 (hj n)
  | succ d ih =>
    intro n i h h0
    refine Ev.step (fun k => by rw [peristylelaw10_RunsAny.l0]) ?_
    by_cases h1 : i < (l.length : Int)
    · refine ev_pos h1 ?_
      by_cases h2 : i < 60
      · refine ev_pos h2 ?_
        by_cases h3 : n ≤ 1024
        · refine ev_pos h3 (ev_pos h0 ?_)
          rw [w64 (i + 1) (by omega) (by omega)]
          exact ih _ _ (by omega) (by omega)
        · exact ev_neg h3 (hj n)
      · exact ev_neg h2 (hj n)
    · exact ev_neg h1 (hj n)
theorem RunsAny : peristylelaw10_RunsAny.Pure := by
  intro l0 a1 _ hw hat
  exact Ev.rounds (any_l0 l0 a1 (fun r hr => ⟨wf64_of _ (hw r hr).1, wf64_of _ (hw r hr).2.2⟩) (wf64_of _ hat) 60 0 0 (by omega) (by omega))
end Go.Proofs.Ytgjclhhjigflkab.Pure
