/- The law MoverMerges, plain. -/
import Derived.Test.YtgjclhhjigflkabMx8
import Derived.Test.YtgjclhhjigflkabEvMerge
namespace Go.Proofs.Ytgjclhhjigflkab.Pure
set_option linter.unusedVariables false
set_option linter.unusedSimpArgs false
open Go.RowKit Go.Proofs.Ytgjclhhjigflkab.M Go.Proofs.Ytgjclhhjigflkab.EvW Go.Proofs.Ytgjclhhjigflkab.Ru Go.Proofs.Ytgjclhhjigflkab.Mv Go.Proofs.YtgjclhhjigflkabW.PrintWords Go.Proofs.YtgjclhhjigflkabW.PrintLast
theorem MoverMerges : peristylelaw27_MoverMerges.Pure := by
  intro l0 l1 a2 _ _ _ _ _
  refine Ev.rounds ?_
  have hno : Ev (fun k => peristylelaw27_MoverMerges.j0 k l0 l1 a2 true) true := Ev.step (fun k => by rw [peristylelaw27_MoverMerges.j0]) (ev_pos rfl (Ev.bind awake_ev (Ev.now _)))
  obtain ⟨b0, e0, h0⟩ := llight_ev l0
  refine Ev.bind e0 ?_
  cases b0 with
  | false => exact ev_neg (by decide) hno
  | true =>
    refine ev_pos rfl ?_
    obtain ⟨b1, e1, h1⟩ := llight_ev l1
    refine Ev.bind e1 ?_
    cases b1 with
    | false => exact hno
    | true =>
      obtain ⟨n0, c0⟩ := h0 rfl
      obtain ⟨n1, c1⟩ := h1 rfl
      have hc : ∀ x ∈ (l0 ++ l1).filter (fun x => !goneB a2 x), x.f0.length ≤ 1000000 := by
        intro x hx
        have hx2 := (List.mem_filter.1 hx).1
        rcases List.mem_append.1 hx2 with h | h
        · have := c0 x h; omega
        · have := c1 x h; omega
      have hl : ((l0 ++ l1).filter (fun x => !goneB a2 x)).length ≤ 1000000 := by
        have := List.length_filter_le (fun x => !goneB a2 x) (l0 ++ l1)
        rw [List.length_append] at this
        omega
      have hof : (ofS (l0.map (·.f1))).length ≤ 65536 := out_len (ofS_inv _ (by rw [List.length_map]; omega)) (by rw [List.length_map]; omega)
      have hmk := marksS_len l0 0
      refine Ev.step (fun k => by rw [peristylelaw27_MoverMerges.j0, merge_is l0 l1 a2 (by omega), Option.bind_some]) (ev_neg (by decide) ?_)
      refine Ev.bind (vec_ev l0 (by omega)) (Ev.bind (rvec_ev l0 (by omega)) (Ev.bind (rmerge_ev l0 l1 a2 (by omega)) (Ev.bind (lsame_ev _ hl hc) (ev_pos rfl ?_))))
      have hrow : Ev (fun k => peristyleref06_SameRows.f k (vecS l0).1 (vecS l0).1) true := by
        refine rowsame_ev (l0.map fun x : L => x.f0) (by rw [List.length_map]; omega) ?_
        intro x hx
        obtain ⟨y, hy, rfl⟩ := List.mem_map.1 hx
        have := c0 y hy
        omega
      have hrun : Ev (fun k => peristyleref10_Same.f k (vecS l0).2.1 (vecS l0).2.1) true := rsame_ev (ofS (l0.map fun x : L => x.f1)) (Nat.le_trans hof (by decide))
      have hmark : Ev (fun k => peristyleref21_Same.f k (vecS l0).2.2 (vecS l0).2.2) true := msame_ev (marksS 0 l0) (by omega)
      refine Ev.bind hrow (ev_pos rfl ?_)
      refine Ev.bind hrun (ev_pos rfl ?_)
      refine Ev.bind hmark (ev_pos rfl ?_)
      exact Ev.bind awake_ev (Ev.now _)
end Go.Proofs.Ytgjclhhjigflkab.Pure
