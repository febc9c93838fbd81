/- What the document's Choose comes to: the columns' loops (law 32). -/
import Derived.Test.YtgjclhhjigflkabCvRef6
import Derived.Test.YtgjclhhjigflkabCx6
namespace Go.Proofs.Ytgjclhhjigflkab.Sc
open Go Go.RowKit Go.Proofs.Ytgjclhhjigflkab.C Go.Proofs.Ytgjclhhjigflkab.Hand Go.Proofs.Ytgjclhhjigflkab.EvW Go.Proofs.YtgjclhhjigflkabW.PrintWords
set_option linter.unusedVariables false
set_option linter.unusedSimpArgs false
theorem rch_l1 (t : Tab) (need tested : List Int) (us : List ByteArray) (ht : tested.length ≤ 1000000) (R : Int × List Int × Int) (hbad : colsIn t tested = false → R = (0, [], 1)) 
    (hend : colsIn t tested = true → Ev (fun k => peristyleref32_Choose.l1 k need tested us (tested.length : Int) t.f0 t.f1 t.f2) R) : ∀ d i : Nat, i + d = tested.length → (∀ m (h : m < tested.length), m < i → inP t.f1.length tested[m] = true) → Ev (fun k => peristyleref32_Choose.l1 k need tested us (i : Int) t.f0 t.f1 t.f2) R
  | 0, i, hi, hp => by
    have e : i = tested.length := by omega
    subst e
    refine hend ?_
    unfold colsIn
    rw [List.all_eq_true]
    intro x hx
    obtain ⟨m, hm, rfl⟩ := List.getElem_of_mem hx
    exact hp m hm hm
  | d + 1, i, hi, hp => by
    have hlt : i < tested.length := by omega
    have hno : inP t.f1.length tested[i] = false → colsIn t tested = false := fun h => bool_no (fun h2 => by
      unfold colsIn at h2
      rw [List.all_eq_true] at h2
      have := h2 _ (List.getElem_mem hlt)
      rw [h] at this
      cases this)
    by_cases h1 : tested[i] < 0
    · rw [hbad (hno (bool_no (fun h => ((in_one _ _).1 h).1 h1)))]
      exact Ev.step (f := fun _ => some (0, [], 1)) (fun k => by rw [peristyleref32_Choose.l1, if_pos (by omega), if_pos (by omega), rd_at _ i hlt, if_pos h1]) (Ev.now _)
    · by_cases h2 : tested[i] ≥ (t.f1.length : Int)
      · rw [hbad (hno (bool_no (fun h => ((in_one _ _).1 h).2 h2)))]
        exact Ev.step (f := fun _ => some (0, [], 1)) (fun k => by rw [peristyleref32_Choose.l1, if_pos (by omega), if_pos (by omega), rd_at _ i hlt, if_neg h1, if_pos h2]) (Ev.now _)
      · refine Ev.step (f := fun k => peristyleref32_Choose.l1 k need tested us ((i + 1 : Nat) : Int) t.f0 t.f1 t.f2) (fun k => by rw [peristyleref32_Choose.l1, if_pos (by omega), if_pos (by omega), rd_at _ i hlt, if_neg h1, if_neg h2, w64 i (by omega)]) (rch_l1 t need tested us ht R hbad hend d (i + 1) (by omega) (fun m h h3 => ?_))
        by_cases he : m = i
        · subst he; exact (in_one _ _).2 ⟨h1, h2⟩
        · exact hp m h (by omega)
theorem rch_l0 (t : Tab) (need tested : List Int) (us : List ByteArray) (ht : need.length ≤ 1000000) (R : Int × List Int × Int) (hbad : colsIn t need = false → R = (0, [], 1)) 
    (hend : colsIn t need = true → Ev (fun k => peristyleref32_Choose.l0 k need tested us (need.length : Int) t.f0 t.f1 t.f2) R) : ∀ d i : Nat, i + d = need.length → (∀ m (h : m < need.length), m < i → inP t.f1.length need[m] = true) → Ev (fun k => peristyleref32_Choose.l0 k need tested us (i : Int) t.f0 t.f1 t.f2) R
  | 0, i, hi, hp => by
    have e : i = need.length := by omega
    subst e
    refine hend ?_
    unfold colsIn
    rw [List.all_eq_true]
    intro x hx
    obtain ⟨m, hm, rfl⟩ := List.getElem_of_mem hx
    exact hp m hm hm
  | d + 1, i, hi, hp => by
    have hlt : i < need.length := by omega
    have hno : inP t.f1.length need[i] = false → colsIn t need = false := fun h => bool_no (fun h2 => by
      unfold colsIn at h2
      rw [List.all_eq_true] at h2
      have := h2 _ (List.getElem_mem hlt)
      rw [h] at this
      cases this)
    by_cases h1 : need[i] < 0
    · rw [hbad (hno (bool_no (fun h => ((in_one _ _).1 h).1 h1)))]
      exact Ev.step (f := fun _ => some (0, [], 1)) (fun k => by rw [peristyleref32_Choose.l0, if_pos (by omega), if_pos (by omega), rd_at _ i hlt, if_pos h1]) (Ev.now _)
    · by_cases h2 : need[i] ≥ (t.f1.length : Int)
      · rw [hbad (hno (bool_no (fun h => ((in_one _ _).1 h).2 h2)))]
        exact Ev.step (f := fun _ => some (0, [], 1)) (fun k => by rw [peristyleref32_Choose.l0, if_pos (by omega), if_pos (by omega), rd_at _ i hlt, if_neg h1, if_pos h2]) (Ev.now _)
      · refine Ev.step (f := fun k => peristyleref32_Choose.l0 k need tested us ((i + 1 : Nat) : Int) t.f0 t.f1 t.f2) (fun k => by rw [peristyleref32_Choose.l0, if_pos (by omega), if_pos (by omega), rd_at _ i hlt, if_neg h1, if_neg h2, w64 i (by omega)]) (rch_l0 t need tested us ht R hbad hend d (i + 1) (by omega) (fun m h h3 => ?_))
        by_cases he : m = i
        · subst he; exact (in_one _ _).2 ⟨h1, h2⟩
        · exact hp m h (by omega)
end Go.Proofs.Ytgjclhhjigflkab.Sc
