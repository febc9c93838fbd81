/- What the document's functions of covers come to: Place, all (law 32). -/
import Derived.Test.YtgjclhhjigflkabCvRef3
import Derived.Test.YtgjclhhjigflkabCx4
namespace Go.Proofs.Ytgjclhhjigflkab.Sc
open Go Go.RowKit Go.Proofs.Ytgjclhhjigflkab.C Go.Proofs.Ytgjclhhjigflkab.Hand Go.Proofs.Ytgjclhhjigflkab.EvW Go.Proofs.YtgjclhhjigflkabW.PrintWords
set_option linter.unusedVariables false
set_option linter.unusedSimpArgs false
theorem rplace_l0 (t : Tab) (hg : gtB t = true) (p : Nat) (hp : p < t.f2.length) (col : Int) : ∀ d i : Nat, i + d = t.f2[p].f1.length → Ev (fun k => peristyleref32_Place.l0 k (p : Int) col (i : Int) t.f0 t.f1 t.f2) (idxF (fun y => decide (col = y)) (t.f2[p].f1.drop i) i)
  | 0, i, hi => by
    rw [List.drop_of_length_le (by omega)]
    exact Ev.step (f := fun _ => some (-1)) (fun k => by rw [peristyleref32_Place.l0, if_pos (by omega), if_pos (by omega), rdP_at _ p hp, if_neg (by omega)]) (Ev.now _)
  | d + 1, i, hi => by
    have hlt : i < t.f2[p].f1.length := by omega
    have hl := (gt_ps hg _ (List.getElem_mem hp)).2
    rw [idxF_drop _ _ i hlt]
    by_cases he : col = t.f2[p].f1[i]
    · rw [if_pos (by simpa using he)]
      refine Ev.step (f := fun _ => some (i : Int)) (fun k => ?_) (Ev.now _)
      rw [peristyleref32_Place.l0, if_pos (by omega), if_pos (by omega), rdP_at _ p hp, if_pos (by omega), if_pos (by omega), rd_at _ i hlt, if_pos he.symm]
    · rw [if_neg (by simpa using he)]
      refine Ev.step (f := fun k => peristyleref32_Place.l0 k (p : Int) col ((i + 1 : Nat) : Int) t.f0 t.f1 t.f2) (fun k => ?_) (rplace_l0 t hg p hp col d (i + 1) (by omega))
      rw [peristyleref32_Place.l0, if_pos (by omega), if_pos (by omega), rdP_at _ p hp, if_pos (by omega), if_pos (by omega), rd_at _ i hlt, if_neg (fun h => he h.symm), w64 i (by omega)]
theorem rplace_ev (t : Tab) (hg : gtB t = true) (p col : Int) : Ev (fun k => peristyleref32_Place.f k t.f0 t.f1 t.f2 p col) (placeP t p col) := by
  unfold peristyleref32_Place.f placeP
  by_cases h1 : p < 0
  · rw [if_pos (Or.inl h1)]
    exact ev_pos h1 (Ev.step (f := fun _ => some (-1)) (fun k => by rw [peristyleref32_Place.j0, if_pos rfl]) (Ev.now _))
  · refine ev_neg h1 ?_
    by_cases h2 : (t.f2.length : Int) ≤ p
    · rw [if_pos (Or.inr h2)]
      exact Ev.step (f := fun _ => some (-1)) (fun k => by rw [peristyleref32_Place.j0, if_pos (decide_eq_true h2)]) (Ev.now _)
    · rw [if_neg (by omega)]
      obtain ⟨q, rfl⟩ := Int.eq_ofNat_of_zero_le (by omega : 0 ≤ p)
      have hq : q < t.f2.length := by omega
      have h := rplace_l0 t hg q hq col t.f2[q].f1.length 0 (Nat.zero_add _)
      rw [List.drop_zero] at h
      rw [prj_at t q hq]
      exact Ev.step (f := fun k => peristyleref32_Place.l0 k (q : Int) col ((0 : Nat) : Int) t.f0 t.f1 t.f2) (fun k => by rw [peristyleref32_Place.j0, if_neg (by simpa using h2)]; rfl) h
theorem all_l0 (t : Tab) (hg : gtB t = true) (p : Int) (need : List Int) (hn : need.length ≤ 1000000) : ∀ d i : Nat, i + d = need.length → Ev (fun k => peristyleref32_all.l0 k p need (i : Int) t.f0 t.f1 t.f2) (!lacks t (need.drop i) p)
  | 0, i, hi => by
    rw [List.drop_of_length_le (by omega)]
    exact Ev.step (f := fun _ => some true) (fun k => by rw [peristyleref32_all.l0, if_neg (by omega)]) (Ev.now _)
  | d + 1, i, hi => by
    have hlt : i < need.length := by omega
    have ed : need.drop i = need[i] :: need.drop (i + 1) := List.drop_eq_getElem_cons hlt
    refine Ev.step (f := fun k => (peristyleref32_Place.f k t.f0 t.f1 t.f2 p need[i]).bind fun r => if r < 0 then some false else peristyleref32_all.l0 k p need ((i + 1 : Nat) : Int) t.f0 t.f1 t.f2) (fun k => by rw [peristyleref32_all.l0, if_pos (by omega), if_pos (by omega), rd_at _ i hlt, w64 i (by omega)]) (Ev.bind (rplace_ev t hg p need[i]) ?_)
    unfold lacks
    rw [ed, List.any_cons]
    by_cases h : placeP t p need[i] < 0
    · rw [decide_eq_true h]
      exact ev_pos h (Ev.now _)
    · rw [decide_eq_false h, Bool.false_or]
      exact ev_neg h (all_l0 t hg p need hn d (i + 1) (by omega))
theorem all_ev (t : Tab) (hg : gtB t = true) (p : Int) (need : List Int) (hn : need.length ≤ 1000000) : Ev (fun k => peristyleref32_all.f k t.f0 t.f1 t.f2 p need) (!lacks t need p) := by
  have := all_l0 t hg p need hn need.length 0 (Nat.zero_add _)
  rw [List.drop_zero] at this
  exact this
/-- for columns that are to be there: the loop's test -/
theorem in_one (n c : Int) : inP n c = true ↔ ¬ c < 0 ∧ ¬ c ≥ n := by
  unfold inP
  rw [decide_eq_true_eq]
  omega
end Go.Proofs.Ytgjclhhjigflkab.Sc
