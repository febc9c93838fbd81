/- Mover: any columns of any rows, by the program. -/
import Derived.Test.YtgjclhhjigflkacMx7
import Derived.Test.YtgjclhhjigflkacWalkContains
import Derived.Test.YtgjclhhjigflkacEvLive
namespace Go.Proofs.Ytgjclhhjigflkac.Mv
set_option linter.unusedVariables false
set_option linter.unusedSimpArgs false
open Go.RowKit Go.Proofs.Ytgjclhhjigflkac.M Go.Proofs.Ytgjclhhjigflkac.EvW Go.Proofs.Ytgjclhhjigflkac.Ru Go.Proofs.YtgjclhhjigflkacW.PrintWords Go.Proofs.YtgjclhhjigflkacW.PrintLast Go.Proofs.YtgjclhhjigflkacW.PrintMore
def projR (row : List C) : List Int → Option (List C)
  | [] => some []
  | c :: l => if c ≥ (row.length : Int) then none else (projR row l).map (rd_T98 row c :: ·)
def projL (cols : List Int) : List (List C) → Option (List (List C))
  | [] => some []
  | r :: l => match projR r cols with
    | none => none
    | some x => (projL cols l).map (x :: ·)
/-- what any columns of any rows are -/
def projS (rows : List (List C)) (cols : List Int) : List (List C) × Int :=
  if (cols.any fun x => decide (x < 0)) = true then ([], 1) else match projL cols rows with
    | none => ([], 1)
    | some o => (o, 0)
theorem project_l1 (cols : List Int) (rows : List (List C)) (row : List C) (x6 : List (List C)) (x16 : Int) (R : List (List C) × Int) (hl : cols.length ≤ 1000000) (hp : ∀ x ∈ cols, 0 ≤ x) (h6 : x6.length ≤ 1000000) : ∀ (rest done : List Int) (acc : List C), cols = done ++ rest → acc.length = done.length →
    (projR row rest = none → R = ([], 1)) → (∀ o, projR row rest = some o → Ev (fun k => mover_Project.l0 k cols (x6 ++ [acc ++ o]) rows (rows.length : Int) (wrap64 (x16 + 1))) R) →
    Ev (fun k => mover_Project.l1 k cols x6 row acc rows (rows.length : Int) x16 cols (cols.length : Int) (done.length : Int)) R := by
  intro rest
  induction rest with
  | nil =>
    intro done acc h ha hn hs
    have := hs [] rfl
    rw [List.append_nil] at this
    exact Ev.step (fun k => by rw [mover_Project.l1]) (ev_neg (by rw [h]; simp) (ev_pos (by omega) this))
  | cons c rest ih =>
    intro done acc h ha hn hs
    have hlen : cols.length = done.length + 1 + rest.length := by rw [h]; simp; omega
    have hr : rd cols (done.length : Int) = c := by rw [h]; exact rd_mid done rest c
    have hl2 : cols = (done ++ [c]) ++ rest := by rw [h]; simp
    have hc := hp c (by rw [h]; simp)
    have hw : wrap64 ((done.length : Int) + 1) = ((done ++ [c]).length : Int) := by rw [w64 _ (by omega) (by omega)]; simp
    refine Ev.step (fun k => by rw [mover_Project.l1, hr, hw]) (ev_pos (by omega) (ev_pos (by omega) (ev_pos (by omega) ?_)))
    rw [projR] at hn hs
    by_cases c1 : c ≥ (row.length : Int)
    · rw [if_pos c1] at hn
      rw [hn rfl]
      exact ev_pos c1 (Ev.now _)
    · rw [if_neg c1] at hn hs
      refine ev_neg c1 (ev_pos hc (ev_pos (by omega) (ev_pos (by omega) ?_)))
      refine ih (done ++ [c]) (acc ++ [rd_T98 row c]) hl2 (by simp; omega) (fun hh => hn (by rw [hh]; rfl)) (fun o ho => ?_)
      have := hs (rd_T98 row c :: o) (by rw [ho]; rfl)
      rw [List.append_assoc, List.singleton_append]
      exact this
theorem project_l0 (cols : List Int) (rows : List (List C)) (hl : cols.length ≤ 1000000) (hp : ∀ x ∈ cols, 0 ≤ x) (hr : rows.length ≤ 1000000) (d : Nat) : ∀ (i : Nat) (out : List (List C)), i + d = rows.length → out.length = i →
    Ev (fun k => mover_Project.l0 k cols out rows (rows.length : Int) (i : Int)) (match projL cols (rows.drop i) with
      | none => ([], 1)
      | some o => (out ++ o, 0)) := by
  induction d with
  | zero =>
    intro i out h ho
    rw [List.drop_eq_nil_of_le (by omega)]
    exact Ev.step (fun k => by rw [mover_Project.l0]) (ev_neg (by omega) (Ev.congr (fun _ => by simp [projL]) (Ev.now _)))
  | succ d ih =>
    intro i out h ho
    have hi : i < rows.length := by omega
    rw [List.drop_eq_getElem_cons hi, projL]
    refine Ev.step (fun k => by rw [mover_Project.l0, rdRow rows i hi]) (ev_pos (by omega) (ev_pos (by omega) (ev_pos (by omega) ?_)))
    refine project_l1 cols rows rows[i] out (i : Int) _ hl hp (by omega) cols [] [] rfl rfl (fun hh => by rw [hh]) (fun o ho2 => ?_)
    rw [ho2, w64 _ (by omega) (by omega)]
    have := ih (i + 1) (out ++ [o]) (by omega) (by simp; omega)
    rw [Int.natCast_add] at this
    rw [List.nil_append]
    cases hq : projL cols (rows.drop (i + 1)) with
    | none => rw [hq] at this; exact this
    | some q =>
      rw [hq] at this
      simp only [Option.map_some]
      simp only [List.append_assoc, List.singleton_append] at this
      exact this
theorem project_ev (rows : List (List C)) (cols : List Int) (hl : cols.length ≤ 1000000) (hr : rows.length ≤ 1000000) : Ev (fun k => mover_Project.f k rows cols) (projS rows cols) := by
  have hc : contains_neg.f cols = some (cols.any fun x => decide (x < 0)) := by unfold contains_neg.f; rw [if_pos (by omega)]
  unfold projS
  refine Ev.congr (fun k => by rw [mover_Project.f, hc, Option.bind_some]) ?_
  by_cases c : (cols.any fun x => decide (x < 0)) = true
  · rw [show (if (cols.any fun x => decide (x < 0)) = true then (([], 1) : List (List C) × Int) else _) = _ from if_pos c]
    exact ev_pos c (Ev.now _)
  · rw [show (if (cols.any fun x => decide (x < 0)) = true then (([], 1) : List (List C) × Int) else _) = _ from if_neg c]
    refine ev_neg c ?_
    refine project_l0 cols rows hl (fun x hx => ?_) hr rows.length 0 [] (by omega) rfl
    by_cases hx0 : 0 ≤ x
    · exact hx0
    · exact absurd (List.any_eq_true.2 ⟨x, hx, decide_eq_true (by omega)⟩) c
end Go.Proofs.Ytgjclhhjigflkac.Mv
