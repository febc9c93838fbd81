/- What the document's functions of covers come to: from (law 32). -/
import Derived.Test.YtgjclhhjigflkabCvRef5
import Derived.Test.YtgjclhhjigflkabCx4
namespace Go.Proofs.Ytgjclhhjigflkab.Sc
open Go Go.RowKit Go.Proofs.Ytgjclhhjigflkab.C Go.Proofs.Ytgjclhhjigflkab.Hand Go.Proofs.Ytgjclhhjigflkab.EvW Go.Proofs.YtgjclhhjigflkabW.PrintWords
set_option linter.unusedVariables false
set_option linter.unusedSimpArgs false
/-- the first of some projections that has a column; -1: none has -/
def fnd (t : Tab) (c : Int) : List Int → Int
  | [] => -1
  | p :: l => if 0 ≤ placeP t p c then p else fnd t c l
theorem place_neg (t : Tab) (p c : Int) (h : 0 ≤ placeP t p c) : 0 ≤ p := by
  unfold placeP at h
  split at h
  · omega
  · omega
theorem fnd_idx (t : Tab) (c : Int) (S : List Int) : ∀ (l : List Int) (i : Nat), S.drop i = l → (idxF (fun p => decide (0 ≤ placeP t p c)) l i < 0 ∧ fnd t c l = -1) ∨ (0 ≤ idxF (fun p => decide (0 ≤ placeP t p c)) l i ∧ 0 ≤ fnd t c l ∧ S.getD (idxF (fun p => decide (0 ≤ placeP t p c)) l i).toNat 0 = fnd t c l)
  | [], i, h => Or.inl ⟨by simp [idxF], rfl⟩
  | p :: l, i, h => by
    have hd : S.drop (i + 1) = l := by rw [← List.drop_drop, h]; rfl
    have hi : S[i]? = some p := by
      have := congrArg (·[0]?) h
      simpa using this
    by_cases hp : 0 ≤ placeP t p c
    · refine Or.inr ?_
      have e : idxF (fun p => decide (0 ≤ placeP t p c)) (p :: l) i = (i : Int) := by simp [idxF, hp]
      rw [e]
      refine ⟨by omega, ?_, ?_⟩
      · rw [fnd, if_pos hp]; exact place_neg t p c hp
      · rw [fnd, if_pos hp, Int.toNat_natCast, List.getD_eq_getElem?_getD, hi]; rfl
    · have e : idxF (fun p => decide (0 ≤ placeP t p c)) (p :: l) i = idxF (fun p => decide (0 ≤ placeP t p c)) l (i + 1) := by simp [idxF, hp]
      rw [e, fnd, if_neg hp]
      exact fnd_idx t c S l (i + 1) hd
theorem fromP_fnd (t : Tab) (need S : List Int) (c : Nat) (h : (c : Int) ∈ need) : fromP t need S c = if fnd t c S < 0 then none else some (fnd t c S) := by
  unfold fromP
  rw [if_pos h]
  rcases fnd_idx t c S S 0 rfl with ⟨h1, h2⟩ | ⟨h1, h2, h3⟩
  · rw [if_pos h1, h2]; rfl
  · rw [if_neg (by omega), if_neg (by omega), h3]
def fc (t : Tab) (need : List Int) (c : Nat) (l : List Int) : Int := if (c : Int) ∈ need then fnd t c l else -1
theorem wm (i : Nat) (h : i ≤ 100000000) : wrap64 ((i : Int) - 1) = (i : Int) - 1 := by unfold wrap64; omega
theorem from_l1 (t : Tab) (hg : gtB t = true) (need : List Int) (hn : need.length ≤ 1000000) (S : List Int) (hS : S.length ≤ 1000000) (out : List Int) (c : Nat) (hc : c ≤ 1000000) (R : List Int × Bool)
    (hend : Ev (fun k => (peristyleref32_has.f k need (c : Int)).bind fun r => if r = true then (if fc t need c S < 0 then some (([] : List Int), false) else (if out.length < 17592186044416 then peristyleref32_from.l0 k need S (out ++ [fc t need c S]) ((c + 1 : Nat) : Int) t.f0 t.f1 t.f2 else none)) else (if out.length < 17592186044416 then peristyleref32_from.l0 k need S (out ++ [fc t need c S]) ((c + 1 : Nat) : Int) t.f0 t.f1 t.f2 else none)) R) :
    ∀ j : Nat, j ≤ S.length → Ev (fun k => peristyleref32_from.l1 k need S out (c : Int) (fc t need c (S.drop j)) ((j : Int) - 1) t.f0 t.f1 t.f2) R
  | 0, hj => by
    rw [List.drop_zero]
    exact Ev.step (fun k => by rw [peristyleref32_from.l1, if_neg (by omega), w64 c (by omega)]) hend
  | j + 1, hj => by
    have hlt : j < S.length := by omega
    have ih := from_l1 t hg need hn S hS out c hc R hend j (by omega)
    have e1 : ((j + 1 : Nat) : Int) - 1 = (j : Int) := by omega
    rw [e1]
    have ed : S.drop j = S[j] :: S.drop (j + 1) := List.drop_eq_getElem_cons hlt
    refine Ev.step (f := fun k => (peristyleref32_has.f k need (c : Int)).bind fun r => if r = true then (peristyleref32_Place.f k t.f0 t.f1 t.f2 S[j] (c : Int)).bind fun q => if q ≥ 0 then peristyleref32_from.l1 k need S out (c : Int) S[j] ((j : Int) - 1) t.f0 t.f1 t.f2 else peristyleref32_from.l1 k need S out (c : Int) (fc t need c (S.drop (j + 1))) ((j : Int) - 1) t.f0 t.f1 t.f2 else peristyleref32_from.l1 k need S out (c : Int) (fc t need c (S.drop (j + 1))) ((j : Int) - 1) t.f0 t.f1 t.f2) (fun k => ?_) ?_
    · rw [peristyleref32_from.l1, if_pos (by omega), if_pos (show 0 ≤ (j : Int) by omega), if_pos (show (j : Int) < (S.length : Int) by omega), rd_at S j hlt, wm j (by omega)]
    · refine Ev.bind (rhas2_ev need (by omega) (c : Int)) ?_
      by_cases hin : (c : Int) ∈ need
      · rw [decide_eq_true hin]
        refine ev_pos rfl (Ev.bind (rplace_ev t hg S[j] (c : Int)) ?_)
        by_cases hp : 0 ≤ placeP t S[j] c
        · refine ev_pos hp ?_
          have e : fc t need c (S.drop j) = S[j] := by unfold fc; rw [if_pos hin, ed, fnd, if_pos hp]
          rw [e] at ih
          exact ih
        · refine ev_neg hp ?_
          have e : fc t need c (S.drop j) = fc t need c (S.drop (j + 1)) := by unfold fc; rw [if_pos hin, if_pos hin, ed, fnd, if_neg hp]
          rw [e] at ih
          exact ih
      · rw [decide_eq_false hin]
        refine ev_neg (by decide) ?_
        have e : fc t need c (S.drop j) = fc t need c (S.drop (j + 1)) := by unfold fc; rw [if_neg hin, if_neg hin]
        rw [e] at ih
        exact ih
def resR (r : Option (List Int)) : List Int × Bool := match r with | none => ([], false) | some l => (l, true)
theorem from_l0 (t : Tab) (hg : gtB t = true) (need : List Int) (hn : need.length ≤ 1000000) (S : List Int) (hS : S.length ≤ 1000000) :
    ∀ d c : Nat, c + d = t.f1.length → ∀ out : List Int, fromsP t need S c = some out → Ev (fun k => peristyleref32_from.l0 k need S out (c : Int) t.f0 t.f1 t.f2) (resR (fromsP t need S t.f1.length))
  | 0, c, hc, out, ho => by
    have e : c = t.f1.length := by omega
    subst e
    rw [ho]
    exact Ev.step (f := fun _ => some (out, true)) (fun k => by rw [peristyleref32_from.l0, if_neg (by omega)]) (Ev.now _)
  | d + 1, c, hc, out, ho => by
    have hcl := (gtB_spec hg).c
    have hol := froms_len ho
    have h0 : fc t need c (S.drop S.length) = -1 := by
      rw [List.drop_length]
      unfold fc fnd
      split <;> rfl
    have hm : wrap64 ((S.length : Int) - 1) = (S.length : Int) - 1 := wm S.length (by omega)
    refine Ev.step (f := fun k => peristyleref32_from.l1 k need S out (c : Int) (fc t need c (S.drop S.length)) ((S.length : Int) - 1) t.f0 t.f1 t.f2) (fun k => by rw [peristyleref32_from.l0, if_pos (by omega), hm, h0]) (from_l1 t hg need hn S hS out c (by omega) _ ?_ S.length (Nat.le_refl _))
    refine Ev.bind (rhas2_ev need (by omega) (c : Int)) ?_
    by_cases hin : (c : Int) ∈ need
    · rw [decide_eq_true hin]
      refine ev_pos rfl ?_
      have hf := fromP_fnd t need S c hin
      have e : fc t need c S = fnd t c S := by unfold fc; rw [if_pos hin]
      rw [e]
      by_cases h : fnd t c S < 0
      · rw [if_pos h] at hf
        have hb := froms_none t need S (c + 1) (froms_bad ho hf) d
        rw [show c + 1 + d = t.f1.length by omega] at hb
        rw [hb]
        exact ev_pos h (Ev.now _)
      · rw [if_neg h] at hf
        exact ev_neg h (ev_pos (by omega) (from_l0 t hg need hn S hS d (c + 1) (by omega) _ (froms_succ ho hf)))
    · rw [decide_eq_false hin]
      have e : fc t need c S = -1 := by unfold fc; rw [if_neg hin]
      rw [e]
      exact ev_neg (by decide) (ev_pos (by omega) (from_l0 t hg need hn S hS d (c + 1) (by omega) _ (froms_succ ho (from_no hin))))
theorem from_ev (t : Tab) (hg : gtB t = true) (need : List Int) (hn : need.length ≤ 1000000) (S : List Int) (hS : S.length ≤ 1000000) : Ev (fun k => peristyleref32_from.f k t.f0 t.f1 t.f2 need S) (resR (fromsP t need S t.f1.length)) :=
  from_l0 t hg need hn S hS t.f1.length 0 (Nat.zero_add _) [] rfl
end Go.Proofs.Ytgjclhhjigflkab.Sc
