/- Mover: lists of live rows that are the same, light lists, the merge, the vectors, and what awake comes to. -/
import Derived.Test.YtgjclhhjigflkacMx3
import Derived.Test.YtgjclhhjigflkacWalkAwake27
import Derived.Test.YtgjclhhjigflkacEvRows
namespace Go.Proofs.Ytgjclhhjigflkac.Mv
set_option linter.unusedVariables false
set_option linter.unusedSimpArgs false
open Go.RowKit Go.Proofs.Ytgjclhhjigflkac.M Go.Proofs.Ytgjclhhjigflkac.EvW Go.Proofs.Ytgjclhhjigflkac.Ru Go.Proofs.YtgjclhhjigflkacW.PrintWords Go.Proofs.YtgjclhhjigflkacW.PrintLast Go.Proofs.YtgjclhhjigflkacW.PrintMore
abbrev C := S98
abbrev L := S28
abbrev Mk := S84
theorem rdL (l : List L) (i : Nat) (h : i < l.length) : rd_T28 l (i : Int) = l[i] := by
  unfold rd_T28
  rw [Int.toNat_natCast, List.getD_eq_getElem?_getD, List.getElem?_eq_getElem h]
  rfl
theorem rdL_mid (done rest : List L) (r : L) : rd_T28 (done ++ r :: rest) (done.length : Int) = r := by
  rw [rdL _ _ (by simp)]
  simp
theorem rdM (l : List Mk) (i : Nat) (h : i < l.length) : rd_T84 l (i : Int) = l[i] := by
  unfold rd_T84
  rw [Int.toNat_natCast, List.getD_eq_getElem?_getD, List.getElem?_eq_getElem h]
  rfl
theorem rdM_mid (done rest : List Mk) (r : Mk) : rd_T84 (done ++ r :: rest) (done.length : Int) = r := by
  rw [rdM _ _ (by simp)]
  simp
theorem rdRow (l : List (List C)) (i : Nat) (h : i < l.length) : rd_L3 l (i : Int) = l[i] := by
  unfold rd_L3
  rw [Int.toNat_natCast, List.getD_eq_getElem?_getD, List.getElem?_eq_getElem h]
  rfl
/-! lists that are the same -/
theorem csame_l0 (l : List C) (hl : l.length ≤ 1000000) (d : Nat) : ∀ i : Int, i + d = l.length → 0 ≤ i → Ev (fun k => peristyleref06_Same.l0 k l l i) true := by
  induction d with
  | zero =>
    intro i h1 h2
    exact Ev.step (fun k => by rw [peristyleref06_Same.l0]) (ev_neg (by omega) (Ev.now _))
  | succ d ih =>
    intro i h1 h2
    refine Ev.step (fun k => by rw [peristyleref06_Same.l0]) (ev_pos (by omega) (ev_pos h2 (ev_pos (by omega) (ev_neg (by simp) ?_))))
    rw [w64 _ (by omega) (by omega)]
    exact ih (i + 1) (by omega) (by omega)
theorem csame_ev (l : List C) (hl : l.length ≤ 1000000) : Ev (fun k => peristyleref06_Same.f k l l) true := ev_pos rfl (csame_l0 l hl l.length 0 (by omega) (by omega))
theorem lsame_l0 (l : List L) (hl : l.length ≤ 1000000) (hc : ∀ x ∈ l, x.f0.length ≤ 1000000) (d : Nat) : ∀ i : Nat, i + d = l.length → Ev (fun k => peristyleref22_Same.l0 k l l (i : Int)) true := by
  induction d with
  | zero =>
    intro i h1
    exact Ev.step (fun k => by rw [peristyleref22_Same.l0]) (ev_neg (by omega) (Ev.now _))
  | succ d ih =>
    intro i h1
    have hi : i < l.length := by omega
    refine Ev.step (fun k => by rw [peristyleref22_Same.l0, rdL l i hi]) (ev_pos (by omega) (ev_pos (by omega) (ev_pos (by omega) (ev_pos rfl (ev_pos rfl (Ev.bind (csame_ev _ (hc _ (List.getElem_mem hi))) (ev_pos rfl ?_)))))))
    rw [w64 _ (by omega) (by omega)]
    have := ih (i + 1) (by omega)
    rw [Int.natCast_add] at this
    exact this
theorem lsame_ev (l : List L) (hl : l.length ≤ 1000000) (hc : ∀ x ∈ l, x.f0.length ≤ 1000000) : Ev (fun k => peristyleref22_Same.f k l l) true := ev_pos rfl (lsame_l0 l hl hc l.length 0 (by omega))
theorem rowsame_l0 (l : List (List C)) (hl : l.length ≤ 1000000) (hc : ∀ x ∈ l, x.length ≤ 1000000) (d : Nat) : ∀ i : Nat, i + d = l.length → Ev (fun k => peristyleref06_SameRows.l0 k l l (i : Int)) true := by
  induction d with
  | zero =>
    intro i h1
    exact Ev.step (fun k => by rw [peristyleref06_SameRows.l0]) (ev_neg (by omega) (Ev.now _))
  | succ d ih =>
    intro i h1
    have hi : i < l.length := by omega
    refine Ev.step (fun k => by rw [peristyleref06_SameRows.l0, rdRow l i hi]) (ev_pos (by omega) (ev_pos (by omega) (ev_pos (by omega) (Ev.bind (csame_ev _ (hc _ (List.getElem_mem hi))) (ev_pos rfl ?_)))))
    rw [w64 _ (by omega) (by omega)]
    have := ih (i + 1) (by omega)
    rw [Int.natCast_add] at this
    exact this
theorem rowsame_ev (l : List (List C)) (hl : l.length ≤ 1000000) (hc : ∀ x ∈ l, x.length ≤ 1000000) : Ev (fun k => peristyleref06_SameRows.f k l l) true := ev_pos rfl (rowsame_l0 l hl hc l.length 0 (by omega))
theorem msame_l0 (l : List Mk) (hl : l.length ≤ 1000000) (d : Nat) : ∀ i : Int, i + d = l.length → 0 ≤ i → Ev (fun k => peristyleref21_Same.l0 k l l i) true := by
  induction d with
  | zero =>
    intro i h1 h2
    exact Ev.step (fun k => by rw [peristyleref21_Same.l0]) (ev_neg (by omega) (Ev.now _))
  | succ d ih =>
    intro i h1 h2
    refine Ev.step (fun k => by rw [peristyleref21_Same.l0]) (ev_pos (by omega) (ev_pos h2 (ev_pos (by omega) (ev_neg (by simp) ?_))))
    rw [w64 _ (by omega) (by omega)]
    exact ih (i + 1) (by omega) (by omega)
theorem msame_ev (l : List Mk) (hl : l.length ≤ 1000000) : Ev (fun k => peristyleref21_Same.f k l l) true := ev_pos rfl (msame_l0 l hl l.length 0 (by omega) (by omega))
/-! light lists -/
theorem light_l0 (l : List C) (d : Nat) : ∀ j : Nat, j + d = 20 → ∃ b, Ev (fun k => peristyleref06_Light.l0 k l (j : Int)) b ∧ (b = true → l.length ≤ 20) := by
  have hend : ∀ j : Nat, ¬ ((j : Int) < 20) ∨ ¬ ((j : Int) < (l.length : Int)) → Ev (fun k => peristyleref06_Light.l0 k l (j : Int)) (decide ((l.length : Int) ≤ 20)) := by
    intro j hj
    by_cases hc : (j : Int) < (l.length : Int)
    · exact Ev.step (fun k => by rw [peristyleref06_Light.l0]) (ev_pos hc (Ev.step (fun k => by rw [peristyleref06_Light.j1]) (ev_neg (by simp; omega) (Ev.now _))))
    · exact Ev.step (fun k => by rw [peristyleref06_Light.l0]) (ev_neg hc (Ev.step (fun k => by rw [peristyleref06_Light.j1]) (ev_neg (by decide) (Ev.now _))))
  induction d with
  | zero =>
    intro j hj
    exact ⟨_, hend j (by omega), fun h => by have := of_decide_eq_true h; omega⟩
  | succ d ih =>
    intro j hj
    by_cases hc : (j : Int) < (l.length : Int)
    · by_cases hs : ((rd_T98 l (j : Int)).f2.size : Int) > 100
      · exact ⟨false, Ev.step (fun k => by rw [peristyleref06_Light.l0]) (ev_pos hc (Ev.step (fun k => by rw [peristyleref06_Light.j1]) (ev_pos (decide_eq_true (by omega)) (ev_pos (by omega) (ev_pos hc (ev_pos hs (Ev.now _))))))), by simp⟩
      · obtain ⟨b, h1, h2⟩ := ih (j + 1) (by omega)
        refine ⟨b, Ev.step (fun k => by rw [peristyleref06_Light.l0]) (ev_pos hc (Ev.step (fun k => by rw [peristyleref06_Light.j1]) (ev_pos (decide_eq_true (by omega)) (ev_pos (by omega) (ev_pos hc (ev_neg hs ?_)))))), h2⟩
        rw [w64 _ (by omega) (by omega)]
        rw [Int.natCast_add] at h1
        exact h1
    · exact ⟨_, hend j (.inr hc), fun h => by have := of_decide_eq_true h; omega⟩
theorem light_ev (l : List C) : ∃ b, Ev (fun k => peristyleref06_Light.f k l) b ∧ (b = true → l.length ≤ 20) := light_l0 l 20 0 rfl
/-! awake -/
theorem awake_ev : Ev (fun k => peristylelaw27_awake.f k) true := Ev.of peristylelaw27_awake.mono (k := 40) (by decide +kernel)
end Go.Proofs.Ytgjclhhjigflkac.Mv
