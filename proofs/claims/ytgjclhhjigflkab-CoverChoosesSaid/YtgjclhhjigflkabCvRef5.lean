/- What the document's functions of covers come to: used (law 32). -/
import Derived.Test.YtgjclhhjigflkabCvRef4
import Derived.Test.YtgjclhhjigflkabCx4
namespace Go.Proofs.Ytgjclhhjigflkab.Sc
open Go Go.RowKit Go.Proofs.Ytgjclhhjigflkab.C Go.Proofs.Ytgjclhhjigflkab.Hand Go.Proofs.Ytgjclhhjigflkab.EvW Go.Proofs.YtgjclhhjigflkabW.PrintWords
set_option linter.unusedVariables false
set_option linter.unusedSimpArgs false
theorem rhas2_l0 (l : List Int) (hl : l.length ≤ 3000000) (n : Int) : ∀ d i : Nat, i + d = l.length → Ev (fun k => peristyleref32_has.l0 k l n (i : Int)) (decide (n ∈ l.drop i))
  | 0, i, hi => by
    refine Ev.step (f := fun _ => some (decide (n ∈ l.drop i))) (fun k => ?_) (Ev.now _)
    rw [peristyleref32_has.l0, if_neg (by omega), List.drop_of_length_le (by omega)]
    simp
  | d + 1, i, hi => by
    have hlt : i < l.length := by omega
    by_cases hx : l[i] = n
    · refine Ev.step (f := fun _ => some (decide (n ∈ l.drop i))) (fun k => ?_) (Ev.now _)
      rw [peristyleref32_has.l0, if_pos (by omega), if_pos (by omega), rd_at l i hlt, if_pos hx, List.drop_eq_getElem_cons hlt]
      simp [hx]
    · refine Ev.step (f := fun k => peristyleref32_has.l0 k l n ((i + 1 : Nat) : Int)) (fun k => ?_) ?_
      · rw [peristyleref32_has.l0, if_pos (by omega), if_pos (by omega), rd_at l i hlt, if_neg hx, w64 i (by omega)]
      · have e : decide (n ∈ l.drop i) = decide (n ∈ l.drop (i + 1)) := by
          rw [List.drop_eq_getElem_cons hlt]
          have : ¬ n = l[i] := fun e => hx e.symm
          simp only [List.mem_cons, this, false_or]
        rw [e]
        exact rhas2_l0 l hl n d (i + 1) (by omega)
theorem rhas2_ev (l : List Int) (hl : l.length ≤ 3000000) (n : Int) : Ev (fun k => peristyleref32_has.f k l n) (decide (n ∈ l)) := by
  have := rhas2_l0 l hl n l.length 0 (Nat.zero_add _)
  rw [List.drop_zero] at this
  exact this
theorem rdS_at (l : List ByteArray) (i : Nat) (h : i < l.length) : rdOf ByteArray.empty l (i : Int) = l[i] := by
  unfold rdOf
  rw [Int.toNat_natCast, List.getD_eq_getElem?_getD, List.getElem?_eq_getElem h]
  rfl
def stepOf (t : Tab) (n : ByteArray) (j : Nat) (out : List Int) : List Int := if 0 ≤ idxF (byName n) (t.f2.drop j) j ∧ ¬ idxF (byName n) (t.f2.drop j) j ∈ out then out ++ [idxF (byName n) (t.f2.drop j) j] else out
theorem byName_eq (n : ByteArray) (q : Prj) : byName n q = true ↔ q.f0.toList = n.toList := by unfold byName; rw [beq_iff_eq]
theorem no_more (t : Tab) (ho : (t.f2.map (·.f0)).Nodup) (n : ByteArray) (j : Nat) (hj : j < t.f2.length) (h : byName n t.f2[j] = true) : idxF (byName n) (t.f2.drop (j + 1)) (j + 1) = -1 := by
  rcases idxF_range (byName n) (t.f2.drop (j + 1)) (j + 1) with ⟨h1, _⟩ | ⟨i, hi, h1, h2, _⟩
  · exact h1
  · exfalso
    have hi2 : j + 1 + i < t.f2.length := by rw [List.length_drop] at hi; omega
    have h3 := (nodup_ahead (·.f0) t.f2).1 ho (j + 1 + i) hi2 j t.f2[j] t.f2[j + 1 + i] (Nat.zero_le _) (by omega) (List.getElem?_eq_getElem hj) (List.getElem?_eq_getElem hi2)
    rw [List.getElem_drop] at h2
    exact h3 (ba_inj (((byName_eq n _).1 h).trans ((byName_eq n _).1 h2).symm))
theorem used_l1 (t : Tab) (hg : gtB t = true) (ho : (t.f2.map (·.f0)).Nodup) (us : List ByteArray) (hu : us.length ≤ 1000000) (i : Nat) (hi : i < us.length) (R : List Int) :
    ∀ d j : Nat, j + d = t.f2.length → ∀ out : List Int, out.length ≤ i + j → Ev (fun k => peristyleref32_used.l0 k us (stepOf t us[i] j out) ((i + 1 : Nat) : Int) t.f0 t.f1 t.f2) R → Ev (fun k => peristyleref32_used.l1 k us out (i : Int) (j : Int) t.f0 t.f1 t.f2) R
  | 0, j, hj, out, hl, hk => by
    have e : stepOf t us[i] j out = out := by
      unfold stepOf
      rw [List.drop_of_length_le (by omega)]
      exact if_neg (fun h => by have := h.1; simp [idxF] at this)
    rw [e] at hk
    exact Ev.step (f := fun k => peristyleref32_used.l0 k us out ((i + 1 : Nat) : Int) t.f0 t.f1 t.f2) (fun k => by rw [peristyleref32_used.l1, if_neg (by omega), w64 i (by omega)]) hk
  | d + 1, j, hj, out, hl, hk => by
    have hlt : j < t.f2.length := by omega
    have hp6 := (gtB_spec hg).p
    by_cases hm : byName us[i] t.f2[j] = true
    · have hnm := no_more t ho us[i] j hlt hm
      have hid : idxF (byName us[i]) (t.f2.drop j) j = j := by rw [idxF_drop _ _ j hlt, if_pos hm]
      have hst : ∀ o, stepOf t us[i] (j + 1) o = o := fun o => by
        unfold stepOf
        rw [hnm]
        exact if_neg (fun h => by have := h.1; omega)
      have hs0 : stepOf t us[i] j out = if (j : Int) ∈ out then out else out ++ [(j : Int)] := by
        unfold stepOf
        rw [hid]
        by_cases hin : (j : Int) ∈ out
        · rw [if_pos hin, if_neg (fun h => h.2 hin)]
        · rw [if_neg hin, if_pos ⟨by omega, hin⟩]
      rw [hs0] at hk
      have hP := (byName_eq _ _).1 hm
      refine Ev.step (f := fun k => (peristyleref32_has.f k out (j : Int)).bind fun r => if r = true then peristyleref32_used.l1 k us out (i : Int) ((j + 1 : Nat) : Int) t.f0 t.f1 t.f2 else if out.length < 17592186044416 then peristyleref32_used.l1 k us (out ++ [(j : Int)]) (i : Int) ((j + 1 : Nat) : Int) t.f0 t.f1 t.f2 else none) (fun k => by rw [peristyleref32_used.l1, if_pos (by omega), if_pos (by omega), if_pos (by omega), if_pos (by omega), rdP_at _ j hlt, rdS_at _ i hi, if_pos hP, w64 j (by omega)]) ?_
      by_cases hin : (j : Int) ∈ out
      · rw [if_pos hin] at hk
        refine Ev.bind (rhas2_ev out (by omega) (j : Int)) ?_
        rw [decide_eq_true hin]
        exact ev_pos rfl (used_l1 t hg ho us hu i hi R d (j + 1) (by omega) out (by omega) (by rw [hst]; exact hk))
      · rw [if_neg hin] at hk
        refine Ev.bind (rhas2_ev out (by omega) (j : Int)) ?_
        rw [decide_eq_false hin]
        exact ev_neg (by decide) (ev_pos (by omega) (used_l1 t hg ho us hu i hi R d (j + 1) (by omega) _ (by rw [List.length_append]; simp; omega) (by rw [hst]; exact hk)))
    · have hid : idxF (byName us[i]) (t.f2.drop j) j = idxF (byName us[i]) (t.f2.drop (j + 1)) (j + 1) := by rw [idxF_drop _ _ j hlt, if_neg hm]
      have hs0 : stepOf t us[i] j out = stepOf t us[i] (j + 1) out := by unfold stepOf; rw [hid]
      rw [hs0] at hk
      exact Ev.step (f := fun k => peristyleref32_used.l1 k us out (i : Int) ((j + 1 : Nat) : Int) t.f0 t.f1 t.f2) (fun k => by rw [peristyleref32_used.l1, if_pos (by omega), if_pos (by omega), if_pos (by omega), if_pos (by omega), rdP_at _ j hlt, rdS_at _ i hi, if_neg (fun h => hm ((byName_eq _ _).2 h)), w64 j (by omega)]) (used_l1 t hg ho us hu i hi R d (j + 1) (by omega) out (by omega) hk)
theorem step_of (t : Tab) (n : ByteArray) (out : List Int) : stepOf t n 0 out = usedStep t out n := by
  unfold stepOf usedStep
  rw [List.drop_zero]
theorem step_len (t : Tab) (n : ByteArray) (out : List Int) : (usedStep t out n).length ≤ out.length + 1 := by
  unfold usedStep
  split
  · simp
  · omega
theorem rused_l0 (t : Tab) (hg : gtB t = true) (ho : (t.f2.map (·.f0)).Nodup) (us : List ByteArray) (hu : us.length ≤ 1000000) : ∀ d i : Nat, i + d = us.length → ∀ out : List Int, out.length ≤ i → Ev (fun k => peristyleref32_used.l0 k us out (i : Int) t.f0 t.f1 t.f2) ((us.drop i).foldl (usedStep t) out)
  | 0, i, hi, out, hl => by
    rw [List.drop_of_length_le (by omega)]
    exact Ev.step (f := fun _ => some out) (fun k => by rw [peristyleref32_used.l0, if_neg (by omega)]) (Ev.now _)
  | d + 1, i, hi, out, hl => by
    have hlt : i < us.length := by omega
    rw [List.drop_eq_getElem_cons hlt, List.foldl_cons]
    refine Ev.step (f := fun k => peristyleref32_used.l1 k us out (i : Int) ((0 : Nat) : Int) t.f0 t.f1 t.f2) (fun k => by rw [peristyleref32_used.l0, if_pos (by omega)]; rfl) (used_l1 t hg ho us hu i hlt _ t.f2.length 0 (Nat.zero_add _) out (by omega) ?_)
    rw [step_of]
    exact rused_l0 t hg ho us hu d (i + 1) (by omega) _ (Nat.le_trans (step_len t _ _) (by omega))
theorem rused_ev (t : Tab) (hg : gtB t = true) (ho : (t.f2.map (·.f0)).Nodup) (us : List ByteArray) (hu : us.length ≤ 1000000) : Ev (fun k => peristyleref32_used.f k t.f0 t.f1 t.f2 us) (usedP t us) := by
  have := rused_l0 t hg ho us hu us.length 0 (Nat.zero_add _) [] (Nat.le_refl _)
  rw [List.drop_zero] at this
  exact this
end Go.Proofs.Ytgjclhhjigflkab.Sc
