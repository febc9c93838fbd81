/- What is chosen may be, plain (law 32). -/
import Derived.Test.YtgjclhhjigflkabCvRef3
namespace Go.Proofs.Ytgjclhhjigflkab.Sc
open Go Go.RowKit Go.Proofs.Ytgjclhhjigflkab.C Go.Proofs.Ytgjclhhjigflkab.Hand Go.Proofs.Ytgjclhhjigflkab.EvW Go.Proofs.YtgjclhhjigflkabW.PrintWords
set_option linter.unusedVariables false
set_option linter.unusedSimpArgs false
theorem whole_place {t : Tab} (h : mayP t = true) : ∃ j : Nat, j < t.f2.length ∧ ∀ c : Int, inP t.f1.length c = true → 0 ≤ placeP t (j : Int) c := by
  unfold mayP at h
  simp only [Bool.and_eq_true, List.any_eq_true] at h
  obtain ⟨⟨⟨_, q, hq, hs⟩, _⟩, _⟩ := h
  obtain ⟨j, hj, rfl⟩ := List.getElem_of_mem hq
  refine ⟨j, hj, fun c hc => ?_⟩
  unfold superP at hs
  simp only [Bool.and_eq_true, List.all_eq_true, List.mem_range, decide_eq_true_eq] at hs
  unfold inP at hc
  rw [decide_eq_true_eq] at hc
  obtain ⟨m, rfl⟩ := Int.eq_ofNat_of_zero_le hc.1
  unfold placeP
  rw [if_neg (by omega), prj_at t j hj]
  have := idxI_has t.f2[j].f1 m
  rw [decide_eq_true (hs.1 m (by omega))] at this
  exact of_decide_eq_true this
theorem lacks_no {t : Tab} {need : List Int} {p : Int} (h : ∀ c ∈ need, 0 ≤ placeP t p c) : lacks t need p = false := by
  unfold lacks
  rw [List.any_eq_false]
  intro c hc
  have := h c hc
  rw [decide_eq_true_eq]
  omega
theorem lacks_all {t : Tab} {need : List Int} {p : Int} (h : lacks t need p = false) : ∀ c ∈ need, 0 ≤ placeP t p c := by
  unfold lacks at h
  rw [List.any_eq_false] at h
  intro c hc
  have := h c hc
  rw [decide_eq_true_eq] at this
  omega
theorem bestK_lacks (t : Tab) (need tested : List Int) : ∀ k, bestK t need tested k = -1 ∨ lacks t need (bestK t need tested k) = false
  | 0 => .inl rfl
  | k + 1 => by
    rw [bestK_succ]
    unfold bestStep
    split
    · rename_i h
      exact .inr h.1
    · exact bestK_lacks t need tested k
theorem bestK_some (t : Tab) (need tested : List Int) (j : Nat) (h : lacks t need (j : Int) = false) : ∀ k, j < k → 0 ≤ bestK t need tested k
  | 0, hk => by omega
  | k + 1, hk => by
    rw [bestK_succ]
    unfold bestStep
    split
    · omega
    · rename_i hn
      by_cases he : j = k
      · subst he
        exact Int.not_lt.1 (fun hc => hn ⟨h, .inl hc⟩)
      · exact bestK_some t need tested j h k (by omega)
theorem best_ok {t : Tab} (h : mayP t = true) {need : List Int} (hn : colsIn t need = true) (tested : List Int) : 0 ≤ bestP t need tested ∧ bestP t need tested < t.f2.length ∧ lacks t need (bestP t need tested) = false := by
  obtain ⟨j, hj, hw⟩ := whole_place h
  unfold colsIn at hn
  rw [List.all_eq_true] at hn
  have h1 := bestK_some t need tested j (lacks_no fun c hc => hw c (hn c hc)) t.f2.length hj
  have e : bestP t need tested = bestK t need tested t.f2.length := rfl
  rw [e]
  refine ⟨h1, ?_, ?_⟩
  · rcases bestK_range t need tested t.f2.length with h2 | ⟨o, h2, h3⟩ <;> omega
  · rcases bestK_lacks t need tested t.f2.length with h2 | h2
    · omega
    · exact h2
theorem froms_get {t : Tab} {need S : List Int} : ∀ {k : Nat} {L : List Int}, fromsP t need S k = some L → ∀ c, c < k → fromP t need S c = some (L.getD c 0)
  | 0, _, _, c, hc => by omega
  | k + 1, L, h, c, hc => by
    rw [fromsP] at h
    cases hk : fromsP t need S k with
    | none => rw [hk] at h; cases h
    | some l =>
      rw [hk] at h
      simp only at h
      cases hf : fromP t need S k with
      | none => rw [hf] at h; cases h
      | some x =>
        rw [hf] at h
        simp only at h
        injection h with h
        subst h
        have hl := froms_len hk
        by_cases he : c = k
        · subst he
          rw [hf, List.getD_eq_getElem?_getD, List.getElem?_append_right (by omega)]
          simp [hl]
        · rw [froms_get hk c (by omega), List.getD_eq_getElem?_getD, List.getD_eq_getElem?_getD, List.getElem?_append_left (by omega)]
theorem froms_some {t : Tab} {need S : List Int} : ∀ k, (∀ c, c < k → ∃ x, fromP t need S c = some x) → ∃ L, fromsP t need S k = some L
  | 0, _ => ⟨[], rfl⟩
  | k + 1, h => by
    obtain ⟨L, hL⟩ := froms_some k (fun c hc => h c (by omega))
    obtain ⟨x, hx⟩ := h k (by omega)
    exact ⟨L ++ [x], froms_succ hL hx⟩
theorem fromP_ok {t : Tab} {need S : List Int} {c : Nat} {x : Int} (h : fromP t need S c = some x) : ((c : Int) ∈ need → 0 ≤ placeP t x c) ∧ (¬ (c : Int) ∈ need → x = -1) := by
  by_cases hin : (c : Int) ∈ need
  · refine ⟨fun _ => ?_, fun h2 => absurd hin h2⟩
    rcases idxF_range (fun p => decide (0 ≤ placeP t p c)) S 0 with ⟨h1, _⟩ | ⟨i, hi, h1, h2, _⟩
    · rw [from_bad hin h1 (by omega)] at h
      cases h
    · rw [from_yes hin h1 (by omega)] at h
      injection h with h
      rw [Nat.zero_add, Int.toNat_natCast, List.getD_eq_getElem?_getD, List.getElem?_eq_getElem hi] at h
      rw [← h]
      exact of_decide_eq_true h2
  · refine ⟨fun h2 => absurd h2 hin, fun _ => ?_⟩
    rw [from_no hin] at h
    injection h with h
    exact h.symm
theorem used_in (t : Tab) : ∀ (us : List ByteArray) (out : List Int), (∀ x ∈ out, 0 ≤ x ∧ x < t.f2.length) → ∀ x ∈ us.foldl (usedStep t) out, 0 ≤ x ∧ x < t.f2.length
  | [], out, h => h
  | n :: us, out, h => by
    rw [List.foldl_cons]
    refine used_in t us _ (fun x hx => ?_)
    unfold usedStep at hx
    split at hx
    · rename_i hc
      rcases List.mem_append.1 hx with hx | hx
      · exact h x hx
      · rw [List.mem_singleton] at hx
        rcases idxF_range (byName n) t.f2 0 with ⟨h1, _⟩ | ⟨i, hi, h1, _, _⟩
        · omega
        · omega
    · exact h x hx
theorem some_in {t : Tab} (h : mayP t = true) {need : List Int} (hn : colsIn t need = true) (tested : List Int) (us : List ByteArray) : 0 ≤ (someP t need tested us).getD 0 0 ∧ (someP t need tested us).getD 0 0 < t.f2.length := by
  unfold someP
  split
  · have := best_ok h hn tested
    exact ⟨this.1, this.2.1⟩
  · rename_i hne
    have := used_in t us [] (by simp) ((usedP t us).getD 0 0) (by
      show _ ∈ usedP t us
      rw [List.getD_eq_getElem?_getD, List.getElem?_eq_getElem (by omega)]
      exact List.getElem_mem _)
    exact this
theorem choose_in {t : Tab} (h : mayP t = true) {need tested : List Int} (hn : colsIn t need = true) (ht : colsIn t tested = true) (us : List ByteArray) : chooseP t need tested us = (match fromsP t need (someP t need tested us) t.f1.length with
    | none => (320, 0, [])
    | some l => (0, (someP t need tested us).getD 0 0, l)) := by
  unfold chooseP
  rw [if_pos ⟨by rw [check1]; exact h, hn, ht⟩]
  cases fromsP t need (someP t need tested us) t.f1.length <;> rfl
theorem choose_e {t : Tab} (h : mayP t = true) {need tested : List Int} (hn : colsIn t need = true) (ht : colsIn t tested = true) (us : List ByteArray) : (chooseP t need tested us).1 = 0 ∨ (chooseP t need tested us).1 = 320 := by
  rw [choose_in h hn ht]
  split
  · exact .inr rfl
  · exact .inl rfl
theorem choose_cov {t : Tab} (h : mayP t = true) {need tested : List Int} (hn : colsIn t need = true) (ht : colsIn t tested = true) (us : List ByteArray) (he : (chooseP t need tested us).1 = 0) : covE t need (chooseP t need tested us).2.1 (chooseP t need tested us).2.2 = 0 := by
  rw [choose_in h hn ht] at he ⊢
  cases hf : fromsP t need (someP t need tested us) t.f1.length with
  | none => rw [hf] at he; simp only at he; omega
  | some l =>
    simp only
    have hl := froms_len hf
    have hi := some_in h hn tested us
    refine covE_yes ?_
    unfold mayCov
    rw [decide_eq_true hi, decide_eq_true hl, hn, Bool.true_and, Bool.true_and, Bool.true_and, List.all_eq_true]
    intro c hc
    rw [List.mem_range, hl] at hc
    have h1 := fromP_ok (froms_get hf c hc)
    unfold okAt
    split
    · rename_i h2
      exact decide_eq_true (h1.1 h2)
    · rename_i h2
      exact decide_eq_true (h1.2 h2)
theorem choose_nil {t : Tab} (h : mayP t = true) {need tested : List Int} (hn : colsIn t need = true) (ht : colsIn t tested = true) : (chooseP t need tested []).1 = 0 ∧ ∀ c ∈ need, 0 ≤ placeP t (chooseP t need tested []).2.1 c := by
  have hS : someP t need tested [] = [bestP t need tested] := rfl
  have hb := best_ok h hn tested
  obtain ⟨L, hL⟩ := froms_some (t := t) (need := need) (S := [bestP t need tested]) t.f1.length (fun c _ => by
    by_cases hin : (c : Int) ∈ need
    · have hp := lacks_all hb.2.2 c hin
      have e : idxF (fun p => decide (0 ≤ placeP t p c)) [bestP t need tested] 0 = 0 := by simp [idxF, hp]
      exact ⟨_, from_yes hin e (by omega)⟩
    · exact ⟨_, from_no hin⟩)
  rw [choose_in h hn ht, hS, hL]
  exact ⟨rfl, lacks_all hb.2.2⟩
end Go.Proofs.Ytgjclhhjigflkab.Sc
