/- What the document's Choose comes to: the best projection, and all of it (law 32). -/
import Derived.Test.YtgjclhhjigflkabCvRef7
namespace Go.Proofs.Ytgjclhhjigflkab.Sc
open Go Go.RowKit Go.Proofs.Ytgjclhhjigflkab.C Go.Proofs.Ytgjclhhjigflkab.Hand Go.Proofs.Ytgjclhhjigflkab.EvW Go.Proofs.YtgjclhhjigflkabW.PrintWords
set_option linter.unusedVariables false
set_option linter.unusedSimpArgs false
theorem may_prj {t : Tab} (h : mayP t = true) (p : Nat) (hp : p < t.f2.length) : 1 ≤ (prj t p).f1.length ∧ (prj t p).f1.length ≤ 8 ∧ 0 ≤ (prj t p).f2 := by
  unfold mayP at h
  simp only [Bool.and_eq_true] at h
  have h1 := List.all_eq_true.1 h.1.1.1.1.1 _ (List.getElem_mem hp)
  have h2 := h.1.1.1.2
  unfold colsP at h2
  unfold projP at h1
  simp only [Bool.and_eq_true, decide_eq_true_eq] at h1 h2
  rw [prj_at t p hp]
  have h3 := h1.1.1.1.1.2
  have h4 := h1.1.1.1.2
  have h5 := h1.1.1.2
  have h6 := h2.1.2
  omega
theorem srt_eq (t : Tab) (tested : List Int) (p : Nat) (h : 0 ≤ (prj t p).f2) : srt (prj t p) tested = sortedBy t tested p := by
  unfold srt sortedBy
  by_cases h0 : (prj t p).f2 = 0
  · rw [decide_eq_true h0, decide_eq_false (by omega)]; rfl
  · rw [decide_eq_false h0, decide_eq_true (by omega)]; rfl
theorem better_rank {t : Tab} (h : mayP t = true) (tested : List Int) (p o : Nat) (hp : p < t.f2.length) (ho : o < t.f2.length) : betterP (prj t p) (prj t o) tested = decide (rankP t tested p < rankP t tested o) := by
  have h1 := may_prj h p hp
  have h2 := may_prj h o ho
  unfold betterP rankP
  rw [srt_eq t tested p h1.2.2, srt_eq t tested o h2.2.2]
  cases sortedBy t tested p <;> cases sortedBy t tested o <;> simp <;> omega
def ends (t : Tab) (need some_ : List Int) : Int × List Int × Int := match fromsP t need some_ t.f1.length with
  | none => (0, [], 320)
  | some l => (some_.getD 0 0, l, 0)
theorem rch_end (t : Tab) (hg : gtB t = true) (need : List Int) (hn : need.length ≤ 1000000) (S : List Int) (hS : S.length ≤ 1000000) (h1 : 0 < S.length) :
    Ev (fun k => (peristyleref32_from.f k t.f0 t.f1 t.f2 need S).bind fun bt => if bt.2 = true then (if 0 < (S.length : Int) then some (rd S 0, bt.1, (0 : Int)) else none) else some (0, ([] : List Int), 320)) (ends t need S) := by
  refine Ev.bind (from_ev t hg need hn S hS) ?_
  unfold ends
  cases fromsP t need S t.f1.length with
  | none => exact ev_neg (by decide) (Ev.now _)
  | some l => exact ev_pos rfl (ev_pos (by omega) (Ev.now _))
theorem rch_l2 (t : Tab) (hg : gtB t = true) (hm : mayP t = true) (need tested : List Int) (hn : need.length ≤ 1000000) (ht : tested.length ≤ 1000000) : ∀ d i : Nat, i + d = t.f2.length → Ev (fun k => peristyleref32_Choose.l2 k need tested (bestK t need tested i) (i : Int) t.f0 t.f1 t.f2) (ends t need [bestP t need tested])
  | 0, i, hi => by
    have e : i = t.f2.length := by omega
    subst e
    have eb : bestP t need tested = bestK t need tested t.f2.length := rfl
    rw [eb]
    refine Ev.step (fun k => ?_) (rch_end t hg need hn [bestK t need tested t.f2.length] (by simp) (by simp))
    rw [peristyleref32_Choose.l2, if_neg (by omega)]
    rfl
  | d + 1, i, hi => by
    have hp6 := (gtB_spec hg).p
    have ih := rch_l2 t hg hm need tested hn ht d (i + 1) (by omega)
    rw [bestK_succ] at ih
    unfold bestStep at ih
    refine Ev.step (f := fun k => (peristyleref32_all.f k t.f0 t.f1 t.f2 (i : Int) need).bind fun r => if r = true then (if bestK t need tested i < 0 then peristyleref32_Choose.l2 k need tested (i : Int) ((i + 1 : Nat) : Int) t.f0 t.f1 t.f2 else (peristyleref32_better.f k t.f0 t.f1 t.f2 (i : Int) (bestK t need tested i) tested).bind fun q => if q = true then peristyleref32_Choose.l2 k need tested (i : Int) ((i + 1 : Nat) : Int) t.f0 t.f1 t.f2 else peristyleref32_Choose.l2 k need tested (bestK t need tested i) ((i + 1 : Nat) : Int) t.f0 t.f1 t.f2) else peristyleref32_Choose.l2 k need tested (bestK t need tested i) ((i + 1 : Nat) : Int) t.f0 t.f1 t.f2) (fun k => by rw [peristyleref32_Choose.l2, if_pos (by omega), w64 i (by omega)]) ?_
    refine Ev.bind (all_ev t hg (i : Int) need hn) ?_
    cases hla : lacks t need (i : Int) with
    | true =>
      rw [if_neg (fun h => by rw [hla] at h; cases h.1)] at ih
      exact ev_neg (by decide) ih
    | false =>
      refine ev_pos rfl ?_
      rcases bestK_range t need tested i with hb | ⟨o, hb, ho⟩
      · rw [if_pos ⟨hla, .inl (by omega)⟩] at ih
        exact ev_pos (by omega) ih
      · rw [hb] at ih ⊢
        refine ev_neg (by omega) ?_
        have hbt : peristyleref32_better.f = fun (k : Nat) (a0_0 : ByteArray) (l0_1 : List Col) (l0_2 : List Prj) (a1 a2 : Int) (l3 : List Int) => peristyleref32_better.f k a0_0 l0_1 l0_2 a1 a2 l3 := rfl
        have hbr := better_rank hm tested i o (by omega) (by omega)
        have hall : t.f2.all (fun q => decide (1 ≤ q.f1.length)) = true := by
          rw [List.all_eq_true]
          intro q hq
          exact decide_eq_true (may_one hm q hq)
        have hev : Ev (fun k => peristyleref32_better.f k t.f0 t.f1 t.f2 (i : Int) (o : Int) tested) (decide (rankP t tested (i : Int) < rankP t tested (o : Int))) := by
          refine Ev.congr (f := fun _ => some (decide (rankP t tested (i : Int) < rankP t tested (o : Int)))) (fun k => ?_) (Ev.now _)
          unfold peristyleref32_better.f
          rw [if_pos (by rw [hall, hg, decide_eq_true (show (0 : Int) ≤ (i : Int) ∧ (i : Int) < (t.f2.length : Int) ∧ (0 : Int) ≤ (o : Int) ∧ (o : Int) < (t.f2.length : Int) ∧ tested.length ≤ 1000000 by omega)]; rfl), hbr]
        refine Ev.bind hev ?_
        by_cases hr : rankP t tested (i : Int) < rankP t tested (o : Int)
        · rw [if_pos ⟨hla, .inr hr⟩] at ih
          rw [decide_eq_true hr]
          exact ev_pos rfl ih
        · rw [if_neg (fun h => by rcases h.2 with h2 | h2 <;> omega)] at ih
          rw [decide_eq_false hr]
          exact ev_neg (by decide) ih
theorem ends_choose {t : Tab} (hm : mayP t = true) {need tested : List Int} (hn : colsIn t need = true) (ht : colsIn t tested = true) (us : List ByteArray) : ends t need (someP t need tested us) = ((chooseP t need tested us).2.1, (chooseP t need tested us).2.2, (chooseP t need tested us).1) := by
  unfold ends chooseP
  rw [if_pos ⟨by rw [check1]; exact hm, hn, ht⟩]
  cases fromsP t need (someP t need tested us) t.f1.length <;> rfl
theorem choose_bad {t : Tab} {need tested : List Int} {us : List ByteArray} (h : ¬ (mayP t = true ∧ colsIn t need = true ∧ colsIn t tested = true)) : chooseP t need tested us = (1, 0, []) := by
  unfold chooseP
  rw [if_neg (by rw [check1]; exact h)]
theorem rchoose_ev (t : Tab) (hg : gtB t = true) (need tested : List Int) (us : List ByteArray) (hn : need.length ≤ 1000000) (ht : tested.length ≤ 1000000) (hu : us.length ≤ 1000000) : Ev (fun k => peristyleref32_Choose.f k t.f0 t.f1 t.f2 need tested us) ((chooseP t need tested us).2.1, (chooseP t need tested us).2.2, (chooseP t need tested us).1) := by
  unfold peristyleref32_Choose.f
  refine Ev.bind (may1_ev t hg) ?_
  cases hm : mayP t with
  | false =>
    rw [choose_bad (fun h => by rw [hm] at h; cases h.1)]
    exact ev_neg (by decide) (Ev.now _)
  | true =>
    have hnodup : (t.f2.map (·.f0)).Nodup := by
      unfold mayP onceP at hm
      simp only [Bool.and_eq_true, decide_eq_true_eq] at hm
      exact hm.2
    refine ev_pos rfl (rch_l0 t need tested us hn _ (fun h => ?_) (fun hcn => ?_) need.length 0 (Nat.zero_add _) (fun m _ hm => by omega))
    · rw [choose_bad (fun h2 => by rw [h] at h2; cases h2.2.1)]
    · refine Ev.step (f := fun k => peristyleref32_Choose.l1 k need tested us ((0 : Nat) : Int) t.f0 t.f1 t.f2) (fun k => by rw [peristyleref32_Choose.l0, if_neg (by omega)]; rfl) (rch_l1 t need tested us ht _ (fun h => ?_) (fun hct => ?_) tested.length 0 (Nat.zero_add _) (fun m _ hm => by omega))
      · rw [choose_bad (fun h2 => by rw [h] at h2; cases h2.2.2)]
      · rw [← ends_choose hm hcn hct]
        refine Ev.step (f := fun k => (peristyleref32_used.f k t.f0 t.f1 t.f2 us).bind fun q => if (q.length : Int) = 0 then peristyleref32_Choose.l2 k need tested (-1) ((0 : Nat) : Int) t.f0 t.f1 t.f2 else (peristyleref32_from.f k t.f0 t.f1 t.f2 need q).bind fun bt => if bt.2 = true then (if 0 < (q.length : Int) then some (rd q 0, bt.1, (0 : Int)) else none) else some (0, ([] : List Int), 320)) (fun k => by rw [peristyleref32_Choose.l1, if_neg (by omega)]; rfl) ?_
        refine Ev.bind (rused_ev t hg hnodup us hu) ?_
        have hul := used_le t us
        unfold someP
        by_cases h0 : (usedP t us).length = 0
        · rw [if_pos h0]
          exact ev_pos (by omega) (rch_l2 t hg hm need tested hn ht t.f2.length 0 (Nat.zero_add _))
        · rw [if_neg h0]
          exact ev_neg (by omega) (rch_end t hg need hn (usedP t us) (by omega) (by omega))
end Go.Proofs.Ytgjclhhjigflkab.Sc
