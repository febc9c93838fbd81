/- Mover: light lists of rows, the merge and the vectors, of the program and of the reference. -/
import Derived.Test.YtgjclhhjigflkabMx5
import Derived.Test.YtgjclhhjigflkabMx2
import Derived.Test.YtgjclhhjigflkabEvLive
import Derived.Test.YtgjclhhjigflkabEvRowsOf
namespace Go.Proofs.Ytgjclhhjigflkab.Mv
set_option linter.unusedVariables false
set_option linter.unusedSimpArgs false
open Go.RowKit Go.Proofs.Ytgjclhhjigflkab.M Go.Proofs.Ytgjclhhjigflkab.EvW Go.Proofs.Ytgjclhhjigflkab.Ru Go.Proofs.YtgjclhhjigflkabW.PrintWords Go.Proofs.YtgjclhhjigflkabW.PrintLast Go.Proofs.YtgjclhhjigflkabW.PrintMore
theorem llight_l0 (l : List L) (d : Nat) : ∀ j : Nat, j + d = 30 → ∃ b, Ev (fun k => peristyleref22_Light.l0 k l 30 (j : Int)) b ∧ (b = true → l.length ≤ 30 ∧ ∀ i (hi : i < l.length), j ≤ i → l[i].f0.length ≤ 20) := by
  have hend : ∀ j : Nat, ¬ ((j : Int) < 30) ∨ ¬ ((j : Int) < (l.length : Int)) → ∃ b, Ev (fun k => peristyleref22_Light.l0 k l 30 (j : Int)) b ∧ (b = true → l.length ≤ 30 ∧ ∀ i (hi : i < l.length), j ≤ i → l[i].f0.length ≤ 20) := by
    intro j hj
    refine ⟨decide ((l.length : Int) ≤ 30), ?_, fun h => ⟨by have := of_decide_eq_true h; omega, fun i hi hji => by have := of_decide_eq_true h; omega⟩⟩
    by_cases hc : (j : Int) < (l.length : Int)
    · exact Ev.step (fun k => by rw [peristyleref22_Light.l0]) (ev_pos hc (Ev.step (fun k => by rw [peristyleref22_Light.j1]) (ev_neg (by simp; omega) (Ev.now _))))
    · exact Ev.step (fun k => by rw [peristyleref22_Light.l0]) (ev_neg hc (Ev.step (fun k => by rw [peristyleref22_Light.j1]) (ev_neg (by decide) (Ev.now _))))
  induction d with
  | zero =>
    intro j hj
    exact hend j (by omega)
  | succ d ih =>
    intro j hj
    by_cases hc : (j : Int) < (l.length : Int)
    · have hjl : j < l.length := by omega
      obtain ⟨c, h1, h2⟩ := light_ev (l[j].f0)
      cases c with
      | false =>
        refine ⟨false, Ev.step (fun k => by rw [peristyleref22_Light.l0]) (ev_pos hc (Ev.step (fun k => by rw [peristyleref22_Light.j1, rdL l j hjl]) (ev_pos (decide_eq_true (by omega)) (ev_pos (by omega) (ev_pos hc (Ev.bind h1 ?_)))))), by simp⟩
        exact ev_neg Bool.false_ne_true (Ev.now _)
      | true =>
        obtain ⟨b, h3, h4⟩ := ih (j + 1) (by omega)
        refine ⟨b, Ev.step (fun k => by rw [peristyleref22_Light.l0]) (ev_pos hc (Ev.step (fun k => by rw [peristyleref22_Light.j1, rdL l j hjl]) (ev_pos (decide_eq_true (by omega)) (ev_pos (by omega) (ev_pos hc (Ev.bind h1 (ev_pos rfl ?_))))))), ?_⟩
        · rw [w64 _ (by omega) (by omega)]
          rw [Int.natCast_add] at h3
          exact h3
        · intro hb
          refine ⟨(h4 hb).1, fun i hi hji => ?_⟩
          by_cases he : i = j
          · subst he; exact h2 rfl
          · exact (h4 hb).2 i hi (by omega)
    · exact hend j (.inr hc)
theorem llight_ev (l : List L) : ∃ b, Ev (fun k => peristyleref22_Light.f k l 30) b ∧ (b = true → l.length ≤ 30 ∧ ∀ x ∈ l, x.f0.length ≤ 20) := by
  obtain ⟨b, h1, h2⟩ := llight_l0 l 30 0 rfl
  refine ⟨b, h1, fun h => ⟨(h2 h).1, fun x hx => ?_⟩⟩
  obtain ⟨i, hi, rfl⟩ := List.getElem_of_mem hx
  exact (h2 h).2 i hi (by omega)
/-! the merge -/
theorem rmerge_l0 (low : Int) (l : List L) (hl : l.length ≤ 1000000) : ∀ (rest done out : List L), l = done ++ rest → out.length ≤ done.length →
    Ev (fun k => peristyleref27_Merge.l0 k low l out (done.length : Int)) (out ++ rest.filter fun x => !goneB low x) := by
  intro rest
  induction rest with
  | nil =>
    intro done out h _
    exact Ev.step (fun k => by rw [peristyleref27_Merge.l0]) (ev_neg (by rw [h]; simp) (Ev.congr (fun _ => by simp) (Ev.now _)))
  | cons r rest ih =>
    intro done out h ho
    have hlen : l.length = done.length + 1 + rest.length := by rw [h]; simp; omega
    have hr : rd_T157 l (done.length : Int) = r := by rw [h]; exact rdL_mid done rest r
    have hl2 : l = (done ++ [r]) ++ rest := by rw [h]; simp
    have hw : wrap64 ((done.length : Int) + 1) = ((done ++ [r]).length : Int) := by rw [w64 _ (by omega) (by omega)]; simp
    refine Ev.step (fun k => by rw [peristyleref27_Merge.l0, hr, hw]) (ev_pos (by omega) (ev_pos (by omega) ?_))
    have keep : goneB low r = false → Ev (fun k => peristyleref27_Merge.l0 k low l (out ++ [(⟨r.f0, r.f1, r.f2⟩ : L)]) ((done ++ [r]).length : Int)) (out ++ (r :: rest).filter fun x => !goneB low x) := by
      intro hg
      have := ih (done ++ [r]) (out ++ [r]) hl2 (by simp; omega)
      rw [List.filter_cons, if_pos (by rw [hg]; rfl)]
      rw [List.append_assoc] at this
      exact this
    by_cases c1 : r.f2 = 0
    · exact ev_pos c1 (ev_pos (by omega) (keep (by simp [goneB, c1])))
    · refine ev_neg c1 ?_
      by_cases c2 : r.f2 > low
      · exact ev_pos c2 (ev_pos (by omega) (keep (by simp [goneB]; omega)))
      · refine ev_neg c2 ?_
        have hg : goneB low r = true := by simp [goneB]; omega
        rw [List.filter_cons, if_neg (by rw [hg]; decide)]
        exact ih (done ++ [r]) out hl2 (by simp; omega)
theorem merge_is (l0 l1 : List L) (low : Int) (h : l0.length + l1.length ≤ 1000000) : mover_Merge.f l0 l1 low = some ((l0 ++ l1).filter fun x => !goneB low x) := by unfold mover_Merge.f; rw [if_pos h]
theorem rmerge_ev (l0 l1 : List L) (low : Int) (h : l0.length + l1.length ≤ 1000000) : Ev (fun k => peristyleref27_Merge.f k l0 l1 low) ((l0 ++ l1).filter fun x => !goneB low x) := by
  refine ev_pos (by simp; omega) (Ev.congr (fun k => by rw [List.nil_append, Option.bind_some]) (ev_pos (by omega) ?_))
  have := rmerge_l0 low (l0 ++ l1) (by simp; omega) (l0 ++ l1) [] [] rfl (by simp)
  simpa using this
/-! the vectors -/
def marksS : Nat → List L → List Mk
  | _, [] => []
  | i, r :: l => if r.f2 = 0 then marksS (i + 1) l else (⟨(i : Int), r.f2⟩ : Mk) :: marksS (i + 1) l
theorem marksS_len : ∀ (l : List L) (i : Nat), (marksS i l).length ≤ l.length
  | [], _ => by simp [marksS]
  | r :: l, i => by
    have := marksS_len l (i + 1)
    rw [marksS]
    split
    · rw [List.length_cons]; omega
    · rw [List.length_cons, List.length_cons]; omega
def vecS (l : List L) : List (List C) × List T × List Mk := (l.map (·.f0), ofS (l.map (·.f1)), marksS 0 l)
theorem vec_l0 (l : List L) (hl : l.length ≤ 60000) : ∀ (rest done : List L) (a : List (List C)) (b : List Int) (c : List Mk), l = done ++ rest → a.length = done.length → b.length = done.length → c.length ≤ done.length →
    Ev (fun k => mover_Vectors.l0 k a b c l (l.length : Int) (done.length : Int)) (a ++ rest.map (·.f0), ofS (b ++ rest.map (·.f1)), c ++ marksS done.length rest) := by
  intro rest
  induction rest with
  | nil =>
    intro done a b c h ha hb hc
    rw [List.append_nil] at h
    refine Ev.step (fun k => by rw [mover_Vectors.l0]) (ev_neg (by rw [h]; simp) (Ev.bind (of_ev b (by rw [hb, ← h]; omega)) ?_))
    exact Ev.congr (fun _ => by simp [marksS]) (Ev.now _)
  | cons r rest ih =>
    intro done a b c h ha hb hc
    have hlen : l.length = done.length + 1 + rest.length := by rw [h]; simp; omega
    have hr : rd_T157 l (done.length : Int) = r := by rw [h]; exact rdL_mid done rest r
    have hl2 : l = (done ++ [r]) ++ rest := by rw [h]; simp
    have hw : wrap64 ((done.length : Int) + 1) = ((done ++ [r]).length : Int) := by rw [w64 _ (by omega) (by omega)]; simp
    have hd : (done ++ [r]).length = done.length + 1 := by simp
    refine Ev.step (fun k => by rw [mover_Vectors.l0, hr, hw]) (ev_pos (by omega) (ev_pos (by omega) (ev_pos (by omega) (ev_pos (by omega) ?_))))
    refine Ev.congr (fun k => by rw [Option.bind_some]) (ev_pos (by omega) (Ev.congr (fun k => by rw [Option.bind_some]) ?_))
    rw [marksS]
    by_cases c1 : r.f2 = 0
    · rw [if_pos c1]
      refine ev_pos c1 ?_
      have := ih (done ++ [r]) (a ++ [r.f0]) (b ++ [r.f1]) c hl2 (by simp; omega) (by simp; omega) (by omega)
      simp only [List.append_assoc, List.singleton_append] at this
      rw [← hd]
      exact this
    · rw [if_neg c1]
      refine ev_neg c1 (ev_pos (by omega) ?_)
      have := ih (done ++ [r]) (a ++ [r.f0]) (b ++ [r.f1]) (c ++ [⟨(done.length : Int), r.f2⟩]) hl2 (by simp; omega) (by simp; omega) (by simp; omega)
      simp only [List.append_assoc, List.singleton_append] at this
      rw [← hd]
      exact this
theorem vec_ev (l : List L) (hl : l.length ≤ 60000) : Ev (fun k => mover_Vectors.f k l) (vecS l) := vec_l0 l hl l [] [] [] [] rfl rfl rfl (Nat.le_refl _)
theorem rvec_l0 (l : List L) (hl : l.length ≤ 60000) : ∀ (rest done : List L) (a : List (List C)) (b : List Int) (c : List Mk), l = done ++ rest → a.length = done.length → b.length = done.length → c.length ≤ done.length →
    Ev (fun k => peristyleref27_Vectors.l0 k l a b c (done.length : Int)) (a ++ rest.map (·.f0), ofS (b ++ rest.map (·.f1)), c ++ marksS done.length rest) := by
  intro rest
  induction rest with
  | nil =>
    intro done a b c h ha hb hc
    rw [List.append_nil] at h
    refine Ev.step (fun k => by rw [peristyleref27_Vectors.l0]) (ev_neg (by rw [h]; simp) (Ev.bind (rof_ev b (by rw [hb, ← h]; omega)) ?_))
    exact Ev.congr (fun _ => by simp [marksS]) (Ev.now _)
  | cons r rest ih =>
    intro done a b c h ha hb hc
    have hlen : l.length = done.length + 1 + rest.length := by rw [h]; simp; omega
    have hr : rd_T157 l (done.length : Int) = r := by rw [h]; exact rdL_mid done rest r
    have hl2 : l = (done ++ [r]) ++ rest := by rw [h]; simp
    have hw : wrap64 ((done.length : Int) + 1) = ((done ++ [r]).length : Int) := by rw [w64 _ (by omega) (by omega)]; simp
    have hd : (done ++ [r]).length = done.length + 1 := by simp
    refine Ev.step (fun k => by rw [peristyleref27_Vectors.l0, hr, hw]) (ev_pos (by omega) (ev_pos (by omega) (ev_pos (by omega) ?_)))
    refine Ev.congr (fun k => by rw [Option.bind_some]) (ev_pos (by omega) (Ev.congr (fun k => by rw [Option.bind_some]) ?_))
    rw [marksS]
    by_cases c1 : r.f2 = 0
    · rw [if_pos c1]
      refine ev_pos c1 ?_
      have := ih (done ++ [r]) (a ++ [r.f0]) (b ++ [r.f1]) c hl2 (by simp; omega) (by simp; omega) (by omega)
      simp only [List.append_assoc, List.singleton_append] at this
      rw [← hd]
      exact this
    · rw [if_neg c1]
      refine ev_neg c1 (ev_pos (by omega) ?_)
      have := ih (done ++ [r]) (a ++ [r.f0]) (b ++ [r.f1]) (c ++ [⟨(done.length : Int), r.f2⟩]) hl2 (by simp; omega) (by simp; omega) (by simp; omega)
      simp only [List.append_assoc, List.singleton_append] at this
      rw [← hd]
      exact this
theorem rvec_ev (l : List L) (hl : l.length ≤ 60000) : Ev (fun k => peristyleref27_Vectors.f k l) (vecS l) := rvec_l0 l hl l [] [] [] [] rfl rfl rfl (Nat.le_refl _)
end Go.Proofs.Ytgjclhhjigflkab.Mv
