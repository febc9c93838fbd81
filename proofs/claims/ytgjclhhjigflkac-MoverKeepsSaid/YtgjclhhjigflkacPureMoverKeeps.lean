/- The law MoverKeeps, plain. -/
import Derived.Test.YtgjclhhjigflkacMx10
import Derived.Test.YtgjclhhjigflkacEvMay22
namespace Go.Proofs.Ytgjclhhjigflkac.Pure
set_option linter.unusedVariables false
set_option linter.unusedSimpArgs false
open Go.RowKit Go.Proofs.Ytgjclhhjigflkac.M Go.Proofs.Ytgjclhhjigflkac.Vi Go.Proofs.Ytgjclhhjigflkac.EvW Go.Proofs.Ytgjclhhjigflkac.Ru Go.Proofs.Ytgjclhhjigflkac.Mv Go.Proofs.YtgjclhhjigflkacW.PrintWords Go.Proofs.YtgjclhhjigflkacW.PrintLast
theorem keeps_l1 (l0 l1 : List L) (low : Int) (h0 : 0 ≤ low) (h1 : low ≤ 1099511627776) (n0 : l0.length ≤ 30) (n1 : l1.length ≤ 30) (c0 : ∀ x ∈ l0, x.f0.length ≤ 20) (c1 : ∀ x ∈ l1, x.f0.length ≤ 20) (d : Nat) :
    ∀ j : Nat, j + d = 16 → Ev (fun k => peristylelaw27_MoverKeeps.l1 k l0 l1 low ((l0 ++ l1).filter fun x => !goneB low x) (j : Int)) true := by
  have hm : ((l0 ++ l1).filter fun x => !goneB low x).length ≤ 60 := by
    have := List.length_filter_le (fun x => !goneB low x) (l0 ++ l1)
    rw [List.length_append] at this
    omega
  induction d with
  | zero =>
    intro j hj
    exact Ev.step (fun k => by rw [peristylelaw27_MoverKeeps.l1]) (ev_neg (by omega) (Ev.bind awake_ev (Ev.now _)))
  | succ d ih =>
    intro j hj
    have hw : wrap64 (low + (j : Int)) = low + (j : Int) := w64 _ (by omega) (by omega)
    have hw2 : wrap64 ((j : Int) + 1) = ((j + 1 : Nat) : Int) := by rw [w64 _ (by omega) (by omega)]; omega
    have s0 := seenS_len (low + j) l0
    have s1 := seenS_len (low + j) l1
    refine Ev.step (fun k => by rw [peristylelaw27_MoverKeeps.l1, hw, hw2]) (ev_pos (by omega) (Ev.bind (seen_ev (low + j) l0 (by omega)) ?_))
    refine ev_pos (by rw [List.length_nil]; omega) ?_
    refine Ev.congr (fun k => by rw [List.nil_append, Option.bind_some]) (Ev.bind (seen_ev (low + j) l1 (by omega)) ?_)
    refine ev_pos (by omega) (Ev.bind (seen_ev (low + j) _ (Nat.le_trans hm (by decide))) ?_)
    have hrow : Ev (fun k => peristyleref06_SameRows.f k (seenS (low + j) ((l0 ++ l1).filter fun x => !goneB low x)) (seenS (low + j) l0 ++ seenS (low + j) l1)) true := by
      rw [seen_merge low (low + j) (by omega)]
      refine rowsame_ev _ (by rw [List.length_append]; omega) (fun x hx => ?_)
      rcases List.mem_append.1 hx with hx | hx
      · unfold seenS at hx
        obtain ⟨y, hy, rfl⟩ := List.mem_map.1 hx
        have := c0 y (List.mem_filter.1 hy).1
        omega
      · unfold seenS at hx
        obtain ⟨y, hy, rfl⟩ := List.mem_map.1 hx
        have := c1 y (List.mem_filter.1 hy).1
        omega
    exact Ev.bind hrow (ev_pos rfl (ih (j + 1) (by omega)))
theorem keeps_end (l0 l1 : List L) (low : Int) (h0 : 0 ≤ low) (h1 : low ≤ 1099511627776) (n0 : l0.length ≤ 30) (n1 : l1.length ≤ 30) (c0 : ∀ x ∈ l0, x.f0.length ≤ 20) (c1 : ∀ x ∈ l1, x.f0.length ≤ 20) (g0 : ∀ x ∈ l0, goodL x) (g1 : ∀ x ∈ l1, goodL x) :
    Ev (fun k => (mover_Merge.f l0 l1 low).bind fun t314 => ((mover_Vectors.f k t314).bind fun bt317 => ((mover_Lives.f k bt317.1 bt317.2.1 bt317.2.2).bind fun bt326 => (if bt326.2 = 0 then ((peristyleref22_Same.f k bt326.1 t314).bind fun t330 => (if t330 = true then (peristylelaw27_MoverKeeps.l1 k l0 l1 low t314 0) else (none))) else (none))))) true := by
  have hc : ∀ x ∈ (l0 ++ l1).filter (fun x => !goneB low x), goodL x ∧ x.f0.length ≤ 20 := by
    intro x hx
    rcases List.mem_append.1 (List.mem_filter.1 hx).1 with h | h
    · exact ⟨g0 x h, c0 x h⟩
    · exact ⟨g1 x h, c1 x h⟩
  have hm : ((l0 ++ l1).filter fun x => !goneB low x).length ≤ 60 := by
    have := List.length_filter_le (fun x => !goneB low x) (l0 ++ l1)
    rw [List.length_append] at this
    omega
  refine Ev.congr (fun k => by rw [merge_is l0 l1 low (by omega), Option.bind_some]) ?_
  obtain ⟨m, hmm⟩ : ∃ m, ((l0 ++ l1).filter fun x => !goneB low x) = m := ⟨_, rfl⟩
  have hl1 := keeps_l1 l0 l1 low h0 h1 n0 n1 c0 c1 16 0 (by omega)
  rw [hmm] at hc hm hl1 ⊢
  have hof : (vecS m).2.1.length ≤ 65536 := out_len (ofS_inv _ (by rw [List.length_map]; omega)) (by rw [List.length_map]; omega)
  have hmk : (vecS m).2.2.length ≤ m.length := marksS_len m 0
  have hv1 : (vecS m).1.length = m.length := by rw [vecS_1, List.length_map]
  have hlv := lives_ev (vecS m).1 (vecS m).2.1 (vecS m).2.2 (by omega) (by omega) (by omega)
  rw [lives_back m (by omega) (fun x hx => (hc x hx).1)] at hlv
  refine Ev.bind (vec_ev m (by omega)) (Ev.bind hlv (ev_pos rfl (Ev.bind (lsame_ev m (by omega) (fun x hx => by have := (hc x hx).2; omega)) (ev_pos rfl ?_))))
  exact hl1
theorem keeps_l0 (l0 l1 : List L) (low : Int) (h0 : 0 ≤ low) (h1 : low ≤ 1099511627776) (n0 : l0.length ≤ 30) (n1 : l1.length ≤ 30) (c0 : ∀ x ∈ l0, x.f0.length ≤ 20) (c1 : ∀ x ∈ l1, x.f0.length ≤ 20) (w0 : ∀ x ∈ l0, ∀ c ∈ x.f0, wf64 c.f1) (w1 : ∀ x ∈ l1, ∀ c ∈ x.f0, wf64 c.f1) (d : Nat) :
    ∀ j : Nat, j + d = l0.length + l1.length → (∀ i (hi : i < l0.length), i < j → goodL l0[i]) → (∀ i (hi : i < l1.length), l0.length + i < j → goodL l1[i]) → Ev (fun k => peristylelaw27_MoverKeeps.l0 k l0 l1 low (j : Int)) true := by
  have hws : wrap64 ((l0.length : Int) + (l1.length : Int)) = ((l0.length + l1.length : Nat) : Int) := by rw [w64 _ (by omega) (by omega)]; omega
  induction d with
  | zero =>
    intro j hj g0 g1
    refine Ev.step (fun k => by rw [peristylelaw27_MoverKeeps.l0, hws]) (ev_neg (by omega) ?_)
    refine keeps_end l0 l1 low h0 h1 n0 n1 c0 c1 (fun x hx => ?_) (fun x hx => ?_)
    · obtain ⟨i, hi, rfl⟩ := List.getElem_of_mem hx
      exact g0 i hi (by omega)
    · obtain ⟨i, hi, rfl⟩ := List.getElem_of_mem hx
      exact g1 i hi (by omega)
  | succ d ih =>
    intro j hj g0 g1
    have hw : wrap64 ((j : Int) + 1) = ((j + 1 : Nat) : Int) := by rw [w64 _ (by omega) (by omega)]; omega
    by_cases hc : j < l0.length
    · obtain ⟨b, e, g⟩ := may22_ev l0[j] (c0 _ (List.getElem_mem hc)) (w0 _ (List.getElem_mem hc))
      refine Ev.step (fun k => by rw [peristylelaw27_MoverKeeps.l0, hws, hw, rdL l0 j hc]) (ev_pos (by omega) (ev_pos (by omega) (ev_pos (by omega) (Ev.bind e ?_))))
      cases b with
      | false => exact ev_neg (by decide) (Ev.bind awake_ev (Ev.now _))
      | true =>
        refine ev_pos rfl (ih (j + 1) (by omega) (fun i hi hij => ?_) (fun i hi hij => g1 i hi (by omega)))
        by_cases he : i = j
        · subst he; exact g rfl
        · exact g0 i hi (by omega)
    · obtain ⟨q, hq⟩ : ∃ q, j = l0.length + q := ⟨j - l0.length, by omega⟩
      have hql : q < l1.length := by omega
      have hwq : wrap64 ((j : Int) - (l0.length : Int)) = ((q : Nat) : Int) := by rw [w64 _ (by omega) (by omega)]; omega
      obtain ⟨b, e, g⟩ := may22_ev l1[q] (c1 _ (List.getElem_mem hql)) (w1 _ (List.getElem_mem hql))
      refine Ev.step (fun k => by rw [peristylelaw27_MoverKeeps.l0, hws, hw, hwq, rdL l1 q hql]) (ev_pos (by omega) (ev_neg (by omega) (ev_pos (by omega) (ev_pos (by omega) (Ev.bind e ?_)))))
      cases b with
      | false => exact ev_neg (by decide) (Ev.bind awake_ev (Ev.now _))
      | true =>
        refine ev_pos rfl (ih (j + 1) (by omega) (fun i hi hij => g0 i hi (by omega)) (fun i hi hij => ?_))
        by_cases he : i = q
        · subst he; exact g rfl
        · exact g1 i hi (by omega)
theorem MoverKeeps : peristylelaw27_MoverKeeps.Pure := by
  intro l0 l1 a2 _ hg0 _ hg1 _
  refine Ev.rounds ?_
  have hno : Ev (fun k => (peristylelaw27_awake.f k).bind fun t => some t) true := Ev.bind awake_ev (Ev.now _)
  have hw0 : ∀ x ∈ l0, ∀ c ∈ x.f0, wf64 c.f1 := fun x hx c hc => wf64_of _ ((hg0 x hx).1.2 c hc).2.1
  have hw1 : ∀ x ∈ l1, ∀ c ∈ x.f0, wf64 c.f1 := fun x hx c hc => wf64_of _ ((hg1 x hx).1.2 c hc).2.1
  obtain ⟨b0, e0, g0⟩ := llight_ev l0
  refine Ev.bind e0 ?_
  cases b0 with
  | false => exact ev_neg (by decide) hno
  | true =>
    refine ev_pos rfl ?_
    obtain ⟨b1, e1, g1⟩ := llight_ev l1
    refine Ev.bind e1 ?_
    cases b1 with
    | false => exact ev_neg (by decide) hno
    | true =>
      refine ev_pos rfl ?_
      obtain ⟨n0, c0⟩ := g0 rfl
      obtain ⟨n1, c1⟩ := g1 rfl
      by_cases k1 : a2 < 0
      · exact ev_pos k1 hno
      · refine ev_neg k1 ?_
        by_cases k2 : a2 > 1099511627776
        · exact ev_pos k2 hno
        · exact ev_neg k2 (keeps_l0 l0 l1 a2 (by omega) (by omega) n0 n1 c0 c1 hw0 hw1 (l0.length + l1.length) 0 (by omega) (fun i hi h => by omega) (fun i hi h => by omega))
end Go.Proofs.Ytgjclhhjigflkac.Pure
