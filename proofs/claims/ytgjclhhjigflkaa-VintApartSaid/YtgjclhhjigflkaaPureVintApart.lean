/- The law VintApart, plain. -/
import Derived.Test.YtgjclhhjigflkaaMx7
import Derived.Test.YtgjclhhjigflkaaEvVint
namespace Go.Proofs.Ytgjclhhjigflkaa.Pure
set_option linter.unusedVariables false
set_option linter.unusedSimpArgs false
open Go.RowKit Go.Proofs.Ytgjclhhjigflkaa.M Go.Proofs.Ytgjclhhjigflkaa.EvW Go.Proofs.Ytgjclhhjigflkaa.Vi Go.Proofs.YtgjclhhjigflkaaW.PrintWords Go.Proofs.YtgjclhhjigflkaaW.PrintLast
theorem vbu_prefix (a b : Int) (ha : wf64 a) (hb : wf64 b) : ((vbu 9 (zz b)).take (vbu 9 (zz a)).length = vbu 9 (zz a)) ↔ a = b := by
  constructor
  · intro h
    have h1 := takeS_vbu (zz a) (zz_lt a ha) ((vbu 9 (zz b)).drop (vbu 9 (zz a)).length)
    have h2 := takeS_vbu (zz b) (zz_lt b hb) []
    have e : vbu 9 (zz a) ++ (vbu 9 (zz b)).drop (vbu 9 (zz a)).length = vbu 9 (zz b) := by
      conv => lhs; lhs; rw [← h]
      exact List.take_append_drop _ _
    rw [e] at h1
    rw [List.append_nil, h1, Prod.mk.injEq, uz_zz, uz_zz] at h2
    exact h2.1
  · intro h; rw [h, List.take_length]
theorem vbu_mono (m n : Nat) (h : m ≤ n) (hn : n < 18446744073709551616) : (vbu 9 m).length ≤ (vbu 9 n).length := by
  obtain ⟨a1, a2, a3, a4⟩ := vbu_len 9 m (by rw [p64]; omega)
  obtain ⟨b1, b2, b3, b4⟩ := vbu_len 9 n (by rw [p64]; omega)
  rcases a4 with a4 | a4
  · omega
  · have := (Nat.pow_lt_pow_iff_right (a := 128) (by decide)).1 (Nat.lt_of_le_of_lt (Nat.le_trans a4 h) b3)
    omega
theorem begins (a b : Int) (ha : wf64 a) (hb : wf64 b) (x0 x1 : Int) (h : (x0 = a ∧ x1 = b) ∨ (x0 = b ∧ x1 = a)) : ((((vputB b).extract 0 (((vputB a).size : Int) : Int).toNat).toList == (vputB a).toList) == (x0 == x1)) = true := by
  have e : (((vputB b).extract 0 (((vputB a).size : Int) : Int).toNat).toList = (vputB a).toList) ↔ x0 = x1 := by
    rw [Lib.extract_toList, Lib.toList_data, vput_data a ha, vput_data b hb, List.drop_zero, Nat.sub_zero, Int.toNat_natCast, ← data_length, vput_data a ha, vbu_prefix a b ha hb]
    rcases h with ⟨rfl, rfl⟩ | ⟨rfl, rfl⟩
    · exact Iff.rfl
    · exact eq_comm
  by_cases h2 : x0 = x1
  · rw [beq_iff_eq, beq_iff_eq.2 (e.2 h2), beq_iff_eq.2 h2]
  · rw [beq_iff_eq, beq_eq_false_iff_ne.2 (fun g => h2 (e.1 g)), beq_eq_false_iff_ne.2 h2]
theorem j2_ev (x0 x1 a b : Int) (hx0 : wf64 x0) (hx1 : wf64 x1) (ha : wf64 a) (hb : wf64 b) (h : (x0 = a ∧ x1 = b) ∨ (x0 = b ∧ x1 = a)) (hl : (vputB a).size ≤ (vputB b).size) :
    Ev (fun k => peristylelaw02_VintApart.j2 k x0 x1 (vputB a) (vputB b) false) true := by
  have hb := begins a b ha hb x0 x1 h
  have len : zz x0 ≤ zz x1 → ((vbu 9 (zz x0)).length : Int) ≤ ((vbu 9 (zz x1)).length : Int) := fun h => by
    have := vbu_mono _ _ h (zz_lt x1 hx1); omega
  refine Ev.step (fun k => by rw [peristylelaw02_VintApart.j2]) (ev_neg (by decide) (ev_pos (by omega) (ev_pos (by omega) ?_)))
  by_cases h0 : x0 ≥ 0
  · refine ev_pos h0 ?_
    by_cases h1 : x1 ≥ x0
    · exact ev_pos h1 (ev_pos hb (Ev.bind (len_ev x0 hx0) (Ev.bind (len_ev x1 hx1) (ev_pos (len (by unfold zz; split <;> split <;> omega)) (Ev.bind awake_ev (Ev.now _))))))
    · exact ev_neg h1 (ev_neg (by omega) (ev_pos hb (Ev.bind awake_ev (Ev.now _))))
  · refine ev_neg h0 (ev_pos (by omega) (ev_pos hb ?_))
    by_cases h1 : x1 ≤ x0
    · exact ev_pos h1 (Ev.bind (len_ev x0 hx0) (Ev.bind (len_ev x1 hx1) (ev_pos (len (by unfold zz; split <;> split <;> omega)) (Ev.bind awake_ev (Ev.now _)))))
    · exact ev_neg h1 (Ev.bind awake_ev (Ev.now _))
theorem size_pos (a : Int) (ha : wf64 a) : 1 ≤ (vputB a).size := by
  obtain ⟨a1, a2, a3, a4⟩ := vbu_len 9 (zz a) (by have := zz_lt a ha; rw [p64]; omega)
  rw [← data_length, vput_data a ha]
  exact a1
theorem j1_ev (x0 x1 a b : Int) (hx0 : wf64 x0) (hx1 : wf64 x1) (ha : wf64 a) (hb : wf64 b) (h : (x0 = a ∧ x1 = b) ∨ (x0 = b ∧ x1 = a)) (hl : (vputB a).size ≤ (vputB b).size) :
    Ev (fun k => peristylelaw02_VintApart.j1 k x0 x1 (vputB a) (vputB b)) true := by
  have hp := size_pos a ha
  refine Ev.step (fun k => by rw [peristylelaw02_VintApart.j1]) (ev_neg (by omega) ?_)
  rw [decide_eq_false (by omega)]
  exact j2_ev x0 x1 a b hx0 hx1 ha hb h hl
theorem VintApart : peristylelaw02_VintApart.Pure := by
  intro a0 a1 hw0 hw1
  have h0 := wf64_of a0 hw0
  have h1 := wf64_of a1 hw1
  have hp0 := size_pos a0 h0
  have hp1 := size_pos a1 h1
  refine Ev.rounds ?_
  refine Ev.congr (fun k => by rw [peristylelaw02_VintApart.f, vput_f, vput_f, Option.bind_some, Option.bind_some]) ?_
  by_cases hl : ((vputB a0).size : Int) > ((vputB a1).size : Int)
  · refine ev_pos hl (Ev.step (fun k => by rw [peristylelaw02_VintApart.j0]) (ev_pos rfl (Ev.congr (fun k => by rw [vput_f, vput_f, Option.bind_some, Option.bind_some]) ?_)))
    exact j1_ev a0 a1 a1 a0 h0 h1 h1 h0 (.inr ⟨rfl, rfl⟩) (by omega)
  · refine ev_neg hl ?_
    rw [show (((vputB a0).size : Int) == 0) = false from beq_eq_false_iff_ne.2 (by omega)]
    refine Ev.step (fun k => by rw [peristylelaw02_VintApart.j0]) (ev_neg (by decide) ?_)
    exact j1_ev a0 a1 a0 a1 h0 h1 h0 h1 (.inl ⟨rfl, rfl⟩) (by omega)
end Go.Proofs.Ytgjclhhjigflkaa.Pure
