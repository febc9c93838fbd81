/- Runs: the reference's numbers of runs (cut from XEvRuns by wip/mk/evrows.py). -/
import Derived.Test.YtgjclhhjigflkabMx6
import Derived.Test.YtgjclhhjigflkabEvRows
namespace Go.Proofs.Ytgjclhhjigflkab.Ru
set_option linter.unusedVariables false
set_option linter.unusedSimpArgs false
open Go.RowKit Go.Proofs.Ytgjclhhjigflkab.M Go.Proofs.Ytgjclhhjigflkab.EvW Go.Proofs.YtgjclhhjigflkabW.PrintWords Go.Proofs.YtgjclhhjigflkabW.PrintLast Go.Proofs.YtgjclhhjigflkabW.PrintMore
theorem may_l0 (l : List T) (hl : l.length ≤ 140737488355328) : ∀ (rest done : List T) (n : Int), l = done ++ rest → 0 ≤ n → n ≤ 65536 →
    Ev (fun k => peristyleref10_May.l0 k l n (done.length : Int)) (cnt n (lastV done) rest).2 := by
  intro rest
  induction rest with
  | nil =>
    intro done n h h0 h1
    show Ev _ true
    refine Ev.step (fun k => by rw [peristyleref10_May.l0]) (ev_neg (by rw [h]; simp) (Ev.now _))
  | cons r rest ih =>
    intro done n h h0 h1
    have hlen : l.length = done.length + 1 + rest.length := by rw [h]; simp; omega
    have hr : rd_T86 l (done.length : Int) = r := by rw [h]; exact rdR_mid done rest r
    have hl2 : l = (done ++ [r]) ++ rest := by rw [h]; simp
    have step : r.f2 ≥ 1 → r.f2 ≤ 65536 - n → Ev (fun k => peristyleref10_May.l0 k l (wrap64 (n + r.f2)) (wrap64 ((done.length : Int) + 1))) (cnt (n + r.f2) (some r.f0) rest).2 := by
      intro g1 g2
      have := ih (done ++ [r]) (n + r.f2) hl2 (by omega) (by omega)
      rw [lastV_snoc] at this
      rw [w64 _ (by omega) (by omega), w64 _ (by omega) (by omega)]
      simpa using this
    refine Ev.step (fun k => by rw [peristyleref10_May.l0, hr]) (ev_pos (by omega) (ev_pos (by omega) ?_))
    rw [cnt]
    by_cases c1 : r.f1 = n
    · refine ev_pos c1 ?_
      by_cases c2 : r.f2 < 1
      · rw [if_neg (by omega)]
        exact ev_pos c2 (Ev.now _)
      · refine ev_neg c2 ?_
        rw [w64 (65536 - n) (by omega) (by omega)]
        by_cases c3 : r.f2 > 65536 - n
        · rw [if_neg (by omega)]
          exact ev_pos c3 (Ev.now _)
        · refine ev_neg c3 ?_
          rcases List.eq_nil_or_concat done with hd | ⟨d, q, hd⟩
          · subst hd
            rw [if_pos ⟨c1, by omega, by omega, by simp [lastV_nil]⟩]
            exact ev_neg (by simp) (step (by omega) (by omega))
          · rw [List.concat_eq_append] at hd
            subst hd
            rw [lastV_snoc]
            have hq : rd_T86 l (((d ++ [q]).length : Int) - 1) = q := by rw [h]; exact rdR_last d (r :: rest) q
            refine ev_pos (by simp) ?_
            rw [w64 (((d ++ [q]).length : Int) - 1) (by omega) (by omega), hq]
            refine ev_pos (by simp) (ev_pos (by omega) ?_)
            by_cases c4 : r.f0 = q.f0
            · rw [if_neg (by rintro ⟨_, _, _, h4⟩; exact h4 (by rw [c4]))]
              exact ev_pos c4 (Ev.now _)
            · rw [if_pos ⟨c1, by omega, by omega, fun h4 => c4 (Option.some.inj h4).symm⟩]
              exact ev_neg c4 (step (by omega) (by omega))
    · rw [if_neg (fun h => c1 h.1)]
      exact ev_neg c1 (Ev.now _)
theorem may_ev (l : List T) (hl : l.length ≤ 140737488355328) : Ev (fun k => peristyleref10_May.f k l) (cnt 0 none l).2 :=
  may_l0 l hl l [] 0 rfl (by omega) (by omega)
theorem rflat_l1 (l : List T) (done rest : List T) (r : T) (h : l = done ++ r :: rest) (R : List Int × Int) (d : Nat) : ∀ (out : List Int) (j : Int), j + d = r.f2 → 0 ≤ j → r.f2 ≤ 65536 → out.length + d ≤ 1000000 →
    Ev (fun k => peristyleref10_Flat.l0 k l (out ++ List.replicate d r.f0) (wrap64 ((done.length : Int) + 1))) R → Ev (fun k => peristyleref10_Flat.l1 k l out (done.length : Int) j) R := by
  have hlen : l.length = done.length + 1 + rest.length := by rw [h]; simp; omega
  have hr : rd_T86 l (done.length : Int) = r := by rw [h]; exact rdR_mid done rest r
  induction d with
  | zero =>
    intro out j h1 h2 h3 h4 h5
    rw [List.replicate_zero, List.append_nil] at h5
    exact Ev.step (fun k => by rw [peristyleref10_Flat.l1, hr]) (ev_pos (by omega) (ev_pos (by omega) (ev_neg (by omega) h5)))
  | succ d ih =>
    intro out j h1 h2 h3 h4 h5
    refine Ev.step (fun k => by rw [peristyleref10_Flat.l1, hr]) (ev_pos (by omega) (ev_pos (by omega) (ev_pos (by omega) (ev_pos (by omega) ?_))))
    rw [w64 (j + 1) (by omega) (by omega)]
    refine ih (out ++ [r.f0]) (j + 1) (by omega) (by omega) h3 (by simp; omega) ?_
    rw [List.append_assoc]
    exact h5
theorem rflat_l0 (l : List T) (hl : l.length ≤ 65536) (ha : ∀ r ∈ l, 1 ≤ r.f2 ∧ r.f2 ≤ 65536) : ∀ (rest done : List T) (out : List Int), l = done ++ rest → out.length + (flat rest).length ≤ 65536 →
    Ev (fun k => peristyleref10_Flat.l0 k l out (done.length : Int)) (out ++ flat rest, 0) := by
  intro rest
  induction rest with
  | nil =>
    intro done out h _
    refine Ev.step (fun k => by rw [peristyleref10_Flat.l0]) (ev_neg (by rw [h]; simp) (Ev.congr (fun _ => by simp [flat]) (Ev.now _)))
  | cons r rest ih =>
    intro done out h h2
    have hlen : l.length = done.length + 1 + rest.length := by rw [h]; simp; omega
    have hl2 : l = (done ++ [r]) ++ rest := by rw [h]; simp
    have hr2 := ha r (by rw [h]; simp)
    rw [flat_cons, List.length_append, List.length_replicate] at h2
    refine Ev.step (fun k => by rw [peristyleref10_Flat.l0]) (ev_pos (by omega) ?_)
    refine rflat_l1 l done rest r h _ r.f2.toNat out 0 (by omega) (by omega) (by omega) (by omega) ?_
    have := ih (done ++ [r]) (out ++ List.replicate r.f2.toNat r.f0) hl2 (by rw [List.length_append, List.length_replicate]; omega)
    rw [w64 _ (by omega) (by omega), flat_cons, ← List.append_assoc]
    simpa using this
theorem rflat_ev (l : List T) (hl : l.length ≤ 140737488355328) : Ev (fun k => peristyleref10_Flat.f k l) (flatS l) := by
  refine Ev.bind (may_ev l hl) ?_
  unfold flatS
  by_cases h : (cnt 0 none l).2 = true
  · rw [if_pos h]
    obtain ⟨g1, g2, g3⟩ := cnt_len l h
    exact ev_pos h (rflat_l0 l g2 g3 l [] [] rfl (by simpa using g1))
  · rw [if_neg h]
    exact ev_neg h (Ev.now _)
end Go.Proofs.Ytgjclhhjigflkab.Ru
