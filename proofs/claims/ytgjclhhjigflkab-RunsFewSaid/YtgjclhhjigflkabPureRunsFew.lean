/- The law RunsFew, plain. -/
import Derived.Test.YtgjclhhjigflkabMx16
import Derived.Test.YtgjclhhjigflkabEvRunsTake
namespace Go.Proofs.Ytgjclhhjigflkab.Pure
set_option linter.unusedVariables false
set_option linter.unusedSimpArgs false
open Go.RowKit Go.Proofs.Ytgjclhhjigflkab.M Go.Proofs.Ytgjclhhjigflkab.EvW Go.Proofs.Ytgjclhhjigflkab.Vi Go.Proofs.Ytgjclhhjigflkab.Ru Go.Proofs.YtgjclhhjigflkabW.PrintWords Go.Proofs.YtgjclhhjigflkabW.PrintLast
theorem few_l0 (l : List Int) (hl : l.length ≤ 65536) : ∀ (rest done : List Int) (out : List T), l = done ++ rest → Inv done out → (∀ n : Int, n = ((ofG done rest out).length : Int) → Ev (fun k => peristylelaw10_RunsFew.l0 k l n (l.length : Int)) true) →
    Ev (fun k => peristylelaw10_RunsFew.l0 k l (out.length : Int) (done.length : Int)) true := by
  intro rest
  induction rest with
  | nil =>
    intro done out h hi hend
    rw [List.append_nil] at h
    subst h
    exact hend _ (by rw [ofG])
  | cons n rest ih =>
    intro done out h hi hend
    have hlen : l.length = done.length + 1 + rest.length := by rw [h]; simp; omega
    have hr : rd l (done.length : Int) = n := by rw [h]; exact rd_mid done rest n
    have hl2 : l = (done ++ [n]) ++ rest := by rw [h]; simp
    have hout := out_len hi (by omega)
    rw [ofG] at hend
    have hnext := ih (done ++ [n]) _ hl2 (inv_step hi n (by omega)) hend
    have hw : wrap64 ((done.length : Int) + 1) = ((done ++ [n]).length : Int) := by rw [w64 _ (by omega) (by omega)]; simp
    have hw2 : wrap64 ((out.length : Int) + 1) = ((out ++ [(⟨n, (done.length : Int), 1⟩ : T)]).length : Int) := by rw [w64 _ (by omega) (by omega)]; simp
    refine Ev.step (fun k => by rw [peristylelaw10_RunsFew.l0, hr]) (ev_pos (by omega) ?_)
    rcases List.eq_nil_or_concat done with hd | ⟨d, q, hd⟩
    · subst hd
      refine ev_pos (by simp) ?_
      rw [hw, hw2]
      rw [if_neg (by simp)] at hnext
      exact hnext
    · rw [List.concat_eq_append] at hd
      subst hd
      have hq : rd l (wrap64 (((d ++ [q]).length : Int) - 1)) = q := by rw [w64 _ (by omega) (by omega), h]; exact rd_last d (n :: rest) q
      have hwl : wrap64 (((d ++ [q]).length : Int) - 1) = ((d ++ [q]).length : Int) - 1 := w64 _ (by omega) (by omega)
      refine ev_neg (by simp; try omega) (ev_pos (by omega) (ev_pos (by rw [hwl]; simp) (ev_pos (by rw [hwl]; omega) ?_)))
      rw [hq, hw]
      by_cases hnq : n = q
      · subst hnq
        have hne : (d ++ [n]).getLast? = some n := by simp
        obtain ⟨o, r, rfl, e, hi2, g1, g2⟩ := inv_bump hi n hne (by omega)
        rw [if_pos hne, bump_snoc] at hnext
        refine ev_pos rfl ?_
        simpa using hnext
      · have hne : (d ++ [q]).getLast? ≠ some n := by simp; exact fun h => hnq h.symm
        rw [if_neg hne] at hnext
        refine ev_neg hnq ?_
        rw [hw2]
        exact hnext
theorem RunsFew : peristylelaw10_RunsFew.Pure := by
  intro l0 _ _ hw
  refine Ev.rounds ?_
  by_cases h : (l0.length : Int) > 100
  · exact ev_pos h (Ev.bind awake_ev (Ev.now _))
  · refine ev_neg h (few_l0 l0 (by omega) l0 [] [] rfl inv_nil ?_)
    intro n hn
    have hi := ofS_inv l0 (by omega)
    have hc : (cnt 0 none (ofS l0)).2 = true := by rw [hi.cnt]
    have hl := out_len hi (by omega)
    have hp := put_ev (ofS l0) (by omega)
    unfold putS at hp
    rw [if_pos hc] at hp
    have hwf : ∀ q ∈ ofS l0, wf64 q.f0 ∧ wf64 q.f2 := by
      intro q hq
      have g := (cnt_len _ hc).2.2 q hq
      refine ⟨?_, by unfold wf64; omega⟩
      have hm : q.f0 ∈ flat (ofS l0) := by
        unfold flat
        rw [List.mem_flatMap]
        exact ⟨q, hq, by rw [List.mem_replicate]; exact ⟨by omega, rfl⟩⟩
      rw [hi.flat] at hm
      exact wf64_of _ (hw _ hm)
    have hsize : (rputs (ofS l0)).length ≤ 2000 := by
      have h1 := rputs_length (ofS l0)
      obtain ⟨p1, p2, p3, p4⟩ := cnt_ok _ _ _ _ hi.cnt (by omega) (by omega)
      omega
    have ht := takeRuns_ev ⟨(rputs (ofS l0)).toArray⟩ (by simp [ByteArray.size]; omega) (l0.length : Int)
    have htr : takeR (⟨(rputs (ofS l0)).toArray⟩ : ByteArray).data.toList (l0.length : Int) = (ofS l0, 0) := by
      unfold takeR
      rw [if_neg (by omega)]
      have := takeG_put (l0.length : Int) (ofS l0) 0 none [] ((rputs (ofS l0)).length + 1) hi.cnt (by omega) (by omega) hwf (by omega) hc
      simpa using this
    rw [htr] at ht
    refine Ev.step (fun k => by rw [peristylelaw10_RunsFew.l0]) (ev_neg (by omega) (Ev.bind (of_ev l0 (by omega)) (Ev.bind hp (Ev.bind ht ?_))))
    refine ev_pos (by rw [hn]; rfl) (ev_pos rfl (ev_pos rfl (Ev.bind (rsame_ev (ofS l0) (by omega)) ?_)))
    exact ev_pos rfl (Ev.bind awake_ev (Ev.now _))
end Go.Proofs.Ytgjclhhjigflkab.Pure
