/- The law VintTakes, plain. -/
import Derived.Test.YtgjclhhjigflkaaMx6
import Derived.Test.YtgjclhhjigflkaaEvVint
namespace Go.Proofs.Ytgjclhhjigflkaa.Pure
set_option linter.unusedVariables false
set_option linter.unusedSimpArgs false
open Go.RowKit Go.Proofs.Ytgjclhhjigflkaa.M Go.Proofs.Ytgjclhhjigflkaa.EvW Go.Proofs.Ytgjclhhjigflkaa.Vi Go.Proofs.YtgjclhhjigflkaaW.PrintWords Go.Proofs.YtgjclhhjigflkaaW.PrintLast
theorem VintTakes : peristylelaw02_VintTakes.Pure := by
  intro a0 hs
  refine Ev.rounds ?_
  by_cases h512 : (a0.size : Int) > 512
  · exact ev_pos h512 (Ev.bind awake_ev (Ev.now _))
  · refine ev_neg h512 ?_
    obtain ⟨n, K, e, hT⟩ : ∃ n K e, takeS [] a0.data.toList = (n, K, e) := ⟨_, _, _, rfl⟩
    have ht := take_ev a0
    have hr := rtake_ev a0 hs
    rw [hT] at ht hr
    refine Ev.bind ht (Ev.bind hr (ev_pos rfl (ev_pos rfl (ev_pos rfl ?_))))
    show Ev (fun k => if e = 0 then _ else _) true
    by_cases he : e = 0
    · subst he
      obtain ⟨h1, h2, h3, h4, h5⟩ := takeS_ok a0.data.toList [] (by simp) n K hT
      rw [List.nil_append] at h4 h5
      rw [data_length] at h4
      refine ev_pos rfl (ev_pos h4 ?_)
      refine Ev.congr (fun k => by rw [vput_f, Option.bind_some]) (ev_pos (by simp at h2; show (0 : Int) ≤ K; omega) (ev_pos ?_ (Ev.bind awake_ev (Ev.now _))))
      show _ = (a0.extract 0 (K : Int).toNat).toList
      rw [Lib.toList_data, vput_data n h1, h5, Lib.extract_toList, List.drop_zero, Nat.sub_zero]
    · exact ev_neg he (Ev.bind awake_ev (Ev.now _))
end Go.Proofs.Ytgjclhhjigflkaa.Pure
