/- The law VintPuts, plain. -/
import Derived.Test.YtgjclhhjigflkaaMx4
import Derived.Test.YtgjclhhjigflkaaEvVint
namespace Go.Proofs.Ytgjclhhjigflkaa.Pure
set_option linter.unusedVariables false
set_option linter.unusedSimpArgs false
open Go.RowKit Go.Proofs.Ytgjclhhjigflkaa.M Go.Proofs.Ytgjclhhjigflkaa.EvW Go.Proofs.Ytgjclhhjigflkaa.Vi Go.Proofs.YtgjclhhjigflkaaW.PrintWords Go.Proofs.YtgjclhhjigflkaaW.PrintLast
theorem VintPuts : peristylelaw02_VintPuts.Pure := by
  intro a0 a1 hw hs
  have h0 := wf64_of a0 hw
  have hz := zz_lt a0 h0
  have hd := vput_data a0 h0
  have hsz : (vputB a0).size = (vbu 9 (zz a0)).length := by rw [← hd, data_length]
  obtain ⟨l1, l2, _, _⟩ := vbu_len 9 (zz a0) (by rw [p64]; omega)
  refine Ev.rounds ?_
  by_cases h512 : (a1.size : Int) > 512
  · exact ev_pos h512 (Ev.bind awake_ev (Ev.now _))
  · refine ev_neg h512 ?_
    refine Ev.congr (fun k => by rw [vput_f, Option.bind_some]) (ev_pos (by omega) ?_)
    have ht := take_ev (vputB a0 ++ a1)
    rw [ByteArray.data_append, Array.toList_append, hd, takeS_vbu _ hz, uz_zz] at ht
    refine Ev.bind ht (Ev.bind (rput_ev a0 h0) (ev_pos rfl (Ev.bind (len_ev a0 h0) (ev_pos (by omega) (ev_pos rfl (ev_pos (by show ((vbu 9 (zz a0)).length : Int) = _; omega) (ev_pos rfl (Ev.bind awake_ev (Ev.now _)))))))))
end Go.Proofs.Ytgjclhhjigflkaa.Pure
