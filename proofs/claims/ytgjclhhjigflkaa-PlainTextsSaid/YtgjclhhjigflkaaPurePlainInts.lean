/- The law PlainInts, plain. -/
import Derived.Test.YtgjclhhjigflkaaMx9
import Derived.Test.YtgjclhhjigflkaaEvInts
namespace Go.Proofs.Ytgjclhhjigflkaa.Pure
set_option linter.unusedVariables false
set_option linter.unusedSimpArgs false
open Go.RowKit Go.Proofs.Ytgjclhhjigflkaa.M Go.Proofs.Ytgjclhhjigflkaa.EvW Go.Proofs.Ytgjclhhjigflkaa.Vi Go.Proofs.Ytgjclhhjigflkaa.Pl Go.Proofs.YtgjclhhjigflkaaW.PrintWords Go.Proofs.YtgjclhhjigflkaaW.PrintLast
theorem awake07 : Ev (fun k => peristylelaw07_awake.f k) true := by
  have h1 := put_ev [258, -1] (by decide)
  have e1 : (strOfNums (nums8 [258, -1])).data.toList = (nums8 [258, -1]).map fun n => UInt8.ofNat n.toNat := strOfNums_data _
  have h2 := take_ev (strOfNums (nums8 [258, -1])) (by rw [← data_length, e1, List.length_map, nums8_length]; decide) 2 (by unfold wf64; omega)
  have e2 : takeIntsS (strOfNums (nums8 [258, -1])).data.toList 2 = ([258, -1], 0) := by
    have hb := ints_put [258, -1] (by intro x hx; simp at hx; unfold wf64; rcases hx with rfl | rfl <;> omega)
    unfold takeIntsS
    rw [e1, if_pos (by rw [List.length_map, nums8_length]; simp)]
    exact congrArg (fun l => (l, (0 : Int))) hb
  rw [e2] at h2
  have h3 : plain_PutTexts.f ([(⟨#[97, 98]⟩ : ByteArray), (⟨#[]⟩ : ByteArray)] : List ByteArray) = some (⟨#[2, 97, 98, 0]⟩, 0) := by
    rw [plain_PutTexts.f, if_pos (by decide), if_pos (by decide +kernel)]
    decide +kernel
  refine Ev.bind h1 (Ev.bind h2 (Ev.congr (fun k => by rw [h3, Option.bind_some]) (Ev.bind (same_ev [258, -1] (by decide)) (ev_pos rfl (ev_pos rfl (ev_pos ?_ (Ev.now _)))))))
  rw [Lib.toList_data]
theorem PlainInts : peristylelaw07_PlainInts.Pure := by
  intro l0 a1 a2 _ _ hw hs hw2
  have hw' : ∀ x ∈ l0, wf64 x := fun x hx => wf64_of x (hw x hx)
  refine Ev.rounds ?_
  have stop : Ev (fun k => peristylelaw07_PlainInts.j0 k l0 a1 a2 true) true := Ev.step (fun k => by rw [peristylelaw07_PlainInts.j0]) (ev_pos rfl (Ev.bind awake07 (Ev.now _)))
  by_cases h100 : (l0.length : Int) > 100
  · exact ev_pos h100 stop
  · refine ev_neg h100 ?_
    by_cases h512 : (a1.size : Int) > 512
    · rw [decide_eq_true h512]
      exact stop
    · rw [decide_eq_false h512]
      have e1 : (strOfNums (nums8 l0)).data.toList = (nums8 l0).map fun n => UInt8.ofNat n.toNat := strOfNums_data _
      have h2 := take_ev (strOfNums (nums8 l0)) (by rw [← data_length, e1, List.length_map, nums8_length]; omega) (l0.length : Int) (by unfold wf64; omega)
      have e2 : takeIntsS (strOfNums (nums8 l0)).data.toList (l0.length : Int) = (l0, 0) := by
        have hb := ints_put l0 hw'
        unfold takeIntsS
        rw [e1, if_pos (by rw [List.length_map, nums8_length]; omega), Int.toNat_natCast, hb]
      rw [e2] at h2
      refine Ev.step (fun k => by rw [peristylelaw07_PlainInts.j0]) (ev_neg (by decide) (Ev.bind (put_ev l0 (by omega)) (Ev.bind h2 (Ev.bind (take_ev a1 (by omega) a2 (wf64_of a2 hw2)) (Ev.bind (rtake_ev a1 (by omega) a2 (wf64_of a2 hw2)) (Ev.bind (rput_ev l0 (by omega)) ?_))))))
      refine ev_pos rfl (Ev.bind (same_ev l0 (by omega)) ?_)
      refine ev_pos rfl (ev_pos rfl (Ev.bind (same_ev (takeIntsS a1.data.toList a2).1 (by have := takeIntsS_length a1.data.toList a2; rw [data_length] at this; omega)) ?_))
      exact ev_pos rfl (ev_pos rfl (Ev.bind awake07 (Ev.now _)))
end Go.Proofs.Ytgjclhhjigflkaa.Pure
