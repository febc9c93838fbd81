/- Proved: however a text is parted, its sum is that of its parts, one behind the other. Conditions: none beyond the statement's own. -/
import Derived.Test.YtgjclhhjigflkaaMx2
import Derived.Test.YtgjclhhjigflkaaEvCheck
namespace Go.Proofs.Ytgjclhhjigflkaa.Pure
open Go.RowKit Go.Proofs.Ytgjclhhjigflkaa.M Go.Proofs.Ytgjclhhjigflkaa.Ck Go.Proofs.Ytgjclhhjigflkaa.Crc Go.Proofs.Ytgjclhhjigflkaa.EvW Go.Proofs.YtgjclhhjigflkaaW.PrintWords Go.Proofs.YtgjclhhjigflkaaW.PrintLast
theorem sumOf_append (x : Int) (a b : ByteArray) : sumOf x (a ++ b) = sumOf (sumOf x a) b := by
  unfold sumOf
  rw [ByteArray.data_append, Array.toList_append, crc_append]
  congr 3
  rw [BitVec.ofInt_natCast, BitVec.ofNat_toNat, BitVec.setWidth_eq]
theorem sumOf_none (x : Int) (h0 : 0 ≤ x) (h1 : x < 4294967296) : sumOf x ⟨#[]⟩ = x := by
  unfold sumOf
  rw [show (⟨#[]⟩ : ByteArray).data.toList = [] from rfl, crc_nil, ← of32, Int.emod_eq_of_lt h0 h1]
theorem checkParts_j (a b : ByteArray) (ha : a.size ≤ 140737488351232) (hb : b.size ≤ 140737488351232) (c : Bool) (hc : c = true ∨ a.size ≤ 1024 ∧ b.size ≤ 1024) : Ev (fun k => peristylelaw03_CheckParts.j0 k a b c) true := by
  cases c with
  | true =>
    exact Ev.step (f := fun k => (peristylelaw03_awake.f k).bind fun t => some t) (fun k => by rw [peristylelaw03_CheckParts.j0, if_pos rfl]) (Ev.bind awake_ev (Ev.now _))
  | false =>
    have hc' : a.size ≤ 1024 ∧ b.size ≤ 1024 := by rcases hc with h | h; cases h; exact h
    refine Ev.step (fun k => by rw [peristylelaw03_CheckParts.j0, if_neg (by decide)]) ?_
    refine ev_pos (by omega) (Ev.bind (sum_ev _ (by rw [ByteArray.size_append]; omega)) (Ev.bind (sum_ev _ ha) (Ev.bind (more_ev _ _ hb) (ev_pos (sumOf_append 0 a b) (Ev.bind (sum_ev _ ha) (Ev.bind (more_ev _ _ (by decide)) ?_))))))
    have hr := sumOf_range 0 a
    exact Ev.bind (sum_ev _ ha) (ev_pos (sumOf_none _ hr.1 hr.2) (Ev.bind awake_ev (Ev.now _)))
theorem CheckParts : peristylelaw03_CheckParts.Pure := by
  intro a b ha hb
  refine Ev.rounds ?_
  unfold peristylelaw03_CheckParts.f
  by_cases h : (a.size : Int) > 1024
  · exact ev_pos h (checkParts_j a b ha hb true (.inl rfl))
  · refine ev_neg h (checkParts_j a b ha hb _ ?_)
    by_cases h2 : (b.size : Int) > 1024
    · exact .inl (decide_eq_true h2)
    · exact .inr ⟨by omega, by omega⟩
end Go.Proofs.Ytgjclhhjigflkaa.Pure
