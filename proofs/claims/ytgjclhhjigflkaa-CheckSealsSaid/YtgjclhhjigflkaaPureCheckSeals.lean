/- Proved: any bytes with their sum behind, and whether any bytes are such, are the document's. Conditions: none beyond the statement's own. -/
import Derived.Test.YtgjclhhjigflkaaMx2
import Derived.Test.YtgjclhhjigflkaaEvCheck
namespace Go.Proofs.Ytgjclhhjigflkaa.Pure
open Go.RowKit Go.Proofs.Ytgjclhhjigflkaa.M Go.Proofs.Ytgjclhhjigflkaa.Ck Go.Proofs.Ytgjclhhjigflkaa.Crc Go.Proofs.Ytgjclhhjigflkaa.EvW Go.Proofs.YtgjclhhjigflkaaW.PrintWords Go.Proofs.YtgjclhhjigflkaaW.PrintLast
theorem checkSeals_j (a b : ByteArray) (c : Bool) (hc : c = true ∨ a.size ≤ 1024 ∧ b.size ≤ 1024) : Ev (fun k => peristylelaw03_CheckSeals.j0 k a b c) true := by
  cases c with
  | true =>
    exact Ev.step (f := fun k => (peristylelaw03_awake.f k).bind fun t => some t) (fun k => by rw [peristylelaw03_CheckSeals.j0, if_pos rfl]) (Ev.bind awake_ev (Ev.now _))
  | false =>
    have hc' : a.size ≤ 1024 ∧ b.size ≤ 1024 := by rcases hc with h | h; cases h; exact h
    refine Ev.step (fun k => by rw [peristylelaw03_CheckSeals.j0, if_neg (by decide)]) ?_
    refine Ev.bind (seal_ev _ (by omega)) (Ev.bind (open_ev _ (by rw [sealOf_size]; omega)) (Ev.bind (open_ev _ (by omega)) (Ev.bind (ropen_ev _ (by omega)) (Ev.bind (seal_ev _ (by omega)) (Ev.bind (rseal_ev _ (by omega)) ?_)))))
    refine ev_pos rfl (ev_pos ?_ (ev_pos ?_ (ev_pos rfl (ev_pos rfl (Ev.bind awake_ev (Ev.now _))))))
    · rw [open_seal]
    · rw [open_seal]
theorem CheckSeals : peristylelaw03_CheckSeals.Pure := by
  intro a b _ _
  refine Ev.rounds ?_
  unfold peristylelaw03_CheckSeals.f
  by_cases h : (a.size : Int) > 1024
  · exact ev_pos h (checkSeals_j a b true (.inl rfl))
  · refine ev_neg h (checkSeals_j a b _ ?_)
    by_cases h2 : (b.size : Int) > 1024
    · exact .inl (decide_eq_true h2)
    · exact .inr ⟨by omega, by omega⟩
end Go.Proofs.Ytgjclhhjigflkaa.Pure
