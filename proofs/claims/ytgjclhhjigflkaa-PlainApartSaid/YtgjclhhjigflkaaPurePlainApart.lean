/- The law PlainApart, plain. -/
import Derived.Test.YtgjclhhjigflkaaMx11
import Derived.Test.YtgjclhhjigflkaaPurePlainInts
import Derived.Test.YtgjclhhjigflkaaEvTexts
namespace Go.Proofs.Ytgjclhhjigflkaa.Pure
set_option linter.unusedVariables false
set_option linter.unusedSimpArgs false
open Go.RowKit Go.Proofs.Ytgjclhhjigflkaa.M Go.Proofs.Ytgjclhhjigflkaa.EvW Go.Proofs.Ytgjclhhjigflkaa.Vi Go.Proofs.Ytgjclhhjigflkaa.Pl Go.Proofs.YtgjclhhjigflkaaW.PrintWords Go.Proofs.YtgjclhhjigflkaaW.PrintLast
theorem textsS_shape (s : List UInt8) (n : Int) : (∃ r, textsS s n = (r, 0) ∧ (r.length : Int) = n ∧ ptexts r = s ∧ r.all short = true ∧ r.length ≤ s.length) ∨ textsS s n = ([], 20) := by
  unfold textsS
  cases hx : txt s with
  | none => exact .inr rfl
  | some r =>
    by_cases h : (r.length : Int) = n
    · simp only [if_pos h]
      obtain ⟨h1, h2⟩ := put_txt s.length s (Nat.le_refl _) r hx
      exact .inl ⟨r, rfl, h, h1, h2, txt_length s.length s (Nat.le_refl _) r hx⟩
    · simp only [if_neg h]
      exact .inr trivial
theorem PlainApart : peristylelaw07_PlainApart.Pure := by
  intro a0 a1 hs hw
  have hw1 := wf64_of a1 hw
  refine Ev.rounds ?_
  by_cases h512 : (a0.size : Int) > 512
  · exact ev_pos h512 (Ev.bind awake07 (Ev.now _))
  · refine ev_neg h512 (Ev.bind (take_ev a0 (by omega) a1 hw1) (Ev.bind (ttake_ev a0 a1 (by omega)) ?_))
    have hd : a0.data.toList.length = a0.size := data_length a0
    have texts : ∀ (r : List ByteArray) (e : Int), textsS a0.data.toList a1 = (r, e) → ∃ t g, plain_PutTexts.f r = some (t, g) ∧ (e = 0 → t.toList = a0.toList ∧ g = 0 ∧ (r.length : Int) = a1) := by
      intro r e h
      rcases textsS_shape a0.data.toList a1 with ⟨r', h1, h2, h3, h4, h5⟩ | h1
      · rw [h1] at h
        cases h
        refine ⟨_, _, by rw [plain_PutTexts.f, if_pos (by omega), if_pos h4], fun _ => ⟨?_, rfl, h2⟩⟩
        rw [Lib.toList_data, Lib.toList_data, h3]
      · rw [h1] at h
        cases h
        exact ⟨_, _, rfl, fun h => by cases h⟩
    obtain ⟨r, e, hT⟩ : ∃ r e, textsS a0.data.toList a1 = (r, e) := ⟨_, _, rfl⟩
    obtain ⟨t, g, hp, ht⟩ := texts r e hT
    rw [hT]
    refine Ev.congr (fun k => by rw [hp, Option.bind_some]) ?_
    unfold takeIntsS
    by_cases hi : 0 ≤ a1 ∧ (a0.data.toList.length : Int) = 8 * a1
    · rw [if_pos hi]
      refine ev_pos rfl (Ev.bind (put_ev _ (by rw [intsOf_length]; omega)) (ev_pos ?_ (ev_pos (by show ((intsOf a1.toNat a0.data.toList).length : Int) = a1; rw [intsOf_length]; omega) ?_)))
      · rw [Lib.toList_data, Lib.toList_data, strOfNums_data, put_ints _ _ (by omega)]
      · by_cases he : e = 0
        · obtain ⟨g1, g2, g3⟩ := ht he
          exact ev_pos he (ev_pos g1 (ev_pos g2 (ev_pos g3 (Ev.bind awake07 (Ev.now _)))))
        · exact ev_neg he (Ev.bind awake07 (Ev.now _))
    · rw [if_neg hi]
      refine ev_neg (show ¬ ((20 : Int) = 0) by decide) ?_
      by_cases he : e = 0
      · obtain ⟨g1, g2, g3⟩ := ht he
        exact ev_pos he (ev_pos g1 (ev_pos g2 (ev_pos g3 (Ev.bind awake07 (Ev.now _)))))
      · exact ev_neg he (Ev.bind awake07 (Ev.now _))
end Go.Proofs.Ytgjclhhjigflkaa.Pure
