/- The law PlainTexts, plain. -/
import Derived.Test.YtgjclhhjigflkaaMx11
import Derived.Test.YtgjclhhjigflkaaPurePlainInts
import Derived.Test.YtgjclhhjigflkaaEvTexts
namespace Go.Proofs.Ytgjclhhjigflkaa.Pure
set_option linter.unusedVariables false
set_option linter.unusedSimpArgs false
open Go.RowKit Go.Proofs.Ytgjclhhjigflkaa.M Go.Proofs.Ytgjclhhjigflkaa.EvW Go.Proofs.Ytgjclhhjigflkaa.Vi Go.Proofs.Ytgjclhhjigflkaa.Pl Go.Proofs.YtgjclhhjigflkaaW.PrintWords Go.Proofs.YtgjclhhjigflkaaW.PrintLast
theorem rdS (l : List ByteArray) (i : Nat) (h : i < l.length) : rdOf ByteArray.empty l (i : Int) = l[i] := by
  simp [rdOf, List.getD_eq_getElem?_getD, List.getElem?_eq_getElem h]
theorem few_l0 (l : List ByteArray) (hm : l.length ≤ maxLen) (d : Nat) : ∀ i : Nat, i + d = 60 → i ≤ l.length → (∀ j (h : j < l.length), j < i → (l[j]'h).size ≤ 100) →
    ∃ b, Ev (fun k => peristyleref07_Few.l0 k l 60 (i : Int)) b ∧ (b = true → l.length ≤ 60 ∧ ∀ s ∈ l, s.size ≤ 100) := by
  have done : ∀ i : Nat, (∀ j (h : j < l.length), j < i → (l[j]'h).size ≤ 100) → (l.length ≤ i ∨ 60 ≤ i) → decide ((l.length : Int) ≤ 60) = true → l.length ≤ 60 ∧ ∀ s ∈ l, s.size ≤ 100 := by
    intro i h hi hb
    have hb := of_decide_eq_true hb
    refine ⟨by omega, fun s hs => ?_⟩
    obtain ⟨j, hj, rfl⟩ := List.getElem_of_mem hs
    exact h j hj (by omega)
  have hmm : maxLen = 9223372036854775807 := by decide
  induction d with
  | zero =>
    intro i h1 h2 h3
    obtain rfl : i = 60 := by omega
    refine ⟨decide ((l.length : Int) ≤ 60), ?_, done 60 h3 (.inr (Nat.le_refl _))⟩
    by_cases hl : ((60 : Nat) : Int) < (l.length : Int)
    · exact Ev.step (fun k => by rw [peristyleref07_Few.l0, if_pos hl]) (Ev.step (fun k => by rw [peristyleref07_Few.j1]) (ev_neg (by decide) (Ev.now _)))
    · exact Ev.step (fun k => by rw [peristyleref07_Few.l0, if_neg hl]) (Ev.step (fun k => by rw [peristyleref07_Few.j1]) (ev_neg (by decide) (Ev.now _)))
  | succ d ih =>
    intro i h1 h2 h3
    by_cases hl : i < l.length
    · by_cases hs : (l[i]).size ≤ 100
      · obtain ⟨b, h4, h5⟩ := ih (i + 1) (by omega) (by omega) (fun j h hj => by
          rcases Nat.lt_or_ge j i with h6 | h6
          · exact h3 j h h6
          · obtain rfl : j = i := by omega
            exact hs)
        refine ⟨b, Ev.step (fun k => by rw [peristyleref07_Few.l0, if_pos (by omega)]) (Ev.step (fun k => by rw [peristyleref07_Few.j1]) (ev_pos (decide_eq_true (by omega)) (ev_pos (by omega) (ev_pos (by omega) (ev_neg (by rw [rdS l i hl]; omega) ?_))))), h5⟩
        rw [w64 _ (by omega) (by omega)]
        exact h4
      · refine ⟨false, Ev.step (fun k => by rw [peristyleref07_Few.l0, if_pos (by omega)]) (Ev.step (fun k => by rw [peristyleref07_Few.j1]) (ev_pos (decide_eq_true (by omega)) (ev_pos (by omega) (ev_pos (by omega) (ev_pos (by rw [rdS l i hl]; omega) (Ev.now _)))))), fun h => by cases h⟩
    · refine ⟨decide ((l.length : Int) ≤ 60), ?_, done i h3 (.inl (by omega))⟩
      exact Ev.step (fun k => by rw [peristyleref07_Few.l0, if_neg (by omega)]) (Ev.step (fun k => by rw [peristyleref07_Few.j1]) (ev_neg (by decide) (Ev.now _)))
theorem few_ev (l : List ByteArray) (hm : l.length ≤ maxLen) : ∃ b, Ev (fun k => peristyleref07_Few.f k l 60) b ∧ (b = true → l.length ≤ 60 ∧ ∀ s ∈ l, s.size ≤ 100) :=
  few_l0 l hm 60 0 rfl (by omega) (fun j h hj => by omega)
def pnum (s : ByteArray) : List Int := ((s.size : Int) % 256) :: bytesOf s
theorem pnum_length (s : ByteArray) : (pnum s).length = s.size + 1 := by rw [pnum, List.length_cons, bytesOf_length]
theorem rputT_l0 (l : List ByteArray) (hl : l.length ≤ 60) (hs : ∀ s ∈ l, s.size ≤ 100) (d : Nat) : ∀ (i : Nat) (p : List Int), i + d = l.length → p.length + 101 * d ≤ 100000 →
    Ev (fun k => peristyleref07_PutTexts.l0 k l p (i : Int)) (if (l.drop i).all short = true then (strOfNums (p ++ (l.drop i).flatMap pnum), 0) else (⟨#[]⟩, 1)) := by
  induction d with
  | zero =>
    intro i p h1 h2
    rw [List.drop_of_length_le (by omega)]
    refine Ev.step (fun k => ?_) (Ev.now _)
    rw [peristyleref07_PutTexts.l0, if_neg (by omega)]
    simp
  | succ d ih =>
    intro i p h1 h2
    have hlt : i < l.length := by omega
    have h100 := hs _ (List.getElem_mem hlt)
    have hb := bytesOf_length l[i]
    rw [List.drop_eq_getElem_cons hlt, List.all_cons, List.flatMap_cons]
    refine Ev.step (fun k => by rw [peristyleref07_PutTexts.l0, rdS l i hlt]) (ev_pos (by omega) (ev_pos (by omega) ?_))
    by_cases h32 : ((l[i]).size : Int) > 32
    · have hsh : short l[i] = false := decide_eq_false (by omega)
      rw [hsh, Bool.false_and, if_neg (by decide)]
      exact ev_pos h32 (Ev.now _)
    · have hsh : short l[i] = true := decide_eq_true (by omega)
      rw [hsh, Bool.true_and]
      have := ih (i + 1) (p ++ pnum l[i]) (by omega) (by rw [List.length_append, pnum_length]; omega)
      refine ev_neg h32 (ev_pos (by omega) (ev_some (ev_pos (by simp; omega) ?_)))
      rw [w64 _ (by omega) (by omega)]
      rw [List.append_assoc] at this
      have e : p ++ [((l[i]).size : Int) % 256] ++ bytesOf l[i] = p ++ pnum l[i] := by rw [List.append_assoc]; rfl
      rw [e]
      exact this
theorem pnum_data (l : List ByteArray) (h : l.all short = true) : strOfNums (l.flatMap pnum) = ⟨(ptexts l).toArray⟩ := by
  have e : (l.flatMap pnum).map (fun n => UInt8.ofNat n.toNat) = ptexts l := by
    induction l with
    | nil => rfl
    | cons s l ih =>
      rw [List.all_cons, Bool.and_eq_true] at h
      have h1 : s.size ≤ 32 := of_decide_eq_true h.1
      rw [List.flatMap_cons, List.map_append, ih h.2, ptexts_cons, pnum, List.map_cons, ptext, show ((s.size : Int) % 256).toNat = s.size by omega]
      congr 2
      unfold bytesOf
      rw [List.map_map]
      conv => rhs; rw [← List.map_id s.data.toList]
      apply List.map_congr_left
      intro b _
      simp
  apply ByteArray.ext
  apply Array.toList_inj.1
  rw [strOfNums_data, e]
theorem rputT_ev (l : List ByteArray) (hl : l.length ≤ 60) (hs : ∀ s ∈ l, s.size ≤ 100) : Ev (fun k => peristyleref07_PutTexts.f k l) (if l.all short = true then (⟨(ptexts l).toArray⟩, 0) else (⟨#[]⟩, 1)) := by
  have := rputT_l0 l hl hs l.length 0 [] (by omega) (by simp; omega)
  rw [List.drop_zero, List.nil_append] at this
  by_cases h : l.all short = true
  · rw [if_pos h, pnum_data l h] at this
    rw [if_pos h]
    exact this
  · rw [if_neg h] at this ⊢
    exact this
theorem sameT_l0 (l : List ByteArray) (hl : l.length ≤ 1000000) (d : Nat) : ∀ i : Int, i + d = l.length → 0 ≤ i → Ev (fun k => peristyleref07_Same.l0 k l l i) true := by
  induction d with
  | zero =>
    intro i h1 h2
    exact Ev.step (fun k => by rw [peristyleref07_Same.l0]) (ev_neg (by omega) (Ev.now _))
  | succ d ih =>
    intro i h1 h2
    refine Ev.step (fun k => by rw [peristyleref07_Same.l0]) (ev_pos (by omega) (ev_pos h2 (ev_pos (by omega) (ev_pos rfl ?_))))
    rw [w64 _ (by omega) (by omega)]
    exact ih (i + 1) (by omega) (by omega)
theorem sameT_ev (l : List ByteArray) (hl : l.length ≤ 1000000) : Ev (fun k => peristyleref07_Same.f k l l) true := ev_pos rfl (sameT_l0 l hl l.length 0 (by omega) (by omega))
theorem textsS_length (s : List UInt8) (n : Int) : (textsS s n).1.length ≤ s.length := by
  unfold textsS
  cases hx : txt s with
  | none => simp
  | some r =>
    have := txt_length s.length s (Nat.le_refl _) r hx
    by_cases h : (r.length : Int) = n
    · simp only [if_pos h]; exact this
    · simp only [if_neg h]; simp
theorem PlainTexts : peristylelaw07_PlainTexts.Pure := by
  intro l0 a1 a2 hm hg hs hw2
  refine Ev.rounds ?_
  have stop : Ev (fun k => peristylelaw07_PlainTexts.j0 k l0 a1 a2 true) true := Ev.step (fun k => by rw [peristylelaw07_PlainTexts.j0]) (ev_pos rfl (Ev.bind awake07 (Ev.now _)))
  obtain ⟨b, hb, hfew⟩ := few_ev l0 hm
  refine Ev.bind hb ?_
  cases b with
  | false => exact ev_neg (by decide) stop
  | true =>
    obtain ⟨h60, h100⟩ := hfew rfl
    refine ev_pos rfl ?_
    by_cases h512 : (a1.size : Int) > 512
    · rw [decide_eq_true h512]
      exact stop
    · rw [decide_eq_false h512]
      have hput : plain_PutTexts.f l0 = some (if l0.all short = true then (⟨(ptexts l0).toArray⟩, 0) else (⟨#[]⟩, 1)) := by
        rw [plain_PutTexts.f, if_pos (by omega)]
        split <;> rfl
      obtain ⟨T, e, hT⟩ : ∃ T e, (if l0.all short = true then ((⟨(ptexts l0).toArray⟩ : ByteArray), (0 : Int)) else (⟨#[]⟩, 1)) = (T, e) := ⟨_, _, rfl⟩
      have hr := rputT_ev l0 h60 h100
      rw [hT] at hput hr
      have hl1 := textsS_length a1.data.toList a2
      rw [data_length] at hl1
      refine Ev.step (fun k => by rw [peristylelaw07_PlainTexts.j0]) (ev_neg (by decide) (Ev.congr (fun k => by rw [hput, Option.bind_some]) (Ev.bind hr (Ev.bind (ttake_ev a1 a2 (by omega)) (Ev.bind (rttake_ev a1 a2 (by omega)) ?_)))))
      refine ev_pos rfl (ev_pos rfl (Ev.bind (sameT_ev (textsS a1.data.toList a2).1 (by omega)) ?_))
      refine ev_pos rfl ?_
      rw [show ((textsS a1.data.toList a2).2 != (textsS a1.data.toList a2).2) = false from bne_self_eq_false _]
      have hTs : T.size ≤ 1000000 := by
        by_cases h : l0.all short = true
        · rw [if_pos h] at hT
          cases hT
          have := ptexts_length l0 h
          show (ptexts l0).toArray.size ≤ _
          simp
          omega
        · rw [if_neg h] at hT
          cases hT
          decide
      refine Ev.step (fun k => by rw [peristylelaw07_PlainTexts.j1]) (ev_neg (by decide) (Ev.bind (ttake_ev T (l0.length : Int) hTs) ?_))
      by_cases h : l0.all short = true
      · rw [if_pos h] at hT
        cases hT
        have e1 : textsS (ptexts l0) (l0.length : Int) = (l0, 0) := by
          unfold textsS
          rw [txt_put l0 h]
          simp
        rw [show ((⟨(ptexts l0).toArray⟩ : ByteArray)).data.toList = ptexts l0 from rfl, e1]
        exact ev_pos rfl (Ev.bind (sameT_ev l0 (by omega)) (ev_pos rfl (ev_pos rfl (Ev.bind awake07 (Ev.now _)))))
      · rw [if_neg h] at hT
        cases hT
        exact ev_neg (by decide) (Ev.bind awake07 (Ev.now _))
end Go.Proofs.Ytgjclhhjigflkaa.Pure
