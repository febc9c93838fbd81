/- Runs out of bytes: what the program's and the reference's Take come to. -/
import Derived.Test.YtgjclhhjigflkabMx13
import Derived.Test.YtgjclhhjigflkabMx14
import Derived.Test.YtgjclhhjigflkabEvRunsOf
namespace Go.Proofs.Ytgjclhhjigflkab.Ru
set_option linter.unusedVariables false
set_option linter.unusedSimpArgs false
open Go.RowKit Go.Proofs.Ytgjclhhjigflkab.M Go.Proofs.Ytgjclhhjigflkab.EvW Go.Proofs.Ytgjclhhjigflkab.Vi Go.Proofs.YtgjclhhjigflkabW.PrintWords Go.Proofs.YtgjclhhjigflkabW.PrintLast Go.Proofs.YtgjclhhjigflkabW.PrintMore
def takeG : Nat → List UInt8 → Int → Int → List T → List T × Int
  | 0, _, _, _, _ => ([], 20)
  | d + 1, s, n, first, out =>
    if s = [] then (if (cnt 0 none out).2 = true ∧ first = n then (out, 0) else ([], 20))
    else if (takeS [] s).2.2 = 0 then
      if (takeS [] (s.drop (takeS [] s).2.1.toNat)).2.2 = 0 then
        if (takeS [] (s.drop (takeS [] s).2.1.toNat)).1 < 1 then ([], 20)
        else if (takeS [] (s.drop (takeS [] s).2.1.toNat)).1 > n - first then ([], 20)
        else takeG d (s.drop ((takeS [] s).2.1.toNat + (takeS [] (s.drop (takeS [] s).2.1.toNat)).2.1.toNat)) n (first + (takeS [] (s.drop (takeS [] s).2.1.toNat)).1) (out ++ [⟨(takeS [] s).1, first, (takeS [] (s.drop (takeS [] s).2.1.toNat)).1⟩])
      else ([], 20)
    else ([], 20)
theorem used_of (s : List UInt8) (h : (takeS [] s).2.2 = 0) : wf64 (takeS [] s).1 ∧ 0 < (takeS [] s).2.1 ∧ (takeS [] s).2.1 ≤ 10 ∧ (takeS [] s).2.1 ≤ (s.length : Int) ∧ vbu 9 (zz (takeS [] s).1) = s.take (takeS [] s).2.1.toNat := by
  have := takeS_ok s [] (by simp) (takeS [] s).1 (takeS [] s).2.1 (by rw [← h])
  simpa using this
theorem ext_drop (s : ByteArray) (n : Nat) : (s.extract n s.size).data.toList = s.data.toList.drop n := by
  rw [Lib.extract_data, List.take_of_length_le (by rw [List.length_drop, data_length]; omega)]
theorem toList_nil (s : ByteArray) : s.toList = ([] : List UInt8) ↔ s.data.toList = [] := by rw [Lib.toList_data]
theorem take_l0' (n : Int) (hn : n ≤ 65536) (d : Nat) : ∀ (s : ByteArray) (first : Int) (out : List T), s.size < d → 0 ≤ first → first ≤ n → out.length + s.size ≤ 1000000 →
    Ev (fun k => runs_Take.l0 k s n out first) (takeG d s.data.toList n first out) := by
  induction d with
  | zero => intro s first out h; omega
  | succ d ih =>
    intro s first out h h0 h1 h2
    refine Ev.step (fun k => by rw [runs_Take.l0]) ?_
    rw [takeG]
    by_cases hs : s.data.toList = []
    · rw [if_pos hs]
      refine ev_pos ((toList_nil s).2 hs) ?_
      by_cases hc : (cnt 0 none out).2 = true
      · by_cases hf : first = n
        · rw [if_pos (show (cnt 0 none out).2 = true ∧ first = n from ⟨hc, hf⟩)]
          exact Ev.bind (count_ev out (by omega)) (ev_pos hc (ev_pos hf (Ev.now _)))
        · rw [if_neg (show ¬ ((cnt 0 none out).2 = true ∧ first = n) from fun h => hf h.2)]
          exact Ev.bind (count_ev out (by omega)) (ev_pos hc (ev_neg hf (Ev.now _)))
      · rw [if_neg (show ¬ ((cnt 0 none out).2 = true ∧ first = n) from fun h => hc h.1)]
        exact Ev.bind (count_ev out (by omega)) (ev_neg hc (Ev.now _))
    · rw [if_neg hs]
      refine ev_neg (fun h => hs ((toList_nil s).1 h)) ?_
      have hsz : s.data.toList.length = s.size := data_length s
      by_cases e1 : (takeS [] s.data.toList).2.2 = 0
      · obtain ⟨u1, u2, u3, u4, u5⟩ := used_of _ e1
        rw [if_pos e1]
        refine Ev.bind (take_ev s) (ev_pos e1 (ev_pos (by omega) (ev_pos (by omega) ?_)))
        have ht : Ev (fun k => vint_Take.f k (s.extract ((takeS [] s.data.toList).2.1 : Int).toNat s.size)) (takeS [] (s.data.toList.drop (takeS [] s.data.toList).2.1.toNat)) := by
          have := take_ev (s.extract ((takeS [] s.data.toList).2.1 : Int).toNat s.size)
          rw [ext_drop] at this
          exact this
        refine Ev.bind ht ?_
        by_cases e2 : (takeS [] (s.data.toList.drop (takeS [] s.data.toList).2.1.toNat)).2.2 = 0
        · obtain ⟨v1, v2, v3, v4, v5⟩ := used_of _ e2
          rw [List.length_drop] at v4
          rw [if_pos e2]
          refine ev_pos e2 ?_
          unfold wf64 at v1
          by_cases c1 : (takeS [] (s.data.toList.drop (takeS [] s.data.toList).2.1.toNat)).1 < 1
          · rw [if_pos c1]
            exact ev_pos c1 (Ev.now _)
          · rw [if_neg c1]
            refine ev_neg c1 ?_
            rw [w64 (n - first) (by omega) (by omega)]
            by_cases c2 : (takeS [] (s.data.toList.drop (takeS [] s.data.toList).2.1.toNat)).1 > n - first
            · rw [if_pos c2]
              exact ev_pos c2 (Ev.now _)
            · rw [if_neg c2]
              refine ev_neg c2 (ev_pos (by omega) ?_)
              rw [w64 ((takeS [] s.data.toList).2.1 + (takeS [] (s.data.toList.drop (takeS [] s.data.toList).2.1.toNat)).2.1) (by omega) (by omega), w64 (first + (takeS [] (s.data.toList.drop (takeS [] s.data.toList).2.1.toNat)).1) (by omega) (by omega)]
              refine ev_pos (by omega) (ev_pos (by omega) ?_)
              have hx : (s.extract ((takeS [] s.data.toList).2.1 + (takeS [] (s.data.toList.drop (takeS [] s.data.toList).2.1.toNat)).2.1).toNat s.size).size = s.size - ((takeS [] s.data.toList).2.1.toNat + (takeS [] (s.data.toList.drop (takeS [] s.data.toList).2.1.toNat)).2.1.toNat) := by
                rw [ByteArray.size_extract]; omega
              have := ih (s.extract ((takeS [] s.data.toList).2.1 + (takeS [] (s.data.toList.drop (takeS [] s.data.toList).2.1.toNat)).2.1).toNat s.size) (first + (takeS [] (s.data.toList.drop (takeS [] s.data.toList).2.1.toNat)).1) (out ++ [⟨(takeS [] s.data.toList).1, first, (takeS [] (s.data.toList.drop (takeS [] s.data.toList).2.1.toNat)).1⟩]) (by omega) (by omega) (by omega) (by rw [hx]; simp; omega)
              rw [ext_drop, show ((takeS [] s.data.toList).2.1 + (takeS [] (s.data.toList.drop (takeS [] s.data.toList).2.1.toNat)).2.1).toNat = (takeS [] s.data.toList).2.1.toNat + (takeS [] (s.data.toList.drop (takeS [] s.data.toList).2.1.toNat)).2.1.toNat by omega] at this
              rw [show ((takeS [] s.data.toList).2.1 + (takeS [] (s.data.toList.drop (takeS [] s.data.toList).2.1.toNat)).2.1).toNat = (takeS [] s.data.toList).2.1.toNat + (takeS [] (s.data.toList.drop (takeS [] s.data.toList).2.1.toNat)).2.1.toNat by omega]
              exact this
        · rw [if_neg e2]
          exact ev_neg e2 (Ev.now _)
      · rw [if_neg e1]
        exact Ev.bind (take_ev s) (ev_neg e1 (Ev.now _))
theorem rtake_l0' (s : ByteArray) (hss : s.size ≤ 100000) (n : Int) (hn : n ≤ 65536) (d : Nat) : ∀ (at_ : Nat) (first : Int) (out : List T), s.size - at_ < d → at_ ≤ s.size → 0 ≤ first → first ≤ n → out.length + (s.size - at_) ≤ 1000000 →
    Ev (fun k => peristyleref10_Take.l0 k s n out (at_ : Int) first) (takeG d (s.data.toList.drop at_) n first out) := by
  have hsz : s.data.toList.length = s.size := data_length s
  induction d with
  | zero => intro s first out h; omega
  | succ d ih =>
    intro at_ first out h ha h0 h1 h2
    refine Ev.step (fun k => by rw [peristyleref10_Take.l0]) ?_
    rw [takeG]
    by_cases hs : s.data.toList.drop at_ = []
    · rw [if_pos hs]
      have hs2 : s.size ≤ at_ := by rw [← hsz]; exact List.drop_eq_nil_iff.1 hs
      refine ev_neg (by omega) ?_
      by_cases hf : first = n
      · refine ev_pos hf ?_
        by_cases hc : (cnt 0 none out).2 = true
        · rw [if_pos (show (cnt 0 none out).2 = true ∧ first = n from ⟨hc, hf⟩)]
          exact Ev.bind (may_ev out (by omega)) (ev_pos hc (Ev.now _))
        · rw [if_neg (show ¬ ((cnt 0 none out).2 = true ∧ first = n) from fun h => hc h.1)]
          exact Ev.bind (may_ev out (by omega)) (ev_neg hc (Ev.now _))
      · rw [if_neg (show ¬ ((cnt 0 none out).2 = true ∧ first = n) from fun h => hf h.2)]
        exact ev_neg hf (Ev.now _)
    · rw [if_neg hs]
      have hs2 : at_ < s.size := by
        rcases Nat.lt_or_ge at_ s.size with h | h
        · exact h
        · exact absurd (List.drop_of_length_le (by omega)) hs
      have ht1 : Ev (fun k => peristyleref02_Take.f k (s.extract (at_ : Int).toNat s.size)) (takeS [] (s.data.toList.drop at_)) := by
        have := rtake_ev (s.extract at_ s.size) (by rw [ByteArray.size_extract]; omega)
        rw [ext_drop] at this
        exact this
      obtain ⟨S, hS⟩ : ∃ S, s.data.toList.drop at_ = S := ⟨_, rfl⟩
      rw [hS] at ht1 ⊢
      have hSl : S.length = s.size - at_ := by rw [← hS, List.length_drop, hsz]
      refine ev_pos (by omega) (ev_pos (by omega) (ev_pos (by omega) (Ev.bind ht1 ?_)))
      by_cases e1 : (takeS [] S).2.2 = 0
      · obtain ⟨u1, u2, u3, u4, u5⟩ := used_of _ e1
        rw [if_pos e1]
        rw [w64 ((at_ : Int) + (takeS [] S).2.1) (by omega) (by omega)]
        refine ev_pos e1 (ev_pos (by omega) (ev_pos (by omega) ?_))
        have hat2 : ((at_ : Int) + (takeS [] S).2.1).toNat = at_ + (takeS [] S).2.1.toNat := by omega
        have ht : Ev (fun k => peristyleref02_Take.f k (s.extract ((at_ : Int) + (takeS [] S).2.1).toNat s.size)) (takeS [] (S.drop (takeS [] S).2.1.toNat)) := by
          have := rtake_ev (s.extract ((at_ : Int) + (takeS [] S).2.1).toNat s.size) (by rw [ByteArray.size_extract]; omega)
          rw [ext_drop, hat2, ← List.drop_drop, hS] at this
          rw [hat2]
          exact this
        refine Ev.bind ht ?_
        by_cases e2 : (takeS [] (S.drop (takeS [] S).2.1.toNat)).2.2 = 0
        · obtain ⟨v1, v2, v3, v4, v5⟩ := used_of _ e2
          rw [List.length_drop] at v4
          rw [if_pos e2]
          refine ev_pos e2 ?_
          unfold wf64 at v1
          by_cases c1 : (takeS [] (S.drop (takeS [] S).2.1.toNat)).1 < 1
          · rw [if_pos c1]
            exact ev_pos c1 (Ev.now _)
          · rw [if_neg c1]
            refine ev_neg c1 ?_
            rw [w64 (n - first) (by omega) (by omega)]
            by_cases c2 : (takeS [] (S.drop (takeS [] S).2.1.toNat)).1 > n - first
            · rw [if_pos c2]
              exact ev_pos c2 (Ev.now _)
            · rw [if_neg c2]
              refine ev_neg c2 (ev_pos (by omega) ?_)
              have := ih (at_ + (takeS [] S).2.1.toNat + (takeS [] (S.drop (takeS [] S).2.1.toNat)).2.1.toNat) (first + (takeS [] (S.drop (takeS [] S).2.1.toNat)).1) (out ++ [⟨(takeS [] S).1, first, (takeS [] (S.drop (takeS [] S).2.1.toNat)).1⟩]) (by omega) (by omega) (by omega) (by omega) (by simp; omega)
              rw [Nat.add_assoc, ← List.drop_drop, hS] at this
              rw [w64 ((at_ : Int) + (takeS [] S).2.1 + (takeS [] (S.drop (takeS [] S).2.1.toNat)).2.1) (by omega) (by omega), w64 (first + (takeS [] (S.drop (takeS [] S).2.1.toNat)).1) (by omega) (by omega), show (at_ : Int) + (takeS [] S).2.1 + (takeS [] (S.drop (takeS [] S).2.1.toNat)).2.1 = ((at_ + ((takeS [] S).2.1.toNat + (takeS [] (S.drop (takeS [] S).2.1.toNat)).2.1.toNat) : Nat) : Int) by omega]
              exact this
        · rw [if_neg e2]
          exact ev_neg e2 (Ev.now _)
      · rw [if_neg e1]
        exact ev_neg e1 (Ev.now _)
def takeR (s : List UInt8) (n : Int) : List T × Int := if n < 0 ∨ n > 65536 then ([], 1) else takeG (s.length + 1) s n 0 []
theorem takeRuns_ev (s : ByteArray) (hs : s.size ≤ 100000) (n : Int) : Ev (fun k => runs_Take.f k s n) (takeR s.data.toList n) := by
  unfold takeR
  by_cases h1 : n < 0
  · rw [if_pos (.inl h1)]
    exact ev_pos h1 (Ev.step (fun k => by rw [runs_Take.j0]) (ev_pos rfl (Ev.now _)))
  · by_cases h2 : n > 65536
    · rw [if_pos (.inr h2)]
      exact ev_neg h1 (Ev.step (fun k => by rw [runs_Take.j0]) (ev_pos (decide_eq_true h2) (Ev.now _)))
    · rw [if_neg (by omega)]
      refine ev_neg h1 (Ev.step (fun k => by rw [runs_Take.j0]) (ev_neg (by simpa using h2) ?_))
      exact take_l0' n (by omega) _ s 0 [] (by rw [data_length]; omega) (by omega) (by omega) (by simp; omega)
theorem rtakeRuns_ev (s : ByteArray) (hs : s.size ≤ 100000) (n : Int) : Ev (fun k => peristyleref10_Take.f k s n) (takeR s.data.toList n) := by
  unfold takeR
  by_cases h1 : n < 0
  · rw [if_pos (.inl h1)]
    exact ev_pos h1 (Ev.step (fun k => by rw [peristyleref10_Take.j0]) (ev_pos rfl (Ev.now _)))
  · by_cases h2 : n > 65536
    · rw [if_pos (.inr h2)]
      exact ev_neg h1 (Ev.step (fun k => by rw [peristyleref10_Take.j0]) (ev_pos (decide_eq_true h2) (Ev.now _)))
    · rw [if_neg (by omega)]
      refine ev_neg h1 (Ev.step (fun k => by rw [peristyleref10_Take.j0]) (ev_neg (by simpa using h2) ?_))
      exact rtake_l0' s hs n (by omega) _ 0 0 [] (by rw [data_length]; omega) (by omega) (by omega) (by omega) (by simp; omega)
theorem takeG_len (n : Int) (d : Nat) : ∀ (s : List UInt8) (first : Int) (out : List T), (takeG d s n first out).1.length ≤ out.length + d := by
  induction d with
  | zero => intro s first out; simp [takeG]
  | succ d ih =>
    intro s first out
    rw [takeG]
    split
    · split
      · simp only; omega
      · simp
    · split
      · split
        · split
          · simp
          · split
            · simp
            · refine Nat.le_trans (ih _ _ _) ?_
              simp; omega
        · simp
      · simp
theorem takeG_ok (n : Int) (d : Nat) : ∀ (s : List UInt8) (first : Int) (out r : List T), takeG d s n first out = (r, 0) → (cnt 0 none r).2 = true ∧ ∃ q, r = out ++ q ∧ rputs q = s := by
  induction d with
  | zero => intro s first out r h; simp [takeG] at h
  | succ d ih =>
    intro s first out r h
    rw [takeG] at h
    split at h
    · rename_i hs
      split at h
      · rename_i hc
        simp only [Prod.mk.injEq, and_true] at h
        subst h hs
        exact ⟨hc.1, [], by simp, rfl⟩
      · simp at h
    · split at h
      · rename_i e1
        split at h
        · rename_i e2
          split at h
          · simp at h
          · split at h
            · simp at h
            · obtain ⟨g1, q, g2, g3⟩ := ih _ _ _ _ h
              refine ⟨g1, _ :: q, by rw [g2, List.append_assoc]; rfl, ?_⟩
              obtain ⟨u1, u2, u3, u4, u5⟩ := used_of _ e1
              obtain ⟨v1, v2, v3, v4, v5⟩ := used_of _ e2
              rw [rputs_cons, g3, rput, vput_data _ u1, vput_data _ v1, u5, v5, ← List.drop_drop, List.append_assoc, List.take_append_drop, List.take_append_drop]
        · simp at h
      · simp at h
theorem takeG_put (n : Int) : ∀ (r : List T) (first : Int) (p : Option Int) (out : List T) (d : Nat), cnt first p r = (n, true) → 0 ≤ first → first ≤ 65536 → (∀ q ∈ r, wf64 q.f0 ∧ wf64 q.f2) → (rputs r).length < d → (cnt 0 none (out ++ r)).2 = true →
    takeG d (rputs r) n first out = (out ++ r, 0) := by
  intro r
  induction r with
  | nil =>
    intro first p out d h h0 h1 hw hd hc
    obtain ⟨d, rfl⟩ : ∃ d', d = d' + 1 := ⟨d - 1, by omega⟩
    simp only [cnt, Prod.mk.injEq, and_true] at h
    rw [List.append_nil] at hc ⊢
    rw [takeG, if_pos (by rfl), if_pos ⟨hc, h⟩]
  | cons q r ih =>
    intro first p out d h h0 h1 hw hd hc
    obtain ⟨d, rfl⟩ : ∃ d', d = d' + 1 := ⟨d - 1, by omega⟩
    obtain ⟨w0, w2⟩ := hw q (by simp)
    have hz0 := zz_lt q.f0 w0
    have hz2 := zz_lt q.f2 w2
    have t0 := takeS_vbu (zz q.f0) hz0 (vbu 9 (zz q.f2) ++ rputs r)
    have t2 := takeS_vbu (zz q.f2) hz2 (rputs r)
    rw [uz_zz] at t0 t2
    have hl0 := vbu_len 9 (zz q.f0) (by rw [p64]; omega)
    have hl2 := vbu_len 9 (zz q.f2) (by rw [p64]; omega)
    rw [cnt] at h
    split at h
    · rename_i hcc
      obtain ⟨g1, g2, g3, g4⟩ := cnt_ok _ _ _ _ h (by omega) (by omega)
      have e : rputs (q :: r) = vbu 9 (zz q.f0) ++ (vbu 9 (zz q.f2) ++ rputs r) := by rw [rputs_cons, rput, vput_data _ w0, vput_data _ w2, List.append_assoc]
      rw [e] at hd ⊢
      rw [List.length_append, List.length_append] at hd
      have e0 : (vbu 9 (zz q.f0) ++ (vbu 9 (zz q.f2) ++ rputs r)).drop (vbu 9 (zz q.f0)).length = vbu 9 (zz q.f2) ++ rputs r := List.drop_left' rfl
      have e1 : (vbu 9 (zz q.f0) ++ (vbu 9 (zz q.f2) ++ rputs r)).drop ((vbu 9 (zz q.f0)).length + (vbu 9 (zz q.f2)).length) = rputs r := by rw [← List.drop_drop, e0]; exact List.drop_left' rfl
      have hne : vbu 9 (zz q.f0) ++ (vbu 9 (zz q.f2) ++ rputs r) ≠ [] := by
        intro he
        have := congrArg List.length he
        rw [List.length_append, List.length_nil] at this
        have := hl0.1
        omega
      rw [takeG, if_neg hne, t0]
      simp only [Int.toNat_natCast, e0, t2, if_true, e1]
      rw [if_neg (by omega), if_neg (by omega), ← hcc.1]
      have := ih (first + q.f2) (some q.f0) (out ++ [q]) d h (by omega) (by omega) (fun x hx => hw x (by simp [hx])) (by omega) (by rw [List.append_assoc]; exact hc)
      rw [List.append_assoc] at this
      rw [← hcc.1] at this
      exact this
    · simp at h
end Go.Proofs.Ytgjclhhjigflkab.Ru
