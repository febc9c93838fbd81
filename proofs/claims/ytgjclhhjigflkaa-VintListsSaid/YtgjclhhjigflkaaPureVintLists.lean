/- The law VintLists, plain. -/
import Derived.Test.YtgjclhhjigflkaaMx12
import Derived.Test.YtgjclhhjigflkaaEvVint
namespace Go.Proofs.Ytgjclhhjigflkaa.Pure
set_option linter.unusedVariables false
set_option linter.unusedSimpArgs false
open Go.RowKit Go.Proofs.Ytgjclhhjigflkaa.M Go.Proofs.Ytgjclhhjigflkaa.EvW Go.Proofs.Ytgjclhhjigflkaa.Vi Go.Proofs.YtgjclhhjigflkaaW.PrintWords Go.Proofs.YtgjclhhjigflkaaW.PrintLast
/-! the numbers that bytes begin with -/
def goS : Nat → List UInt8 → Nat → List Int → List Int × Int × Int
  | 0, _, at_, out => (out, (at_ : Int), 0)
  | n + 1, s, at_, out => if (takeS [] (s.drop at_)).2.2 = 0 then goS n s (at_ + (takeS [] (s.drop at_)).2.1.toNat) (out ++ [(takeS [] (s.drop at_)).1]) else ([], 0, 20)
def takeAllS (s : List UInt8) : List Int × Int × Int :=
  if (takeS [] s).2.2 = 0 ∧ 0 ≤ (takeS [] s).1 then (if (takeS [] s).1 > 65536 then ([], 0, 4) else goS (takeS [] s).1.toNat s (takeS [] s).2.1.toNat []) else ([], 0, 20)
theorem goS_length (s : List UInt8) (n : Nat) : ∀ at_ out, (goS n s at_ out).1.length ≤ out.length + n := by
  induction n with
  | zero => intro at_ out; simp [goS]
  | succ n ih =>
    intro at_ out
    rw [goS]
    split
    · have := ih (at_ + (takeS [] (s.drop at_)).2.1.toNat) (out ++ [(takeS [] (s.drop at_)).1])
      simp at this ⊢
      omega
    · simp
theorem takeAllS_length (s : List UInt8) : (takeAllS s).1.length ≤ 65536 := by
  unfold takeAllS
  split
  · split
    · simp
    · have := goS_length s (takeS [] s).1.toNat (takeS [] s).2.1.toNat []
      simp at this
      omega
  · simp
theorem vputs_cons (a : Int) (l : List Int) : vputs (a :: l) = (vputB a).data.toList ++ vputs l := by simp [vputs]
theorem goS_put (rest : List UInt8) (l : List Int) : ∀ (pre : List UInt8) (out : List Int), (∀ x ∈ l, wf64 x) → goS l.length (pre ++ vputs l ++ rest) pre.length out = (out ++ l, ((pre ++ vputs l).length : Int), 0) := by
  induction l with
  | nil => intro pre out _; simp [goS, vputs]
  | cons a l ih =>
    intro pre out h
    have ha := h a (by simp)
    have ht := takeS_vbu (zz a) (zz_lt a ha) (vputs l ++ rest)
    rw [← vput_data a ha, uz_zz] at ht
    rw [List.length_cons, goS, vputs_cons, show pre ++ ((vputB a).data.toList ++ vputs l) ++ rest = pre ++ ((vputB a).data.toList ++ (vputs l ++ rest)) by simp, List.drop_left' rfl, ht, if_pos rfl]
    have := ih (pre ++ (vputB a).data.toList) (out ++ [a]) (fun x hx => h x (by simp [hx]))
    rw [show pre ++ (vputB a).data.toList ++ vputs l ++ rest = pre ++ ((vputB a).data.toList ++ (vputs l ++ rest)) by simp, List.length_append] at this
    rw [Int.toNat_natCast, this]
    simp
theorem takeAll_of (s : List UInt8) (n at_ : Int) (h : takeS [] s = (n, at_, 0)) (h0 : 0 ≤ n) (h1 : n ≤ 65536) : takeAllS s = goS n.toNat s at_.toNat [] := by
  unfold takeAllS
  simp only [h]
  rw [if_pos ⟨True.intro, h0⟩, if_neg (by omega)]
theorem takeAll_put (l : List Int) (rest : List UInt8) (h : ∀ x ∈ l, wf64 x) (hl : l.length ≤ 65536) : takeAllS (vputs [(l.length : Int)] ++ vputs l ++ rest) = (l, ((vputs [(l.length : Int)] ++ vputs l).length : Int), 0) := by
  obtain ⟨n, hn⟩ : ∃ n : Int, n = (l.length : Int) := ⟨_, rfl⟩
  rw [← hn]
  have hw : wf64 n := by unfold wf64; omega
  have ht := takeS_vbu (zz n) (zz_lt _ hw) (vputs l ++ rest)
  rw [← vput_data _ hw, uz_zz] at ht
  have e1 : vputs [n] = (vputB n).data.toList := by simp [vputs]
  have hg := goS_put rest l (vputs [n]) [] h
  have := takeAll_of (vputs [n] ++ vputs l ++ rest) n _ (by rw [List.append_assoc, e1]; exact ht) (by omega) (by omega)
  rw [this, show n.toNat = l.length by omega, Int.toNat_natCast, ← e1, hg, List.nil_append]
theorem ext_drop (s : ByteArray) (n : Nat) : (s.extract n s.size).data.toList = s.data.toList.drop n := by
  rw [Lib.extract_data, List.take_of_length_le (by rw [List.length_drop, data_length]; omega)]
/-- one step of either taking -/
theorem goS_used (s : List UInt8) (at_ : Nat) (hat : at_ ≤ s.length) (h : (takeS [] (s.drop at_)).2.2 = 0) : 0 < (takeS [] (s.drop at_)).2.1 ∧ at_ + (takeS [] (s.drop at_)).2.1.toNat ≤ s.length := by
  obtain ⟨h1, h2, h3, h4, h5⟩ := takeS_ok (s.drop at_) [] (by simp) _ _ (show takeS [] (s.drop at_) = ((takeS [] (s.drop at_)).1, (takeS [] (s.drop at_)).2.1, 0) by rw [← h])
  rw [List.nil_append, List.length_drop] at h4
  simp at h2
  omega
theorem vtake_l0 (s : ByteArray) (hs : s.size ≤ 1000000) (N : Int) (d : Nat) : ∀ (at_ : Nat) (out : List Int) (i : Int), i + d = N → 0 ≤ i → N ≤ 65536 → at_ ≤ s.size → out.length + d ≤ 65536 →
    Ev (fun k => vint_TakeAll.l0 k s (at_ : Int) out N i) (goS d s.data.toList at_ out) := by
  induction d with
  | zero =>
    intro at_ out i h1 h2 h3 h4 h5
    refine Ev.step (fun k => ?_) (Ev.now _)
    rw [vint_TakeAll.l0, if_neg (by omega)]
    rfl
  | succ d ih =>
    intro at_ out i h1 h2 h3 h4 h5
    have ht : Ev (fun k => vint_Take.f k (s.extract (at_ : Int).toNat s.size)) (takeS [] (s.data.toList.drop at_)) := by
      have ht := take_ev (s.extract at_ s.size)
      rw [ext_drop] at ht
      exact ht
    refine Ev.step (fun k => by rw [vint_TakeAll.l0]) (ev_pos (by omega) (ev_pos (by omega) (ev_pos (by omega) (Ev.bind ht ?_))))
    rw [goS]
    by_cases he : (takeS [] (s.data.toList.drop at_)).2.2 = 0
    · rw [if_pos he]
      obtain ⟨hu, hu2⟩ := goS_used s.data.toList at_ (by rw [data_length]; exact h4) he
      rw [data_length] at hu2
      refine ev_pos he (ev_pos (by omega) ?_)
      have := ih (at_ + (takeS [] (s.data.toList.drop at_)).2.1.toNat) (out ++ [(takeS [] (s.data.toList.drop at_)).1]) (i + 1) (by omega) (by omega) h3 (by omega) (by simp; omega)
      rw [w64 (i + 1) (by omega) (by omega), w64 _ (by omega) (by omega), show (at_ : Int) + (takeS [] (s.data.toList.drop at_)).2.1 = ((at_ + (takeS [] (s.data.toList.drop at_)).2.1.toNat : Nat) : Int) by omega]
      exact this
    · rw [if_neg he]
      refine ev_neg he ?_
      rw [takeS_err _ _ he]
      exact Ev.now _
theorem vtakeAll_ev (s : ByteArray) (hs : s.size ≤ 1000000) : Ev (fun k => vint_TakeAll.f k s) (takeAllS s.data.toList) := by
  refine Ev.bind (take_ev s) ?_
  unfold takeAllS
  by_cases he : (takeS [] s.data.toList).2.2 = 0
  · refine ev_pos he (Ev.step (fun k => by rw [vint_TakeAll.j0]) ?_)
    by_cases hn : (takeS [] s.data.toList).1 < 0
    · rw [if_neg (by omega)]
      exact ev_pos (decide_eq_true hn) (Ev.now _)
    · rw [if_pos ⟨he, by omega⟩]
      refine ev_neg (by simp; omega) ?_
      by_cases hb : (takeS [] s.data.toList).1 > 65536
      · rw [if_pos hb]
        exact ev_pos hb (Ev.now _)
      · rw [if_neg hb]
        refine ev_neg hb ?_
        obtain ⟨hu, hu2⟩ := goS_used s.data.toList 0 (by omega) (by rw [List.drop_zero]; exact he)
        rw [List.drop_zero, data_length] at hu2
        rw [List.drop_zero] at hu
        have := vtake_l0 s hs (takeS [] s.data.toList).1 (takeS [] s.data.toList).1.toNat (takeS [] s.data.toList).2.1.toNat [] 0 (by omega) (by omega) (by omega) (by omega) (by simp; omega)
        rw [show (((takeS [] s.data.toList).2.1.toNat : Nat) : Int) = (takeS [] s.data.toList).2.1 by omega] at this
        exact this
  · rw [if_neg (fun h => he h.1)]
    exact ev_neg he (Ev.step (fun k => by rw [vint_TakeAll.j0, if_pos rfl]) (Ev.now _))
theorem rtake_l0' (s : ByteArray) (hs : s.size ≤ 1000000) (N : Int) (d : Nat) : ∀ (at_ : Nat) (out : List Int) (i : Int), i + d = N → 0 ≤ i → N ≤ 65536 → at_ ≤ s.size → out.length + d ≤ 65536 →
    Ev (fun k => peristyleref02_TakeAll.l0 k s N (at_ : Int) out i) (goS d s.data.toList at_ out) := by
  induction d with
  | zero =>
    intro at_ out i h1 h2 h3 h4 h5
    refine Ev.step (fun k => ?_) (Ev.now _)
    rw [peristyleref02_TakeAll.l0, if_neg (by omega)]
    rfl
  | succ d ih =>
    intro at_ out i h1 h2 h3 h4 h5
    have ht : Ev (fun k => peristyleref02_Take.f k (s.extract (at_ : Int).toNat s.size)) (takeS [] (s.data.toList.drop at_)) := by
      have ht := rtake_ev (s.extract at_ s.size) (by rw [ByteArray.size_extract]; omega)
      rw [ext_drop] at ht
      exact ht
    refine Ev.step (fun k => by rw [peristyleref02_TakeAll.l0]) (ev_pos (by omega) (ev_pos (by omega) (ev_pos (by omega) (Ev.bind ht ?_))))
    rw [goS]
    by_cases he : (takeS [] (s.data.toList.drop at_)).2.2 = 0
    · rw [if_pos he]
      obtain ⟨hu, hu2⟩ := goS_used s.data.toList at_ (by rw [data_length]; exact h4) he
      rw [data_length] at hu2
      refine ev_pos he (ev_pos (by omega) ?_)
      have := ih (at_ + (takeS [] (s.data.toList.drop at_)).2.1.toNat) (out ++ [(takeS [] (s.data.toList.drop at_)).1]) (i + 1) (by omega) (by omega) h3 (by omega) (by simp; omega)
      rw [w64 (i + 1) (by omega) (by omega), w64 _ (by omega) (by omega), show (at_ : Int) + (takeS [] (s.data.toList.drop at_)).2.1 = ((at_ + (takeS [] (s.data.toList.drop at_)).2.1.toNat : Nat) : Int) by omega]
      exact this
    · rw [if_neg he]
      exact ev_neg he (Ev.now _)
theorem rtakeAll_ev (s : ByteArray) (hs : s.size ≤ 1000000) : Ev (fun k => peristyleref02_TakeAll.f k s) (takeAllS s.data.toList) := by
  refine Ev.bind (rtake_ev s (by omega)) ?_
  unfold takeAllS
  by_cases he : (takeS [] s.data.toList).2.2 = 0
  · refine ev_pos he (Ev.step (fun k => by rw [peristyleref02_TakeAll.j0]) ?_)
    by_cases hn : (takeS [] s.data.toList).1 < 0
    · rw [if_neg (by omega)]
      exact ev_pos (decide_eq_true hn) (Ev.now _)
    · rw [if_pos ⟨he, by omega⟩]
      refine ev_neg (by simp; omega) ?_
      by_cases hb : (takeS [] s.data.toList).1 > 65536
      · rw [if_pos hb]
        exact ev_pos hb (Ev.now _)
      · rw [if_neg hb]
        refine ev_neg hb ?_
        obtain ⟨hu, hu2⟩ := goS_used s.data.toList 0 (by omega) (by rw [List.drop_zero]; exact he)
        rw [List.drop_zero, data_length] at hu2
        rw [List.drop_zero] at hu
        have := rtake_l0' s hs (takeS [] s.data.toList).1 (takeS [] s.data.toList).1.toNat (takeS [] s.data.toList).2.1.toNat [] 0 (by omega) (by omega) (by omega) (by omega) (by simp; omega)
        rw [show (((takeS [] s.data.toList).2.1.toNat : Nat) : Int) = (takeS [] s.data.toList).2.1 by omega] at this
        exact this
  · rw [if_neg (fun h => he h.1)]
    exact ev_neg he (Ev.step (fun k => by rw [peristyleref02_TakeAll.j0, if_pos rfl]) (Ev.now _))
theorem same_l0 (l : List Int) (hl : l.length ≤ 1000000) (d : Nat) : ∀ i : Int, i + d = l.length → 0 ≤ i → Ev (fun k => peristyleref01_Same.l0 k l l i) true := by
  induction d with
  | zero =>
    intro i h1 h2
    refine Ev.step (fun k => by rw [peristyleref01_Same.l0]) (ev_neg (by omega) (Ev.now _))
  | succ d ih =>
    intro i h1 h2
    refine Ev.step (fun k => by rw [peristyleref01_Same.l0]) (ev_pos (by omega) (ev_pos h2 (ev_pos (by omega) (ev_pos rfl ?_))))
    rw [w64 _ (by omega) (by omega)]
    exact ih (i + 1) (by omega) (by omega)
theorem same_ev (l : List Int) (hl : l.length ≤ 1000000) : Ev (fun k => peristyleref01_Same.f k l l) true := ev_pos rfl (same_l0 l hl l.length 0 (by omega) (by omega))
theorem rputAll_l0 (l : List Int) (hl : l.length ≤ 100) (hw : ∀ x ∈ l, wf64 x) (d : Nat) : ∀ (i : Nat) (acc : ByteArray), i + d = l.length → acc.size + 10 * d ≤ 1000000 →
    Ev (fun k => peristyleref02_PutAll.l0 k l acc (i : Int)) ⟨(acc.data.toList ++ vputs (l.drop i)).toArray⟩ := by
  induction d with
  | zero =>
    intro i acc h1 h2
    refine Ev.step (fun k => ?_) (Ev.now _)
    rw [peristyleref02_PutAll.l0, if_neg (by omega), List.drop_of_length_le (by omega)]
    simp [vputs]
  | succ d ih =>
    intro i acc h1 h2
    have hlt : i < l.length := by omega
    have hrd : rd l (i : Int) = l[i] := by
      unfold rd
      rw [Int.toNat_natCast, List.getD_eq_getElem?_getD, List.getElem?_eq_getElem hlt]
      rfl
    have hsz := vputB_size l[i]
    have hr : Ev (fun k => peristyleref02_Put.f k (rd l (i : Int))) (vputB l[i]) := by rw [hrd]; exact rput_ev _ (hw _ (List.getElem_mem hlt))
    refine Ev.step (fun k => by rw [peristyleref02_PutAll.l0]) (ev_pos (by omega) (ev_pos (by omega) (Ev.bind hr ?_)))
    refine ev_pos (by omega) ?_
    have := ih (i + 1) (acc ++ vputB l[i]) (by omega) (by rw [ByteArray.size_append]; omega)
    rw [w64 _ (by omega) (by omega), show (i : Int) + 1 = ((i + 1 : Nat) : Int) by omega]
    rw [List.drop_eq_getElem_cons hlt, vputs_cons, ← List.append_assoc]
    rw [ByteArray.data_append, Array.toList_append] at this
    exact this
theorem VintLists : peristylelaw02_VintLists.Pure := by
  intro l0 a1 _ _ hw hs
  have hw' : ∀ x ∈ l0, wf64 x := fun x hx => wf64_of x (hw x hx)
  refine Ev.rounds ?_
  have stop : Ev (fun k => peristylelaw02_VintLists.j0 k l0 a1 true) true := Ev.step (fun k => by rw [peristylelaw02_VintLists.j0]) (ev_pos rfl (Ev.bind awake_ev (Ev.now _)))
  by_cases h100 : (l0.length : Int) > 100
  · exact ev_pos h100 stop
  · refine ev_neg h100 ?_
    by_cases h512 : (a1.size : Int) > 512
    · rw [decide_eq_true h512]
      exact stop
    · rw [decide_eq_false h512]
      have hn : wf64 (l0.length : Int) := by unfold wf64; omega
      obtain ⟨T, hT⟩ : ∃ T : ByteArray, T = ⟨(vputs [(l0.length : Int)]).toArray⟩ ++ ⟨(vputs l0).toArray⟩ := ⟨_, rfl⟩
      have hTd : T.data.toList = vputs [(l0.length : Int)] ++ vputs l0 := by rw [hT, ByteArray.data_append, Array.toList_append]
      have hl1 := vputs_length [(l0.length : Int)]
      have hl2 := vputs_length l0
      have hTs : T.size = (vputs [(l0.length : Int)] ++ vputs l0).length := by rw [← data_length, hTd]
      have hTs2 : T.size ≤ 1010 := by rw [hTs, List.length_append]; simp at hl1; omega
      have hput : vint_PutAll.f l0 = some T := by
        have e : ∀ l : List Int, (⟨(vputs l).toArray⟩ : ByteArray).size = (vputs l).length := fun l => by simp [ByteArray.size]
        rw [vint_PutAll.f, vint_puts.f, vint_puts.f, if_pos (by simp), Option.bind_some, if_pos (by omega), Option.bind_some, if_pos (by rw [e, e]; simp at hl1; omega), hT]
      have hrput : Ev (fun k => peristyleref02_PutAll.f k l0) T := by
        have hsz := vputB_size (l0.length : Int)
        refine Ev.bind (rput_ev _ hn) ?_
        have := rputAll_l0 l0 (by omega) hw' l0.length 0 (vputB (l0.length : Int)) (by omega) (by omega)
        rw [List.drop_zero, show (vputB (l0.length : Int)).data.toList = vputs [(l0.length : Int)] by simp [vputs], ← hTd] at this
        exact this
      have htk := vtakeAll_ev (T ++ a1) (by rw [ByteArray.size_append]; omega)
      rw [ByteArray.data_append, Array.toList_append, hTd, takeAll_put l0 a1.data.toList hw' (by omega)] at htk
      refine Ev.step (fun k => by rw [peristylelaw02_VintLists.j0]) (ev_neg (by decide) (Ev.congr (fun k => by rw [hput, Option.bind_some]) (ev_pos (by omega) (Ev.bind htk (Ev.bind hrput ?_)))))
      refine ev_pos rfl (Ev.bind (same_ev l0 (by omega)) ?_)
      refine ev_pos rfl ?_
      refine ev_pos (show ((vputs [(l0.length : Int)] ++ vputs l0).length : Int) = (T.size : Int) by rw [hTs]) ?_
      refine Ev.step (fun k => by rw [peristylelaw02_VintLists.j1]) (ev_neg (show ¬ (((0 : Int) != 0) = true) by decide) (Ev.bind (vtakeAll_ev a1 (by omega)) (Ev.bind (rtakeAll_ev a1 (by omega)) (Ev.bind (same_ev (takeAllS a1.data.toList).1 (by have := takeAllS_length a1.data.toList; omega)) (ev_pos rfl (ev_pos rfl (ev_pos rfl (Ev.bind awake_ev (Ev.now _)))))))))
end Go.Proofs.Ytgjclhhjigflkaa.Pure
