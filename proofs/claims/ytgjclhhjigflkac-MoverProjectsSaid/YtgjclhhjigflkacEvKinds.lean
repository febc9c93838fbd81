/- Mover: any columns of any rows, by the reference; the kinds of columns; light tables (one). -/
import Derived.Test.YtgjclhhjigflkacMx4
import Derived.Test.YtgjclhhjigflkacMx5
import Derived.Test.YtgjclhhjigflkacEvProject
namespace Go.Proofs.Ytgjclhhjigflkac.Mv
set_option linter.unusedVariables false
set_option linter.unusedSimpArgs false
open Go.RowKit Go.Proofs.Ytgjclhhjigflkac.M Go.Proofs.Ytgjclhhjigflkac.EvW Go.Proofs.Ytgjclhhjigflkac.Ru Go.Proofs.YtgjclhhjigflkacW.PrintWords Go.Proofs.YtgjclhhjigflkacW.PrintLast Go.Proofs.YtgjclhhjigflkacW.PrintMore
theorem same_l0 (l : List Int) (hl : l.length ≤ 1000000) (d : Nat) : ∀ i : Int, i + d = l.length → 0 ≤ i → Ev (fun k => peristyleref01_Same.l0 k l l i) true := by
  induction d with
  | zero =>
    intro i h1 h2
    exact Ev.step (fun k => by rw [peristyleref01_Same.l0]) (ev_neg (by omega) (Ev.now _))
  | succ d ih =>
    intro i h1 h2
    refine Ev.step (fun k => by rw [peristyleref01_Same.l0]) (ev_pos (by omega) (ev_pos h2 (ev_pos (by omega) (ev_pos rfl ?_))))
    rw [w64 _ (by omega) (by omega)]
    exact ih (i + 1) (by omega) (by omega)
theorem same_ev (l : List Int) (hl : l.length ≤ 1000000) : Ev (fun k => peristyleref01_Same.f k l l) true := ev_pos rfl (same_l0 l hl l.length 0 (by omega) (by omega))
/-! the reference's rows -/
def projN (row : List C) : List Int → Option (List C)
  | [] => some []
  | c :: l => if c < 0 then none else if c ≥ (row.length : Int) then none else (projN row l).map (rd_T98 row c :: ·)
theorem projN_eq (row : List C) : ∀ cols : List Int, (∀ x ∈ cols, 0 ≤ x) → projN row cols = projR row cols
  | [], _ => rfl
  | c :: l, h => by
    rw [projN, projR, if_neg (by have := h c (by simp); omega), projN_eq row l (fun x hx => h x (by simp [hx]))]
theorem projN_neg (row : List C) : ∀ cols : List Int, (∃ x ∈ cols, x < 0) → projN row cols = none
  | [], h => by obtain ⟨x, hx, _⟩ := h; simp at hx
  | c :: l, h => by
    rw [projN]
    split
    · rfl
    · rename_i hc
      split
      · rfl
      · rw [projN_neg row l (by
          obtain ⟨x, hx, h0⟩ := h
          rcases List.mem_cons.1 hx with h1 | h1
          · subst h1; exact absurd h0 hc
          · exact ⟨x, h1, h0⟩)]
        rfl
theorem projR_len (row : List C) : ∀ (cols : List Int) (o : List C), projR row cols = some o → o.length = cols.length
  | [], o, h => by rw [projR] at h; cases h; rfl
  | c :: l, o, h => by
    rw [projR] at h
    split at h
    · cases h
    · obtain ⟨o2, h1, h2⟩ := Option.map_eq_some_iff.1 h
      subst h2
      rw [List.length_cons, List.length_cons, projR_len row l o2 h1]
theorem projL_len (cols : List Int) : ∀ (rows o : List (List C)), projL cols rows = some o → o.length = rows.length ∧ ∀ x ∈ o, x.length = cols.length
  | [], o, h => by rw [projL] at h; cases h; exact ⟨rfl, by simp⟩
  | r :: l, o, h => by
    rw [projL] at h
    split at h
    · cases h
    · rename_i x hx
      obtain ⟨o2, h1, h2⟩ := Option.map_eq_some_iff.1 h
      subst h2
      obtain ⟨g1, g2⟩ := projL_len cols l o2 h1
      refine ⟨by rw [List.length_cons, List.length_cons, g1], fun y hy => ?_⟩
      rcases List.mem_cons.1 hy with h3 | h3
      · subst h3; exact projR_len r cols _ hx
      · exact g2 y h3
theorem projS_ok (rows : List (List C)) (cols : List Int) : (projS rows cols).1.length ≤ rows.length ∧ ∀ x ∈ (projS rows cols).1, x.length ≤ cols.length := by
  unfold projS
  split
  · exact ⟨by simp, by simp⟩
  · split
    · exact ⟨by simp, by simp⟩
    · rename_i o ho
      obtain ⟨g1, g2⟩ := projL_len cols rows o ho
      exact ⟨by simp only; omega, fun x hx => by have := g2 x hx; omega⟩
theorem rproject_l2 (cols : List Int) (out : List (List C)) (hl : cols.length ≤ 1000000) : ∀ (rest done : List Int), cols = done ++ rest →
    Ev (fun k => peristyleref27_Project.l2 k cols out (done.length : Int)) (if (rest.any fun x => decide (x < 0)) = true then ([], 1) else (out, 0)) := by
  intro rest
  induction rest with
  | nil =>
    intro done h
    exact Ev.step (fun k => by rw [peristyleref27_Project.l2]) (ev_neg (by rw [h]; simp) (Ev.congr (fun _ => by simp) (Ev.now _)))
  | cons c rest ih =>
    intro done h
    have hlen : cols.length = done.length + 1 + rest.length := by rw [h]; simp; omega
    have hr : rd cols (done.length : Int) = c := by rw [h]; exact rd_mid done rest c
    have hl2 : cols = (done ++ [c]) ++ rest := by rw [h]; simp
    have hw : wrap64 ((done.length : Int) + 1) = ((done ++ [c]).length : Int) := by rw [w64 _ (by omega) (by omega)]; simp
    refine Ev.step (fun k => by rw [peristyleref27_Project.l2, hr, hw]) (ev_pos (by omega) (ev_pos (by omega) ?_))
    by_cases c1 : c < 0
    · rw [show (if ((c :: rest).any fun x => decide (x < 0)) = true then (([], 1) : List (List C) × Int) else (out, 0)) = ([], 1) from if_pos (by simp [c1])]
      exact ev_pos c1 (Ev.now _)
    · have e : ((c :: rest).any fun x => decide (x < 0)) = (rest.any fun x => decide (x < 0)) := by rw [List.any_cons, decide_eq_false c1, Bool.false_or]
      rw [e]
      exact ev_neg c1 (ih (done ++ [c]) hl2)
theorem rproject_l1 (cols : List Int) (rows : List (List C)) (i : Nat) (hi : i < rows.length) (x6 : List (List C)) (R : List (List C) × Int) (hl : cols.length ≤ 1000000) (h6 : x6.length ≤ 1000000) : ∀ (rest done : List Int) (acc : List C), cols = done ++ rest → acc.length = done.length →
    (projN rows[i] rest = none → R = ([], 1)) → (∀ o, projN rows[i] rest = some o → Ev (fun k => peristyleref27_Project.l0 k rows cols (x6 ++ [acc ++ o]) (wrap64 ((i : Int) + 1))) R) →
    Ev (fun k => peristyleref27_Project.l1 k rows cols x6 (i : Int) acc (done.length : Int)) R := by
  intro rest
  induction rest with
  | nil =>
    intro done acc h ha hn hs
    have := hs [] rfl
    rw [List.append_nil] at this
    exact Ev.step (fun k => by rw [peristyleref27_Project.l1]) (ev_neg (by rw [h]; simp) (ev_pos (by omega) this))
  | cons c rest ih =>
    intro done acc h ha hn hs
    have hlen : cols.length = done.length + 1 + rest.length := by rw [h]; simp; omega
    have hr : rd cols (done.length : Int) = c := by rw [h]; exact rd_mid done rest c
    have hl2 : cols = (done ++ [c]) ++ rest := by rw [h]; simp
    have hw : wrap64 ((done.length : Int) + 1) = ((done ++ [c]).length : Int) := by rw [w64 _ (by omega) (by omega)]; simp
    refine Ev.step (fun k => by rw [peristyleref27_Project.l1, hr, hw, rdRow rows i hi]) (ev_pos (by omega) (ev_pos (by omega) ?_))
    rw [projN] at hn hs
    by_cases c0 : c < 0
    · rw [if_pos c0] at hn
      rw [hn rfl]
      exact ev_pos c0 (Ev.now _)
    · rw [if_neg c0] at hn hs
      refine ev_neg c0 (ev_pos (by omega) (ev_pos (by omega) ?_))
      by_cases c1 : c ≥ (rows[i].length : Int)
      · rw [if_pos c1] at hn
        rw [hn rfl]
        exact ev_pos c1 (Ev.now _)
      · rw [if_neg c1] at hn hs
        refine ev_neg c1 (ev_pos (by omega) (ev_pos (by omega) (ev_pos (by omega) ?_)))
        refine ih (done ++ [c]) (acc ++ [rd_T98 rows[i] c]) hl2 (by simp; omega) (fun hh => hn (by rw [hh]; rfl)) (fun o ho => ?_)
        have := hs (rd_T98 rows[i] c :: o) (by rw [ho]; rfl)
        rw [List.append_assoc, List.singleton_append]
        exact this
theorem rproject_l0 (cols : List Int) (rows : List (List C)) (hl : cols.length ≤ 1000000) (hr : rows.length ≤ 1000000) (R : List (List C) × Int) (d : Nat) : ∀ (i : Nat) (out : List (List C)), i + d = rows.length → out.length = i →
    (d = 0 → Ev (fun k => peristyleref27_Project.l2 k cols out 0) R) → ((∃ x ∈ cols, x < 0) → R = ([], 1)) → ((∀ x ∈ cols, 0 ≤ x) → R = (match projL cols (rows.drop i) with
      | none => ([], 1)
      | some o => (out ++ o, 0))) →
    Ev (fun k => peristyleref27_Project.l0 k rows cols out (i : Int)) R := by
  induction d with
  | zero =>
    intro i out h ho h2 hneg hpos
    exact Ev.step (fun k => by rw [peristyleref27_Project.l0]) (ev_neg (by omega) (h2 rfl))
  | succ d ih =>
    intro i out h ho h2 hneg hpos
    have hi : i < rows.length := by omega
    refine Ev.step (fun k => by rw [peristyleref27_Project.l0]) (ev_pos (by omega) ?_)
    refine rproject_l1 cols rows i hi out R hl (by omega) cols [] [] rfl rfl (fun hh => ?_) (fun o ho2 => ?_)
    · by_cases hc : ∃ x ∈ cols, x < 0
      · exact hneg hc
      · have hp : ∀ x ∈ cols, 0 ≤ x := fun x hx => by
          by_cases h0 : 0 ≤ x
          · exact h0
          · exact absurd ⟨x, hx, by omega⟩ hc
        rw [projN_eq _ _ hp] at hh
        rw [hpos hp, List.drop_eq_getElem_cons hi, projL, hh]
    · rw [w64 _ (by omega) (by omega)]
      have hp : ∀ x ∈ cols, 0 ≤ x := fun x hx => by
        by_cases h0 : 0 ≤ x
        · exact h0
        · rw [projN_neg _ _ ⟨x, hx, by omega⟩] at ho2; cases ho2
      rw [projN_eq _ _ hp] at ho2
      have hR := hpos hp
      rw [List.drop_eq_getElem_cons hi, projL, ho2] at hR
      have hnext := ih (i + 1) (out ++ [[] ++ o]) (by omega) (by simp; omega)
      rw [Int.natCast_add] at hnext
      refine hnext (fun hd => ?_) hneg (fun _ => ?_)
      · subst hd
        have h3 := rproject_l2 cols (out ++ [[] ++ o]) hl cols [] rfl
        have hany : ¬ (cols.any fun x => decide (x < 0)) = true := fun ha => by
          obtain ⟨x, hx, h0⟩ := List.any_eq_true.1 ha
          have := hp x hx
          have := of_decide_eq_true h0
          omega
        rw [if_neg hany] at h3
        rw [List.drop_eq_nil_of_le (by omega)] at hR
        simp only [projL, Option.map_some] at hR
        rw [hR]
        exact h3
      · rw [hR]
        cases projL cols (rows.drop (i + 1)) with
        | none => rfl
        | some q => simp
theorem rproject_ev (rows : List (List C)) (cols : List Int) (hl : cols.length ≤ 1000000) (hr : rows.length ≤ 1000000) : Ev (fun k => peristyleref27_Project.f k rows cols) (projS rows cols) := by
  have hs : ∀ x, x ∈ cols → x < 0 → (cols.any fun x => decide (x < 0)) = true := fun x hx h0 => List.any_eq_true.2 ⟨x, hx, decide_eq_true h0⟩
  refine rproject_l0 cols rows hl hr _ rows.length 0 [] (by omega) rfl (fun hd => ?_) (fun ⟨x, hx, h0⟩ => ?_) (fun hp => ?_)
  · have h3 := rproject_l2 cols [] hl cols [] rfl
    have : rows = [] := List.eq_nil_of_length_eq_zero hd
    subst this
    exact h3
  · unfold projS
    rw [if_pos (hs x hx h0)]
  · unfold projS
    rw [if_neg (fun ha => by
      obtain ⟨x, hx, h0⟩ := List.any_eq_true.1 ha
      have := hp x hx
      have := of_decide_eq_true h0
      omega)]
    rfl
/-! the kinds of columns -/
abbrev Cl := S96
def kindR (t : List Cl) : List Int → Option (List Int)
  | [] => some []
  | c :: l => if c < 0 then none else if c ≥ (t.length : Int) then none else (kindR t l).map ((rd_T96 t c).f1 :: ·)
theorem kindR_len (t : List Cl) : ∀ (cols o : List Int), kindR t cols = some o → o.length = cols.length
  | [], o, h => by rw [kindR] at h; cases h; rfl
  | c :: l, o, h => by
    rw [kindR] at h
    split at h
    · cases h
    · split at h
      · cases h
      · obtain ⟨o2, h1, h2⟩ := Option.map_eq_some_iff.1 h
        subst h2
        rw [List.length_cons, List.length_cons, kindR_len t l o2 h1]
def kindG (out : List Int) : Option (List Int) → List Int × Int
  | none => ([], 1)
  | some o => (out ++ o, 0)
theorem kinds_l0 (cols : List Int) (hl : cols.length ≤ 1000000) (n : ByteArray) (t : List Cl) (p : List S52) : ∀ (rest done out : List Int), cols = done ++ rest → out.length = done.length →
    Ev (fun k => mover_Kinds.l0 k out cols (cols.length : Int) (done.length : Int) n t p) (kindG out (kindR t rest)) := by
  intro rest
  induction rest with
  | nil =>
    intro done out h ho
    exact Ev.step (fun k => by rw [mover_Kinds.l0]) (ev_neg (by rw [h]; simp) (Ev.congr (fun _ => by simp [kindR, kindG]) (Ev.now _)))
  | cons c rest ih =>
    intro done out h ho
    have hlen : cols.length = done.length + 1 + rest.length := by rw [h]; simp; omega
    have hr : rd cols (done.length : Int) = c := by rw [h]; exact rd_mid done rest c
    have hl2 : cols = (done ++ [c]) ++ rest := by rw [h]; simp
    have hw : wrap64 ((done.length : Int) + 1) = ((done ++ [c]).length : Int) := by rw [w64 _ (by omega) (by omega)]; simp
    refine Ev.step (fun k => by rw [mover_Kinds.l0, hr, hw]) (ev_pos (by omega) (ev_pos (by omega) (ev_pos (by omega) ?_)))
    rw [kindR]
    by_cases c0 : c < 0
    · rw [if_pos c0]; exact ev_pos c0 (Ev.now _)
    · refine ev_neg c0 ?_
      rw [if_neg c0]
      by_cases c1 : c ≥ (t.length : Int)
      · rw [if_pos c1]; exact ev_pos c1 (Ev.now _)
      · refine ev_neg c1 (ev_pos (by omega) (ev_pos (by omega) (ev_pos (by omega) ?_)))
        rw [if_neg c1]
        have := ih (done ++ [c]) (out ++ [(rd_T96 t c).f1]) hl2 (by simp; omega)
        cases hq : kindR t rest with
        | none => rw [hq] at this; exact this
        | some q =>
          rw [hq] at this
          simp only [kindG, List.append_assoc, List.singleton_append] at this
          exact this
theorem rkinds_l0 (cols : List Int) (hl : cols.length ≤ 1000000) (n m : ByteArray) (t : List Cl) (p : List S52) (z : Int) : ∀ (rest done out : List Int), cols = done ++ rest → out.length = done.length →
    Ev (fun k => peristyleref27_Kinds.l0 k out (done.length : Int) n t p m cols z) (kindG out (kindR t rest)) := by
  intro rest
  induction rest with
  | nil =>
    intro done out h ho
    exact Ev.step (fun k => by rw [peristyleref27_Kinds.l0]) (ev_neg (by rw [h]; simp) (Ev.congr (fun _ => by simp [kindR, kindG]) (Ev.now _)))
  | cons c rest ih =>
    intro done out h ho
    have hlen : cols.length = done.length + 1 + rest.length := by rw [h]; simp; omega
    have hr : rd cols (done.length : Int) = c := by rw [h]; exact rd_mid done rest c
    have hl2 : cols = (done ++ [c]) ++ rest := by rw [h]; simp
    have hw : wrap64 ((done.length : Int) + 1) = ((done ++ [c]).length : Int) := by rw [w64 _ (by omega) (by omega)]; simp
    refine Ev.step (fun k => by rw [peristyleref27_Kinds.l0, hr, hw]) (ev_pos (by omega) (ev_pos (by omega) ?_))
    rw [kindR]
    by_cases c0 : c < 0
    · rw [if_pos c0]; exact ev_pos c0 (Ev.now _)
    · refine ev_neg c0 ?_
      rw [if_neg c0]
      by_cases c1 : c ≥ (t.length : Int)
      · rw [if_pos c1]; exact ev_pos c1 (Ev.now _)
      · refine ev_neg c1 (ev_pos (by omega) (ev_pos (by omega) (ev_pos (by omega) ?_)))
        rw [if_neg c1]
        have := ih (done ++ [c]) (out ++ [(rd_T96 t c).f1]) hl2 (by simp; omega)
        cases hq : kindR t rest with
        | none => rw [hq] at this; exact this
        | some q =>
          rw [hq] at this
          simp only [kindG, List.append_assoc, List.singleton_append] at this
          exact this
theorem kindG_len (t : List Cl) (cols : List Int) : (kindG [] (kindR t cols)).1.length ≤ cols.length := by
  cases h : kindR t cols with
  | none => simp [kindG]
  | some o => have := kindR_len t cols o h; simp [kindG]; omega
/-! is a table light? -/
theorem tlight_l2 (n : ByteArray) (t : List Cl) (p : List S52) (L : List S47) (hL : L.length = 1) (hp : p.length ≤ maxLen) (d : Nat) : ∀ i : Nat, i + d = p.length → ∃ b, Ev (fun k => peristyleref25_Light.l2 k L 0 (i : Int) n t p) b := by
  unfold maxLen at hp
  induction d with
  | zero =>
    intro i h
    refine ⟨decide ((L.length : Int) ≤ 10), Ev.step (fun k => by rw [peristyleref25_Light.l2]) (ev_neg (by omega) ?_)⟩
    rw [w64 _ (by omega) (by omega)]
    exact Ev.step (fun k => by rw [peristyleref25_Light.l0]) (ev_neg (by omega) (Ev.step (fun k => by rw [peristyleref25_Light.j1]) (ev_neg Bool.false_ne_true (Ev.now _))))
  | succ d ih =>
    intro i h
    obtain ⟨b, hb⟩ := ih (i + 1) (by omega)
    rw [Int.natCast_add] at hb
    by_cases c1 : ((rd_T52 p (i : Int)).f0.size : Int) > 40
    · exact ⟨false, Ev.step (fun k => by rw [peristyleref25_Light.l2]) (ev_pos (by omega) (ev_pos (by omega) (ev_pos c1 (Ev.now _))))⟩
    · by_cases c2 : ((rd_T52 p (i : Int)).f1.length : Int) > 12
      · exact ⟨false, Ev.step (fun k => by rw [peristyleref25_Light.l2]) (ev_pos (by omega) (ev_pos (by omega) (ev_neg c1 (ev_pos c2 (Ev.now _)))))⟩
      · refine ⟨b, Ev.step (fun k => by rw [peristyleref25_Light.l2]) (ev_pos (by omega) (ev_pos (by omega) (ev_neg c1 (ev_neg c2 ?_))))⟩
        rw [w64 _ (by omega) (by omega)]
        exact hb
theorem tlight_l1 (n : ByteArray) (t : List Cl) (p : List S52) (L : List S47) (hL : L.length = 1) (hp : p.length ≤ maxLen) (ht : t.length ≤ maxLen) (d : Nat) : ∀ i : Nat, i + d = t.length → ∃ b, Ev (fun k => peristyleref25_Light.l1 k L 0 (i : Int) n t p) b := by
  have ht2 := ht
  unfold maxLen at ht2
  induction d with
  | zero =>
    intro i h
    obtain ⟨b, hb0⟩ := tlight_l2 n t p L hL hp p.length 0 (by omega)
    have hb : Ev (fun k => peristyleref25_Light.l2 k L 0 0 n t p) b := hb0
    exact ⟨b, Ev.step (fun k => by rw [peristyleref25_Light.l1]) (ev_neg (by omega) hb)⟩
  | succ d ih =>
    intro i h
    obtain ⟨b, hb⟩ := ih (i + 1) (by omega)
    rw [Int.natCast_add] at hb
    by_cases c1 : ((rd_T96 t (i : Int)).f0.size : Int) > 40
    · exact ⟨false, Ev.step (fun k => by rw [peristyleref25_Light.l1]) (ev_pos (by omega) (ev_pos (by omega) (ev_pos c1 (Ev.now _))))⟩
    · refine ⟨b, Ev.step (fun k => by rw [peristyleref25_Light.l1]) (ev_pos (by omega) (ev_pos (by omega) (ev_neg c1 ?_)))⟩
      rw [w64 _ (by omega) (by omega)]
      exact hb
theorem tlight_ev (n : ByteArray) (t : List Cl) (p : List S52) (hp : p.length ≤ maxLen) (ht : t.length ≤ maxLen) : ∃ b, Ev (fun k => peristyleref25_Light.f k [(⟨n, t, p⟩ : S47)]) b := by
  have hr : rd_T47 [(⟨n, t, p⟩ : S47)] 0 = ⟨n, t, p⟩ := rfl
  obtain ⟨b, hb0⟩ := tlight_l1 n t p [(⟨n, t, p⟩ : S47)] rfl hp ht t.length 0 (by omega)
  have hb : Ev (fun k => peristyleref25_Light.l1 k [(⟨n, t, p⟩ : S47)] 0 0 n t p) b := hb0
  have hj : ∀ x, ∃ b, Ev (fun k => peristyleref25_Light.j2 k [(⟨n, t, p⟩ : S47)] 0 x n t p) b := by
    intro x
    cases x with
    | true => exact ⟨false, Ev.step (fun k => by rw [peristyleref25_Light.j2]) (ev_pos rfl (Ev.now _))⟩
    | false => exact ⟨b, Ev.step (fun k => by rw [peristyleref25_Light.j2]) (ev_neg Bool.false_ne_true hb)⟩
  have h0 : ∀ b, Ev (fun k => if (n.size : Int) > 40 then peristyleref25_Light.j2 k [(⟨n, t, p⟩ : S47)] 0 true n t p else if (t.length : Int) > 12 then peristyleref25_Light.j2 k [(⟨n, t, p⟩ : S47)] 0 true n t p else peristyleref25_Light.j2 k [(⟨n, t, p⟩ : S47)] 0 (decide ((p.length : Int) > 10)) n t p) b → Ev (fun k => peristyleref25_Light.f k [(⟨n, t, p⟩ : S47)]) b := by
    intro b hb
    show Ev (fun k => peristyleref25_Light.l0 k [(⟨n, t, p⟩ : S47)] 0) b
    refine Ev.step (fun k => by rw [peristyleref25_Light.l0]) (ev_pos (by simp) ?_)
    refine Ev.step (fun k => by rw [peristyleref25_Light.j1, hr]) ?_
    exact ev_pos (by decide) (ev_pos (by omega) (ev_pos (by simp) hb))
  by_cases c1 : (n.size : Int) > 40
  · obtain ⟨b1, h1⟩ := hj true
    exact ⟨b1, h0 b1 (ev_pos c1 h1)⟩
  · by_cases c2 : (t.length : Int) > 12
    · obtain ⟨b1, h1⟩ := hj true
      exact ⟨b1, h0 b1 (ev_neg c1 (ev_pos c2 h1))⟩
    · obtain ⟨b1, h1⟩ := hj (decide ((p.length : Int) > 10))
      exact ⟨b1, h0 b1 (ev_neg c1 (ev_neg c2 h1))⟩
end Go.Proofs.Ytgjclhhjigflkac.Mv
