/- What the document's functions of tables come to: Super, table, May of one table (law 32). -/
import Derived.Test.YtgjclhhjigflkabCvRef2
import Derived.Test.YtgjclhhjigflkabCx2
namespace Go.Proofs.Ytgjclhhjigflkab.Sc
open Go Go.RowKit Go.Proofs.Ytgjclhhjigflkab.C Go.Proofs.Ytgjclhhjigflkab.Hand Go.Proofs.Ytgjclhhjigflkab.EvW Go.Proofs.YtgjclhhjigflkabW.PrintWords
set_option linter.unusedVariables false
set_option linter.unusedSimpArgs false
theorem super_l1 (t : Tab) (p : Prj) (hn : t.f1.length ≤ 1000000) (hl : p.f1.length ≤ 1000000) (c : Nat) (hc : c < t.f1.length) (b : Bool) (hno : ¬ (c : Int) ∈ p.f1 → b = false) (hk : (c : Int) ∈ p.f1 → Ev (fun k => peristyleref25_Super.l0 k ((c + 1 : Nat) : Int) t.f0 t.f1 t.f2 p.f0 p.f1 p.f2) b) :
    ∀ d j : Nat, j + d = p.f1.length → ∀ x : Bool, (x = true ↔ (c : Int) ∈ p.f1.take j) → Ev (fun k => peristyleref25_Super.l1 k (c : Int) x (j : Int) t.f0 t.f1 t.f2 p.f0 p.f1 p.f2) b
  | 0, j, hj, x, hx => by
    rw [List.take_of_length_le (by omega)] at hx
    cases x with
    | true => exact Ev.step (f := fun k => peristyleref25_Super.l0 k ((c + 1 : Nat) : Int) t.f0 t.f1 t.f2 p.f0 p.f1 p.f2) (fun k => by rw [peristyleref25_Super.l1, if_neg (by omega), if_pos rfl, w64 c (by omega)]) (hk (hx.1 rfl))
    | false =>
      rw [hno (fun h => by cases hx.2 h)]
      exact Ev.step (f := fun _ => some false) (fun k => by rw [peristyleref25_Super.l1, if_neg (by omega), if_neg (by decide)]) (Ev.now _)
  | d + 1, j, hj, x, hx => by
    have hlt : j < p.f1.length := by omega
    have ht : p.f1.take (j + 1) = p.f1.take j ++ [p.f1[j]] := (List.take_append_getElem hlt).symm
    cases x with
    | true =>
      refine Ev.step (f := fun k => peristyleref25_Super.l1 k (c : Int) true ((j + 1 : Nat) : Int) t.f0 t.f1 t.f2 p.f0 p.f1 p.f2) (fun k => by rw [peristyleref25_Super.l1, if_pos (by omega), if_pos rfl, w64 j (by omega)]) (super_l1 t p hn hl c hc b hno hk d (j + 1) (by omega) true ⟨fun _ => ?_, fun _ => rfl⟩)
      rw [ht]
      exact List.mem_append_left _ (hx.1 rfl)
    | false =>
      refine Ev.step (f := fun k => peristyleref25_Super.l1 k (c : Int) (p.f1[j] == (c : Int)) ((j + 1 : Nat) : Int) t.f0 t.f1 t.f2 p.f0 p.f1 p.f2) (fun k => by rw [peristyleref25_Super.l1, if_pos (by omega), if_neg (by decide), if_pos (by omega), rd_at _ j hlt, w64 j (by omega)]) (super_l1 t p hn hl c hc b hno hk d (j + 1) (by omega) _ ?_)
      have hx0 : ¬ (c : Int) ∈ p.f1.take j := fun h => by cases hx.2 h
      rw [ht, List.mem_append, List.mem_singleton, beq_iff_eq]
      exact ⟨fun h => Or.inr h.symm, fun h => h.elim (fun h => absurd h hx0) (fun h => h.symm)⟩
theorem super_l0 (t : Tab) (p : Prj) (hn : t.f1.length ≤ 1000000) (hl : p.f1.length ≤ 1000000) : ∀ d c : Nat, c + d = t.f1.length → ∀ b : Bool, (b = true ↔ (∀ m : Nat, c ≤ m → m < t.f1.length → (m : Int) ∈ p.f1) ∧ p.f1.length = t.f1.length) → Ev (fun k => peristyleref25_Super.l0 k (c : Int) t.f0 t.f1 t.f2 p.f0 p.f1 p.f2) b
  | 0, c, hc, b, hb => by
    have : b = ((p.f1.length : Int) == (t.f1.length : Int)) := by
      by_cases he : p.f1.length = t.f1.length
      · rw [he, beq_self_eq_true]
        exact hb.2 ⟨fun m h1 h2 => by omega, he⟩
      · have : ((p.f1.length : Int) == (t.f1.length : Int)) = false := by simpa using (by omega : ¬ (p.f1.length : Int) = t.f1.length)
        rw [this]
        exact bool_no (fun h => he (hb.1 h).2)
    rw [this]
    exact Ev.step (f := fun _ => some ((p.f1.length : Int) == (t.f1.length : Int))) (fun k => by rw [peristyleref25_Super.l0, if_neg (by omega)]) (Ev.now _)
  | d + 1, c, hc, b, hb => by
    have hlt : c < t.f1.length := by omega
    refine Ev.step (f := fun k => peristyleref25_Super.l1 k (c : Int) false ((0 : Nat) : Int) t.f0 t.f1 t.f2 p.f0 p.f1 p.f2) (fun k => by rw [peristyleref25_Super.l0, if_pos (by omega)]; rfl) (super_l1 t p hn hl c hlt b (fun h => bool_no (fun hb1 => h ((hb.1 hb1).1 c (Nat.le_refl _) hlt))) (fun h => super_l0 t p hn hl d (c + 1) (by omega) b ?_) p.f1.length 0 (Nat.zero_add _) false (by simp))
    refine ⟨fun hb1 => ⟨fun m h1 h2 => (hb.1 hb1).1 m (by omega) h2, (hb.1 hb1).2⟩, fun h2 => hb.2 ⟨fun m h3 h4 => ?_, h2.2⟩⟩
    by_cases he : m = c
    · rw [he]; exact h
    · exact h2.1 m (by omega) h4
theorem super_ev (t : Tab) (p : Prj) (hn : t.f1.length ≤ 1000000) (hl : p.f1.length ≤ 1000000) : Ev (fun k => peristyleref25_Super.f k t.f0 t.f1 t.f2 p.f0 p.f1 p.f2) (superP t p) := by
  unfold peristyleref25_Super.f
  refine super_l0 t p hn hl t.f1.length 0 (Nat.zero_add _) _ ?_
  unfold superP
  simp only [Bool.and_eq_true, decide_eq_true_eq, List.all_eq_true, List.mem_range]
  exact ⟨fun h => ⟨fun m _ h2 => h.1 m h2, h.2⟩, fun h => ⟨fun m h2 => h.1 m (Nat.zero_le _) h2, h.2⟩⟩
/-! ### table -/
theorem rdP_at (l : List Prj) (i : Nat) (h : i < l.length) : rd_T138 l (i : Int) = l[i] := by
  unfold rd_T138
  rw [Int.toNat_natCast, List.getD_eq_getElem?_getD, List.getElem?_eq_getElem h]
  rfl
theorem table_l1 (t : Tab) (hg : gtB t = true) (x : Bool) (i : Nat) (hi : i < t.f2.length) (b : Bool) (hn : b = true → ahead (·.f0) t.f2 i 0) (hk : ahead (·.f0) t.f2 i 0 → Ev (fun k => peristyleref25_table.l0 k x ((i + 1 : Nat) : Int) t.f0 t.f1 t.f2) b) (u : List Int) (v : Int) :
    ∀ d j : Nat, j + d = i → (∀ m a c, m < j → t.f2[m]? = some a → t.f2[i]? = some c → a.f0 ≠ c.f0) → Ev (fun k => peristyleref25_table.l1 k x (i : Int) (j : Int) t.f0 t.f1 t.f2 t.f2[i].f0 u v) b
  | 0, j, hj, hp => by
    have hp6 := (gtB_spec hg).p
    refine Ev.step (f := fun k => peristyleref25_table.l0 k x ((i + 1 : Nat) : Int) t.f0 t.f1 t.f2) (fun k => ?_) (hk (fun m a c _ hm hx hy => hp m a c (by omega) hx hy))
    rw [peristyleref25_table.l1, if_neg (by omega), w64 i (by omega)]
  | d + 1, j, hj, hp => by
    have hp6 := (gtB_spec hg).p
    have hjl : j < t.f2.length := by omega
    by_cases he : t.f2[j].f0 = t.f2[i].f0
    · obtain rfl := bool_no (fun h => hn h j _ _ (Nat.zero_le _) (by omega) (List.getElem?_eq_getElem hjl) (List.getElem?_eq_getElem hi) he)
      refine Ev.step (f := fun _ => some false) (fun k => ?_) (Ev.now _)
      rw [peristyleref25_table.l1, if_pos (by omega), if_pos (by omega), if_pos (by omega), rdP_at _ j hjl, if_pos (by rw [ba_eq]; exact he)]
    · refine Ev.step (f := fun k => peristyleref25_table.l1 k x (i : Int) ((j + 1 : Nat) : Int) t.f0 t.f1 t.f2 t.f2[i].f0 u v) (fun k => ?_) (table_l1 t hg x i hi b hn hk u v d (j + 1) (by omega) (fun m a c hm hx hy => ?_))
      · rw [peristyleref25_table.l1, if_pos (by omega), if_pos (by omega), if_pos (by omega), rdP_at _ j hjl, if_neg (by rw [ba_eq]; exact he), w64 j (by omega)]
      · by_cases hmj : m = j
        · subst hmj
          rw [List.getElem?_eq_getElem hjl] at hx
          rw [List.getElem?_eq_getElem hi] at hy
          injection hx with hx
          injection hy with hy
          rw [← hx, ← hy]
          exact he
        · exact hp m a c (by omega) hx hy
def goodAt (t : Tab) (m : Nat) (h : m < t.f2.length) : Prop := projP t.f2[m] t.f1.length = true ∧ ahead (·.f0) t.f2 m 0
theorem gt_ps {t : Tab} (hg : gtB t = true) : ∀ x ∈ t.f2, x.f0.size ≤ 1000000 ∧ x.f1.length ≤ 1000000 := by
  unfold gtB at hg
  simp only [Bool.and_eq_true, decide_eq_true_eq, List.all_eq_true] at hg
  exact hg.2
theorem gt_cs {t : Tab} (hg : gtB t = true) : t.f0.size ≤ 1000000 ∧ ∀ x ∈ t.f1, x.f0.size ≤ 1000000 := by
  unfold gtB at hg
  simp only [Bool.and_eq_true, decide_eq_true_eq, List.all_eq_true] at hg
  exact ⟨hg.1.1.1.1, hg.1.2⟩
theorem table_l0 (t : Tab) (hg : gtB t = true) : ∀ d i : Nat, i + d = t.f2.length → ∀ b x : Bool, (b = true ↔ (∀ (m : Nat) (h : m < t.f2.length), i ≤ m → goodAt t m h) ∧ (x = true ∨ ∃ (m : Nat) (h : m < t.f2.length), i ≤ m ∧ superP t t.f2[m] = true)) → Ev (fun k => peristyleref25_table.l0 k x (i : Int) t.f0 t.f1 t.f2) b
  | 0, i, hi, b, x, hb => by
    have : b = x := by
      cases x with
      | true => exact hb.2 ⟨fun m h h2 => by omega, Or.inl rfl⟩
      | false => exact bool_no (fun h => (hb.1 h).2.elim (fun h => by cases h) (fun ⟨m, h, h2, _⟩ => by omega))
    rw [this]
    exact Ev.step (f := fun _ => some x) (fun k => by rw [peristyleref25_table.l0, if_neg (by omega)]) (Ev.now _)
  | d + 1, i, hi, b, x, hb => by
    have hlt : i < t.f2.length := by omega
    have hps := gt_ps hg _ (List.getElem_mem hlt)
    have hp6 := (gtB_spec hg).p
    have hJ : projP t.f2[i] t.f1.length = true → ∀ y : Bool, (y = true ↔ x = true ∨ superP t t.f2[i] = true) → Ev (fun k => peristyleref25_table.j2 k y (i : Int) t.f0 t.f1 t.f2 t.f2[i].f0 t.f2[i].f1 t.f2[i].f2) b := by
      intro hpp y hy
      refine Ev.step (f := fun k => peristyleref25_table.l1 k y (i : Int) ((0 : Nat) : Int) t.f0 t.f1 t.f2 t.f2[i].f0 t.f2[i].f1 t.f2[i].f2) (fun k => by rw [peristyleref25_table.j2]; rfl) (table_l1 t hg y i hlt b (fun h => ((hb.1 h).1 i hlt (Nat.le_refl _)).2) (fun ha => table_l0 t hg d (i + 1) (by omega) b y ?_) _ _ i 0 (Nat.zero_add _) (fun m _ _ hm => by omega))
      constructor
      · intro h
        refine ⟨fun m h1 h2 => (hb.1 h).1 m h1 (by omega), ?_⟩
        rcases (hb.1 h).2 with h2 | ⟨m, h2, h3, h4⟩
        · exact Or.inl (hy.2 (Or.inl h2))
        · by_cases he : m = i
          · subst he; exact Or.inl (hy.2 (Or.inr h4))
          · exact Or.inr ⟨m, h2, by omega, h4⟩
      · rintro ⟨h1, h2⟩
        refine hb.2 ⟨fun m h3 h4 => ?_, ?_⟩
        · by_cases he : m = i
          · subst he; exact ⟨hpp, ha⟩
          · exact h1 m h3 (by omega)
        · rcases h2 with h2 | ⟨m, h2, h3, h4⟩
          · rcases hy.1 h2 with h5 | h5
            · exact Or.inl h5
            · exact Or.inr ⟨i, hlt, Nat.le_refl _, h5⟩
          · exact Or.inr ⟨m, h2, by omega, h4⟩
    refine Ev.step (f := fun k => (peristyleref25_Projection.f k t.f2[i].f0 t.f2[i].f1 t.f2[i].f2 (t.f1.length : Int)).bind fun r => if r = true then (if x = true then peristyleref25_table.j2 k true (i : Int) t.f0 t.f1 t.f2 t.f2[i].f0 t.f2[i].f1 t.f2[i].f2 else (peristyleref25_Super.f k t.f0 t.f1 t.f2 t.f2[i].f0 t.f2[i].f1 t.f2[i].f2).bind fun q => peristyleref25_table.j2 k q (i : Int) t.f0 t.f1 t.f2 t.f2[i].f0 t.f2[i].f1 t.f2[i].f2) else some false) (fun k => by rw [peristyleref25_table.l0, if_pos (by omega), if_pos (by omega), rdP_at _ i hlt]) ?_
    refine Ev.bind (proj_ev t.f2[i] t.f1.length hps.1 hps.2) ?_
    cases hpp : projP t.f2[i] t.f1.length with
    | false =>
      obtain rfl := bool_no (fun h => by have := ((hb.1 h).1 i hlt (Nat.le_refl _)).1; rw [hpp] at this; cases this)
      exact ev_neg (by decide) (Ev.now _)
    | true =>
      refine ev_pos rfl ?_
      cases x with
      | true => exact ev_pos rfl (hJ hpp true (by simp))
      | false =>
        refine ev_neg (by decide) (Ev.bind (super_ev t t.f2[i] (gtB_spec hg).c hps.2) (hJ hpp _ (by simp)))
theorem table_ev (t : Tab) (hg : gtB t = true) : Ev (fun k => peristyleref25_table.f k t.f0 t.f1 t.f2) (mayP t) := by
  have hp6 := (gtB_spec hg).p
  unfold peristyleref25_table.f
  have hj : ∀ x : Bool, (x = true ↔ ¬ (nameP t.f0 = true ∧ colsP t.f1 = true ∧ t.f2.length ≤ 6)) → Ev (fun k => peristyleref25_table.j0 k x t.f0 t.f1 t.f2) (mayP t) := by
    intro x hx
    cases x with
    | true =>
      have hn : mayP t = false := bool_no (fun hp => by
        unfold mayP at hp
        simp only [Bool.and_eq_true, decide_eq_true_eq] at hp
        exact hx.1 rfl ⟨hp.1.1.1.1.2, hp.1.1.1.2, hp.1.2⟩)
      rw [hn]
      exact Ev.step (f := fun _ => some false) (fun k => by rw [peristyleref25_table.j0, if_pos rfl]) (Ev.now _)
    | false =>
      have h : nameP t.f0 = true ∧ colsP t.f1 = true ∧ t.f2.length ≤ 6 := Classical.byContradiction (fun hc => by cases hx.2 hc)
      refine Ev.step (f := fun k => peristyleref25_table.l0 k false ((0 : Nat) : Int) t.f0 t.f1 t.f2) (fun k => by rw [peristyleref25_table.j0, if_neg (by decide)]; rfl) (table_l0 t hg t.f2.length 0 (Nat.zero_add _) _ false ?_)
      unfold mayP onceP goodAt
      simp only [Bool.and_eq_true, decide_eq_true_eq, List.all_eq_true, List.any_eq_true]
      rw [nodup_ahead]
      constructor
      · rintro ⟨⟨⟨⟨⟨h1, _⟩, _⟩, q, h2, h3⟩, _⟩, h4⟩
        refine ⟨fun m hm _ => ⟨h1 _ (List.getElem_mem hm), h4 m hm⟩, Or.inr ?_⟩
        obtain ⟨m, hm, rfl⟩ := List.getElem_of_mem h2
        exact ⟨m, hm, Nat.zero_le _, h3⟩
      · rintro ⟨h1, h2⟩
        rcases h2 with h2 | ⟨m, hm, _, h3⟩
        · cases h2
        · refine ⟨⟨⟨⟨⟨fun x hx => ?_, h.1⟩, h.2.1⟩, _, List.getElem_mem hm, h3⟩, h.2.2⟩, fun i hi => (h1 i hi (Nat.zero_le _)).2⟩
          obtain ⟨m, hm, rfl⟩ := List.getElem_of_mem hx
          exact (h1 m hm (Nat.zero_le _)).1
  refine Ev.bind (name_ev _ (gt_cs hg).1) ?_
  cases hn : nameP t.f0 with
  | false => exact ev_neg (by decide) (hj true (by rw [hn]; simp))
  | true =>
    rw [hn] at hj
    refine ev_pos rfl (Ev.bind (cols_ev _ (gtB_spec hg).c (gt_cs hg).2) ?_)
    cases hc : colsP t.f1 with
    | false => exact ev_neg (by decide) (hj true (by rw [hc]; simp))
    | true =>
      rw [hc] at hj
      refine ev_pos rfl (hj _ ?_)
      rw [decide_eq_true_eq]
      constructor
      · intro h; omega
      · intro h
        exact Classical.byContradiction (fun h2 => h ⟨rfl, rfl, by omega⟩)
theorem may1_ev (t : Tab) (hg : gtB t = true) : Ev (fun k => peristyleref25_May.f k [t]) (mayP t) := by
  unfold peristyleref25_May.f
  have e0 : rd_T63 [t] 0 = t := rfl
  have e1 : wrap64 (0 + 1) = 1 := w64 0 (by decide)
  refine Ev.step (f := fun k => (peristyleref25_table.f k t.f0 t.f1 t.f2).bind fun r => if r = true then peristyleref25_May.l1 k [t] 0 0 else some false) (fun k => by rw [peristyleref25_May.l0, if_pos (by simp), if_pos (by decide), e0]) ?_
  refine Ev.bind (table_ev t hg) ?_
  cases mayP t with
  | false => exact ev_neg (by decide) (Ev.now _)
  | true =>
    refine ev_pos rfl (Ev.step (f := fun k => peristyleref25_May.l0 k [t] 1) (fun k => by rw [peristyleref25_May.l1, if_neg (by decide), e1]) (Ev.step (f := fun _ => some true) (fun k => by rw [peristyleref25_May.l0, if_neg (by simp)]; rfl) (Ev.now _)))
theorem check1 (t : Tab) : checkP [t] = mayP t := by
  unfold checkP onceP
  simp
end Go.Proofs.Ytgjclhhjigflkab.Sc
