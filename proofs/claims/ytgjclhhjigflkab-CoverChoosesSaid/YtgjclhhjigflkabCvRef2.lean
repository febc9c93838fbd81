/- What the document's functions of tables come to: Columns, Projection, Super (law 32). -/
import Derived.Test.YtgjclhhjigflkabCvRef1
import Derived.Test.YtgjclhhjigflkabCx2
namespace Go.Proofs.Ytgjclhhjigflkab.Sc
open Go Go.RowKit Go.Proofs.Ytgjclhhjigflkab.C Go.Proofs.Ytgjclhhjigflkab.Hand Go.Proofs.Ytgjclhhjigflkab.EvW Go.Proofs.YtgjclhhjigflkabW.PrintWords
set_option linter.unusedVariables false
set_option linter.unusedSimpArgs false
theorem bool_no {b : Bool} (h : b = true → False) : b = false := by
  cases b
  · rfl
  · exact (h rfl).elim
theorem cols_j1 (l : List Col) (hl : l.length ≤ 1000000) (i : Nat) (hi : i < l.length) (b x : Bool) (hx : x = !colP l[i]) (hn : b = true → colP l[i] = true ∧ ahead (·.f0) l i 0) (hk : colP l[i] = true → ahead (·.f0) l i 0 → Ev (fun k => peristyleref25_Columns.l0 k l ((i + 1 : Nat) : Int)) b) :
    Ev (fun k => peristyleref25_Columns.j1 k l (i : Int) x) b := by
  cases hc : colP l[i] with
  | false =>
    rw [hc] at hx hn
    obtain rfl := bool_no (fun h => by have := (hn h).1; cases this)
    subst hx
    exact Ev.step (f := fun _ => some false) (fun k => by rw [peristyleref25_Columns.j1, if_pos (by decide)]) (Ev.now _)
  | true =>
    rw [hc] at hx
    subst hx
    refine Ev.step (f := fun k => peristyleref25_Columns.l1 k l (i : Int) ((0 : Nat) : Int)) (fun k => by rw [peristyleref25_Columns.j1, if_neg (by decide)]; rfl) (cols_l1 l hl i hi b (fun h => (hn h).2) (hk hc) i 0 (Nat.zero_add _) (fun m _ _ hm => by omega))
theorem cols_l0 (l : List Col) (hl : l.length ≤ 1000000) (hs : ∀ x ∈ l, x.f0.size ≤ 1000000) : ∀ d i : Nat, i + d = l.length → ∀ b : Bool, (b = true ↔ (∀ (m : Nat) (h : m < l.length), i ≤ m → colP l[m] = true ∧ ahead (·.f0) l m 0) ∧ 1 ≤ l.length ∧ l.length ≤ 8) → Ev (fun k => peristyleref25_Columns.l0 k l (i : Int)) b
  | 0, i, hi, b, hb => by
    by_cases h1 : 1 ≤ l.length
    · refine Ev.step (f := fun _ => some (decide ((l.length : Int) ≤ 8))) (fun k => by rw [peristyleref25_Columns.l0, if_neg (by omega), if_pos (by omega)]) ?_
      have : b = decide ((l.length : Int) ≤ 8) := by
        by_cases h8 : l.length ≤ 8
        · rw [decide_eq_true (by omega)]
          exact hb.2 ⟨fun m h h2 => by omega, h1, h8⟩
        · rw [decide_eq_false (by omega)]
          exact bool_no (fun h => h8 (hb.1 h).2.2)
      rw [this]
      exact Ev.now _
    · obtain rfl := bool_no (fun h => h1 (hb.1 h).2.1)
      exact Ev.step (f := fun _ => some false) (fun k => by rw [peristyleref25_Columns.l0, if_neg (by omega), if_neg (by omega)]) (Ev.now _)
  | d + 1, i, hi, b, hb => by
    have hlt : i < l.length := by omega
    have hJ := fun x hx => cols_j1 l hl i hlt b x hx (fun h => (hb.1 h).1 i hlt (Nat.le_refl _)) (fun hc ha => cols_l0 l hl hs d (i + 1) (by omega) b ⟨fun h => ⟨fun m h1 h2 => (hb.1 h).1 m h1 (by omega), (hb.1 h).2⟩, fun h => hb.2 ⟨fun m h1 h2 => by
      by_cases he : m = i
      · subst he; exact ⟨hc, ha⟩
      · exact h.1 m h1 (by omega), h.2⟩⟩)
    refine Ev.step (f := fun k => (peristyleref25_Name.f k l[i].f0).bind fun t => if t = true then (if l[i].f1 = 1 then peristyleref25_Columns.j1 k l i false else peristyleref25_Columns.j1 k l i (l[i].f1 != 2)) else peristyleref25_Columns.j1 k l i true) (fun k => by rw [peristyleref25_Columns.l0, if_pos (by omega), if_pos (by omega), rdC_at l i hlt]) ?_
    refine Ev.bind (name_ev _ (hs _ (List.getElem_mem hlt))) ?_
    cases hn : nameP l[i].f0 with
    | false => exact ev_neg (by decide) (hJ _ (by unfold colP; rw [hn]; rfl))
    | true =>
      refine ev_pos rfl ?_
      by_cases h1 : l[i].f1 = 1
      · exact ev_pos h1 (hJ _ (by unfold colP; rw [hn, decide_eq_true h1]; rfl))
      · refine ev_neg h1 (hJ _ ?_)
        unfold colP
        rw [hn, decide_eq_false h1]
        by_cases h2 : l[i].f1 = 2
        · rw [h2]; rfl
        · simp [h2]
theorem cols_ev (l : List Col) (hl : l.length ≤ 1000000) (hs : ∀ x ∈ l, x.f0.size ≤ 1000000) : Ev (fun k => peristyleref25_Columns.f k l) (colsP l) := by
  unfold peristyleref25_Columns.f
  refine cols_l0 l hl hs l.length 0 (Nat.zero_add _) _ ?_
  unfold colsP onceP
  simp only [Bool.and_eq_true, decide_eq_true_eq, List.all_eq_true]
  rw [nodup_ahead]
  constructor
  · rintro ⟨⟨⟨h1, h2⟩, h3⟩, h4⟩
    exact ⟨fun m h _ => ⟨h1 _ (List.getElem_mem h), h4 m h⟩, h2, h3⟩
  · rintro ⟨h1, h2, h3⟩
    refine ⟨⟨⟨fun x hx => ?_, h2⟩, h3⟩, fun i h => (h1 i h (Nat.zero_le _)).2⟩
    obtain ⟨m, hm, rfl⟩ := List.getElem_of_mem hx
    exact (h1 m hm (Nat.zero_le _)).1
/-! ### Projection -/
theorem proj_l1 (n : Int) (s : ByteArray) (z : Int) (l : List Int) (hl : l.length ≤ 1000000) (i : Nat) (hi : i < l.length) (b : Bool) (hn : b = true → ahead (fun x => x) l i 0) (hk : ahead (fun x => x) l i 0 → Ev (fun k => peristyleref25_Projection.l0 k n ((i + 1 : Nat) : Int) s l z) b) :
    ∀ d j : Nat, j + d = i → (∀ m x y, m < j → l[m]? = some x → l[i]? = some y → x ≠ y) → Ev (fun k => peristyleref25_Projection.l1 k n (i : Int) (j : Int) s l z) b
  | 0, j, hj, hp => by
    refine Ev.step (f := fun k => peristyleref25_Projection.l0 k n ((i + 1 : Nat) : Int) s l z) (fun k => ?_) (hk (fun m x y _ hm hx hy => hp m x y (by omega) hx hy))
    rw [peristyleref25_Projection.l1, if_neg (by omega), w64 i (by omega)]
  | d + 1, j, hj, hp => by
    have hjl : j < l.length := by omega
    by_cases he : l[j] = l[i]
    · obtain rfl := bool_no (fun h => hn h j _ _ (Nat.zero_le _) (by omega) (List.getElem?_eq_getElem hjl) (List.getElem?_eq_getElem hi) he)
      refine Ev.step (f := fun _ => some false) (fun k => ?_) (Ev.now _)
      rw [peristyleref25_Projection.l1, if_pos (by omega), if_pos (by omega), if_pos (by omega), if_pos (by omega), if_pos (by omega), rd_at l j hjl, rd_at l i hi, if_pos he]
    · refine Ev.step (f := fun k => peristyleref25_Projection.l1 k n (i : Int) ((j + 1 : Nat) : Int) s l z) (fun k => ?_) (proj_l1 n s z l hl i hi b hn hk d (j + 1) (by omega) (fun m x y hm hx hy => ?_))
      · rw [peristyleref25_Projection.l1, if_pos (by omega), if_pos (by omega), if_pos (by omega), if_pos (by omega), if_pos (by omega), rd_at l j hjl, rd_at l i hi, if_neg he, w64 j (by omega)]
      · by_cases hmj : m = j
        · subst hmj
          rw [List.getElem?_eq_getElem hjl] at hx
          rw [List.getElem?_eq_getElem hi] at hy
          injection hx with hx
          injection hy with hy
          rw [← hx, ← hy]
          exact he
        · exact hp m x y (by omega) hx hy
theorem proj_j2 (n : Int) (s : ByteArray) (z : Int) (l : List Int) (hl : l.length ≤ 1000000) (i : Nat) (hi : i < l.length) (b x : Bool) (hx : x = !inP n l[i]) (hn : b = true → inP n l[i] = true ∧ ahead (fun x => x) l i 0) (hk : inP n l[i] = true → ahead (fun x => x) l i 0 → Ev (fun k => peristyleref25_Projection.l0 k n ((i + 1 : Nat) : Int) s l z) b) :
    Ev (fun k => peristyleref25_Projection.j2 k n (i : Int) x s l z) b := by
  cases hc : inP n l[i] with
  | false =>
    rw [hc] at hx hn
    obtain rfl := bool_no (fun h => by have := (hn h).1; cases this)
    subst hx
    exact Ev.step (f := fun _ => some false) (fun k => by rw [peristyleref25_Projection.j2, if_pos (by decide)]) (Ev.now _)
  | true =>
    rw [hc] at hx
    subst hx
    exact Ev.step (f := fun k => peristyleref25_Projection.l1 k n (i : Int) ((0 : Nat) : Int) s l z) (fun k => by rw [peristyleref25_Projection.j2, if_neg (by decide)]; rfl) (proj_l1 n s z l hl i hi b (fun h => (hn h).2) (hk hc) i 0 (Nat.zero_add _) (fun m _ _ hm => by omega))
theorem proj_l0 (n : Int) (s : ByteArray) (z : Int) (l : List Int) (hl : l.length ≤ 1000000) : ∀ d i : Nat, i + d = l.length → ∀ b : Bool, (b = true ↔ ∀ (m : Nat) (h : m < l.length), i ≤ m → inP n l[m] = true ∧ ahead (fun x => x) l m 0) → Ev (fun k => peristyleref25_Projection.l0 k n (i : Int) s l z) b
  | 0, i, hi, b, hb => by
    have : b = true := hb.2 (fun m h h2 => by omega)
    subst this
    exact Ev.step (f := fun _ => some true) (fun k => by rw [peristyleref25_Projection.l0, if_neg (by omega)]) (Ev.now _)
  | d + 1, i, hi, b, hb => by
    have hlt : i < l.length := by omega
    have hJ := fun x hx => proj_j2 n s z l hl i hlt b x hx (fun h => hb.1 h i hlt (Nat.le_refl _)) (fun hc ha => proj_l0 n s z l hl d (i + 1) (by omega) b ⟨fun h m h1 h2 => hb.1 h m h1 (by omega), fun h => hb.2 (fun m h1 h2 => by
      by_cases he : m = i
      · subst he; exact ⟨hc, ha⟩
      · exact h m h1 (by omega))⟩)
    by_cases h1 : l[i] < 0
    · refine Ev.step (f := fun k => peristyleref25_Projection.j2 k n i true s l z) (fun k => by rw [peristyleref25_Projection.l0, if_pos (by omega), if_pos (by omega), rd_at l i hlt, if_pos h1]) (hJ true ?_)
      unfold inP
      rw [decide_eq_false (by omega)]
      rfl
    · refine Ev.step (f := fun k => peristyleref25_Projection.j2 k n i (decide (l[i] ≥ n)) s l z) (fun k => by rw [peristyleref25_Projection.l0, if_pos (by omega), if_pos (by omega), rd_at l i hlt, if_neg h1]) (hJ _ ?_)
      unfold inP
      by_cases h2 : l[i] < n
      · rw [decide_eq_true (show 0 ≤ l[i] ∧ l[i] < n by omega), decide_eq_false (by omega)]; rfl
      · rw [decide_eq_false (show ¬ (0 ≤ l[i] ∧ l[i] < n) by omega), decide_eq_true (by omega)]; rfl
theorem proj_ev (p : Prj) (n : Int) (hs : p.f0.size ≤ 1000000) (hl : p.f1.length ≤ 1000000) : Ev (fun k => peristyleref25_Projection.f k p.f0 p.f1 p.f2 n) (projP p n) := by
  unfold peristyleref25_Projection.f
  have hJ : ∀ x : Bool, (x = true ↔ ¬ (nameP p.f0 = true ∧ 1 ≤ p.f1.length ∧ (p.f1.length : Int) ≤ n ∧ 0 ≤ p.f2 ∧ p.f2 ≤ p.f1.length)) → Ev (fun k => peristyleref25_Projection.j0 k n x p.f0 p.f1 p.f2) (projP p n) := by
    intro x hx
    cases x with
    | true =>
      have h := hx.1 rfl
      have hn : projP p n = false := bool_no (fun hp => by
        unfold projP at hp
        simp only [Bool.and_eq_true, decide_eq_true_eq] at hp
        exact h ⟨hp.1.1.1.1.1.2, hp.1.1.1.1.2, hp.1.1.1.2, hp.1.1.2, hp.1.2⟩)
      rw [hn]
      exact Ev.step (f := fun _ => some false) (fun k => by rw [peristyleref25_Projection.j0, if_pos rfl]) (Ev.now _)
    | false =>
      have h : nameP p.f0 = true ∧ 1 ≤ p.f1.length ∧ (p.f1.length : Int) ≤ n ∧ 0 ≤ p.f2 ∧ p.f2 ≤ p.f1.length := Classical.byContradiction (fun hc => by cases hx.2 hc)
      refine Ev.step (f := fun k => peristyleref25_Projection.l0 k n ((0 : Nat) : Int) p.f0 p.f1 p.f2) (fun k => by rw [peristyleref25_Projection.j0, if_neg (by decide)]; rfl) (proj_l0 n _ _ p.f1 hl p.f1.length 0 (Nat.zero_add _) _ ?_)
      unfold projP onceP
      have hd := nodup_ahead (fun x : Int => x) p.f1
      rw [List.map_id'] at hd
      simp only [Bool.and_eq_true, decide_eq_true_eq, List.all_eq_true]
      rw [hd]
      constructor
      · intro h2 m hm _
        exact ⟨h2.1.1.1.1.1.1 _ (List.getElem_mem hm), h2.2 m hm⟩
      · intro h2
        refine ⟨⟨⟨⟨⟨⟨fun x hx => ?_, h.1⟩, h.2.1⟩, h.2.2.1⟩, h.2.2.2.1⟩, h.2.2.2.2⟩, fun i hi => (h2 i hi (Nat.zero_le _)).2⟩
        obtain ⟨m, hm, rfl⟩ := List.getElem_of_mem hx
        exact (h2 m hm (Nat.zero_le _)).1
  refine Ev.bind (name_ev _ hs) ?_
  cases hn : nameP p.f0 with
  | false => exact ev_neg (by decide) (hJ true (by rw [hn]; simp))
  | true =>
    rw [hn] at hJ
    refine ev_pos rfl ?_
    by_cases h1 : (p.f1.length : Int) < 1
    · exact ev_pos h1 (hJ true ⟨fun _ => by omega, fun _ => rfl⟩)
    · refine ev_neg h1 ?_
      by_cases h2 : (p.f1.length : Int) > n
      · exact ev_pos h2 (hJ true ⟨fun _ => by omega, fun _ => rfl⟩)
      · refine ev_neg h2 ?_
        by_cases h3 : p.f2 < 0
        · exact ev_pos h3 (hJ true ⟨fun _ => by omega, fun _ => rfl⟩)
        · refine ev_neg h3 (hJ _ ?_)
          rw [decide_eq_true_eq]
          constructor
          · intro h; omega
          · intro h
            refine Classical.byContradiction (fun hc => h ⟨rfl, by omega, by omega, by omega, by omega⟩)
end Go.Proofs.Ytgjclhhjigflkab.Sc
