import Derived.Test.YtgjclhhjigflkacCx10
import Derived.Test.YtgjclhhjigflkacScNums
import Derived.Test.YtgjclhhjigflkacCx13
import Derived.Test.YtgjclhhjigflkacCx1
import Derived.Test.YtgjclhhjigflkacScRead
import Derived.Test.YtgjclhhjigflkacCx5
import Derived.Test.YtgjclhhjigflkacCx14
import Derived.Test.YtgjclhhjigflkacScInts
/- What the document's functions of tables come to: May, Find, Create (law 25). -/
namespace Go.Proofs.Ytgjclhhjigflkac.Sc
open Go Go.RowKit Go.Proofs.Ytgjclhhjigflkac.C Go.Proofs.Ytgjclhhjigflkac.Hand Go.Proofs.Ytgjclhhjigflkac.EvW Go.Proofs.YtgjclhhjigflkacW.PrintWords
set_option linter.unusedVariables false
set_option linter.unusedSimpArgs false
theorem may_l1 (l : List Tab) (hl : l.length ≤ 1000000) (i : Nat) (hi : i < l.length) (b : Bool) (hn : b = true → ahead (·.f0) l i 0) (hk : ahead (·.f0) l i 0 → Ev (fun k => peristyleref25_May.l0 k l ((i + 1 : Nat) : Int)) b) :
    ∀ d j : Nat, j + d = i → (∀ m x y, m < j → l[m]? = some x → l[i]? = some y → x.f0 ≠ y.f0) → Ev (fun k => peristyleref25_May.l1 k l (i : Int) (j : Int)) b
  | 0, j, hj, hp => by
    refine Ev.step (f := fun k => peristyleref25_May.l0 k l ((i + 1 : Nat) : Int)) (fun k => ?_) (hk (fun m x y _ hm hx hy => hp m x y (by omega) hx hy))
    rw [peristyleref25_May.l1, if_neg (by omega), w64 i (by omega)]
  | d + 1, j, hj, hp => by
    have hjl : j < l.length := by omega
    by_cases he : l[j].f0 = l[i].f0
    · obtain rfl := bool_no (fun h => hn h j _ _ (Nat.zero_le _) (by omega) (List.getElem?_eq_getElem hjl) (List.getElem?_eq_getElem hi) he)
      refine Ev.step (f := fun _ => some false) (fun k => ?_) (Ev.now _)
      rw [peristyleref25_May.l1, if_pos (by omega), if_pos (by omega), if_pos (by omega), if_pos (by omega), if_pos (by omega), rdT_at l j hjl, rdT_at l i hi, if_pos (by rw [ba_eq]; exact he)]
    · refine Ev.step (f := fun k => peristyleref25_May.l1 k l (i : Int) ((j + 1 : Nat) : Int)) (fun k => ?_) (may_l1 l hl i hi b hn hk d (j + 1) (by omega) (fun m x y hm hx hy => ?_))
      · rw [peristyleref25_May.l1, if_pos (by omega), if_pos (by omega), if_pos (by omega), if_pos (by omega), if_pos (by omega), rdT_at l j hjl, rdT_at l i hi, if_neg (by rw [ba_eq]; exact he), w64 j (by omega)]
      · by_cases hmj : m = j
        · subst hmj
          rw [List.getElem?_eq_getElem hjl] at hx
          rw [List.getElem?_eq_getElem hi] at hy
          injection hx with hx
          injection hy with hy
          rw [← hx, ← hy]
          exact he
        · exact hp m x y (by omega) hx hy
theorem may_l0 (l : List Tab) (hg : gLB l = true) : ∀ d i : Nat, i + d = l.length → ∀ b : Bool, (b = true ↔ (∀ (m : Nat) (h : m < l.length), i ≤ m → mayP l[m] = true ∧ ahead (·.f0) l m 0) ∧ l.length ≤ 8) → Ev (fun k => peristyleref25_May.l0 k l (i : Int)) b
  | 0, i, hi, b, hb => by
    have : b = decide ((l.length : Int) ≤ 8) := by
      by_cases h8 : l.length ≤ 8
      · rw [decide_eq_true (by omega)]
        exact hb.2 ⟨fun m h h2 => by omega, h8⟩
      · rw [decide_eq_false (by omega)]
        exact bool_no (fun h => h8 (hb.1 h).2)
    rw [this]
    exact Ev.step (f := fun _ => some (decide ((l.length : Int) ≤ 8))) (fun k => by rw [peristyleref25_May.l0, if_neg (by omega)]) (Ev.now _)
  | d + 1, i, hi, b, hb => by
    have hlt : i < l.length := by omega
    have hgl := (gLB_spec hg).1
    have hgi : gtB l[i] = true := by
      unfold gLB at hg
      simp only [Bool.and_eq_true, List.all_eq_true] at hg
      exact hg.2 _ (List.getElem_mem hlt)
    refine Ev.step (f := fun k => (peristyleref25_table.f k l[i].f0 l[i].f1 l[i].f2).bind fun r => if r = true then peristyleref25_May.l1 k l (i : Int) ((0 : Nat) : Int) else some false) (fun k => by rw [peristyleref25_May.l0, if_pos (by omega), if_pos (by omega), rdT_at l i hlt]; rfl) ?_
    refine Ev.bind (table_ev l[i] hgi) ?_
    cases hm : mayP l[i] with
    | false =>
      obtain rfl := bool_no (fun h => by have := ((hb.1 h).1 i hlt (Nat.le_refl _)).1; rw [hm] at this; cases this)
      exact ev_neg (by decide) (Ev.now _)
    | true =>
      refine ev_pos rfl (may_l1 l hgl i hlt b (fun h => ((hb.1 h).1 i hlt (Nat.le_refl _)).2) (fun ha => may_l0 l hg d (i + 1) (by omega) b ⟨fun h => ⟨fun m h1 h2 => (hb.1 h).1 m h1 (by omega), (hb.1 h).2⟩, fun h => hb.2 ⟨fun m h1 h2 => ?_, h.2⟩⟩) i 0 (Nat.zero_add _) (fun m _ _ hm => by omega))
      by_cases he : m = i
      · subst he; exact ⟨hm, ha⟩
      · exact h.1 m h1 (by omega)
theorem rfind_l0 (l : List Tab) (hl : l.length ≤ 1000000) (n : ByteArray) : ∀ d i : Nat, i + d = l.length → Ev (fun k => peristyleref25_Find.l0 k l n (i : Int)) (idxF (fun t : Tab => isN n t.f0) (l.drop i) i)
  | 0, i, hi => by
    rw [List.drop_of_length_le (by omega)]
    exact Ev.step (f := fun _ => some (-1)) (fun k => by rw [peristyleref25_Find.l0, if_neg (by omega)]) (Ev.now _)
  | d + 1, i, hi => by
    have hlt : i < l.length := by omega
    rw [idxF_drop _ _ i hlt]
    by_cases he : isN n l[i].f0 = true
    · rw [if_pos he]
      refine Ev.step (f := fun _ => some (i : Int)) (fun k => ?_) (Ev.now _)
      rw [peristyleref25_Find.l0, if_pos (by omega), if_pos (by omega), rdT_at l i hlt, if_pos (by unfold isN at he; rwa [beq_iff_eq] at he)]
    · rw [if_neg he]
      refine Ev.step (f := fun k => peristyleref25_Find.l0 k l n ((i + 1 : Nat) : Int)) (fun k => ?_) (rfind_l0 l hl n d (i + 1) (by omega))
      rw [peristyleref25_Find.l0, if_pos (by omega), if_pos (by omega), rdT_at l i hlt, if_neg (fun h => he (by unfold isN; rw [beq_iff_eq]; exact h)), w64 i (by omega)]
theorem rfind_ev (l : List Tab) (hl : l.length ≤ 1000000) (n : ByteArray) : Ev (fun k => peristyleref25_Find.f k l n) (idxF (fun t : Tab => isN n t.f0) l 0) := by
  have := rfind_l0 l hl n l.length 0 (Nat.zero_add _)
  rw [List.drop_zero] at this
  exact this
end Go.Proofs.Ytgjclhhjigflkac.Sc

-- written by mkprint.py, a program of this session, over the kit's printer
namespace Go.Proofs.Ytgjclhhjigflkac.C
open Go.RowKit Go.Proofs.YtgjclhhjigflkacW.PrintWords Go.Proofs.YtgjclhhjigflkacW.PrintLast Go.Proofs.YtgjclhhjigflkacW.PrintMore
attribute [local go_sem] max2_int min2_int max_two min_two max_three min_three max_four min_four   -- for this text's walks alone
set_option linter.unusedVariables false
set_option linter.unusedSimpArgs false
/-! ### peristyleref25_Add: function 81 -/
/-! ### peristyleref25_Remove: function 82 -/
end Go.Proofs.Ytgjclhhjigflkac.C

/- What the document's functions of tables come to: Column, projection, Drop, Add, Remove; the program's Super (law 25). -/
namespace Go.Proofs.Ytgjclhhjigflkac.Sc
open Go Go.RowKit Go.Proofs.Ytgjclhhjigflkac.C Go.Proofs.Ytgjclhhjigflkac.Hand Go.Proofs.Ytgjclhhjigflkac.EvW Go.Proofs.YtgjclhhjigflkacW.PrintWords
set_option linter.unusedVariables false
set_option linter.unusedSimpArgs false
theorem rcol_l0 (t : Tab) (hl : t.f1.length ≤ 1000000) (n : ByteArray) : ∀ d i : Nat, i + d = t.f1.length → Ev (fun k => peristyleref25_Column.l0 k n (i : Int) t.f0 t.f1 t.f2) (idxF (fun x : Col => isN n x.f0) (t.f1.drop i) i)
  | 0, i, hi => by
    rw [List.drop_of_length_le (by omega)]
    exact Ev.step (f := fun _ => some (-1)) (fun k => by rw [peristyleref25_Column.l0, if_neg (by omega)]) (Ev.now _)
  | d + 1, i, hi => by
    have hlt : i < t.f1.length := by omega
    rw [idxF_drop _ _ i hlt]
    by_cases he : isN n t.f1[i].f0 = true
    · rw [if_pos he]
      refine Ev.step (f := fun _ => some (i : Int)) (fun k => ?_) (Ev.now _)
      rw [peristyleref25_Column.l0, if_pos (by omega), if_pos (by omega), rdC_at t.f1 i hlt, if_pos (by unfold isN at he; rwa [beq_iff_eq] at he)]
    · rw [if_neg he]
      refine Ev.step (f := fun k => peristyleref25_Column.l0 k n ((i + 1 : Nat) : Int) t.f0 t.f1 t.f2) (fun k => ?_) (rcol_l0 t hl n d (i + 1) (by omega))
      rw [peristyleref25_Column.l0, if_pos (by omega), if_pos (by omega), rdC_at t.f1 i hlt, if_neg (fun h => he (by unfold isN; rw [beq_iff_eq]; exact h)), w64 i (by omega)]
theorem rcol_ev (t : Tab) (hl : t.f1.length ≤ 1000000) (n : ByteArray) : Ev (fun k => peristyleref25_Column.f k t.f0 t.f1 t.f2 n) (idxF (fun x : Col => isN n x.f0) t.f1 0) := by
  have := rcol_l0 t hl n t.f1.length 0 (Nat.zero_add _)
  rw [List.drop_zero] at this
  exact this
theorem psuper_l0 (t : Tab) (p : Prj) (hn : t.f1.length ≤ 1000000) (hl : p.f1.length ≤ 1000000) : ∀ d c : Nat, c + d = t.f1.length → ∀ b : Bool, (b = true ↔ (∀ m : Nat, c ≤ m → m < t.f1.length → (m : Int) ∈ p.f1) ∧ p.f1.length = t.f1.length) →
    Ev (fun k => schema_Super.l0 k (t.f1.length : Int) (c : Int) t.f0 t.f1 t.f2 p.f0 p.f1 p.f2) b
  | 0, c, hc, b, hb => by
    have : b = ((p.f1.length : Int) == (t.f1.length : Int)) := by
      by_cases he : p.f1.length = t.f1.length
      · rw [hb.2 ⟨fun m h1 h2 => by omega, he⟩, he]; simp
      · rw [bool_no (fun h => he (hb.1 h).2)]
        have : ¬ ((p.f1.length : Int) = (t.f1.length : Int)) := by omega
        simp [this]
    rw [this]
    exact Ev.step (f := fun _ => some ((p.f1.length : Int) == (t.f1.length : Int))) (fun k => by rw [schema_Super.l0, if_neg (by omega)]) (Ev.now _)
  | d + 1, c, hc, b, hb => by
    refine Ev.step (f := fun k => (slices_Contains_int_int.f k p.f1 (c : Int)).bind fun r => if r = true then schema_Super.l0 k (t.f1.length : Int) ((c + 1 : Nat) : Int) t.f0 t.f1 t.f2 p.f0 p.f1 p.f2 else some false) (fun k => by rw [schema_Super.l0, if_pos (by omega), w64 c (by omega)]) ?_
    refine Ev.bind (has_ev p.f1 hl (c : Int)) ?_
    by_cases hin : (c : Int) ∈ p.f1
    · refine ev_pos (decide_eq_true hin) (psuper_l0 t p hn hl d (c + 1) (by omega) b ⟨fun h => ⟨fun m h1 h2 => (hb.1 h).1 m (by omega) h2, (hb.1 h).2⟩, fun h => hb.2 ⟨fun m h1 h2 => ?_, h.2⟩⟩)
      by_cases he : m = c
      · subst he; exact hin
      · exact h.1 m (by omega) h2
    · obtain rfl := bool_no (fun h => hin ((hb.1 h).1 c (Nat.le_refl _) (by omega)))
      exact ev_neg (by simpa using hin) (Ev.now _)
theorem psuper_ev (t : Tab) (p : Prj) (hn : t.f1.length ≤ 1000000) (hl : p.f1.length ≤ 1000000) : Ev (fun k => schema_Super.f k t.f0 t.f1 t.f2 p.f0 p.f1 p.f2) (superP t p) := by
  refine psuper_l0 t p hn hl t.f1.length 0 (Nat.zero_add _) _ ?_
  unfold superP
  simp only [Bool.and_eq_true, decide_eq_true_eq, List.all_eq_true]
  exact ⟨fun h => ⟨fun m _ h2 => h.1 m (List.mem_range.2 h2), h.2⟩, fun h => ⟨fun m hm => h.1 m (Nat.zero_le _) (List.mem_range.1 hm), h.2⟩⟩
theorem few {a : Nat} (h : a ≤ 3000000) : a < 2199023255552 := Nat.lt_of_le_of_lt h (by decide)
end Go.Proofs.Ytgjclhhjigflkac.Sc

/- What Light, light and Same come to (law 25): few parts, and equal tables are the same. -/
namespace Go.Proofs.Ytgjclhhjigflkac.Sc
open Go Go.RowKit Go.Proofs.Ytgjclhhjigflkac.C Go.Proofs.Ytgjclhhjigflkac.Hand Go.Proofs.Ytgjclhhjigflkac.EvW Go.Proofs.YtgjclhhjigflkacW.PrintWords
set_option linter.unusedVariables false
set_option linter.unusedSimpArgs false
def lightT (t : Tab) : Prop := t.f0.size ≤ 40 ∧ t.f1.length ≤ 12 ∧ t.f2.length ≤ 10 ∧ (∀ c ∈ t.f1, c.f0.size ≤ 40) ∧ ∀ p ∈ t.f2, p.f0.size ≤ 40 ∧ p.f1.length ≤ 12
theorem light_l2 (l : List Tab) (i : Nat) (hi : i ≤ 100) (t : Tab) (ht : t.f2.length ≤ 10) (b : Bool) (hk : Ev (fun k => peristyleref25_Light.l0 k l ((i + 1 : Nat) : Int)) b) :
    ∀ d j : Nat, j + d = t.f2.length → ∃ b', Ev (fun k => peristyleref25_Light.l2 k l (i : Int) (j : Int) t.f0 t.f1 t.f2) b' ∧ (b' = true → b = true ∧ ∀ (m : Nat) (h : m < t.f2.length), j ≤ m → t.f2[m].f0.size ≤ 40 ∧ t.f2[m].f1.length ≤ 12)
  | 0, j, hj => ⟨b, Ev.step (fun k => by rw [peristyleref25_Light.l2, if_neg (by omega), w64 i (by omega)]) hk, fun h => ⟨h, fun m h1 h2 => by omega⟩⟩
  | d + 1, j, hj => by
    have hlt : j < t.f2.length := by omega
    by_cases h1 : t.f2[j].f0.size ≤ 40
    · by_cases h2 : t.f2[j].f1.length ≤ 12
      · obtain ⟨b', hb, hh⟩ := light_l2 l i hi t ht b hk d (j + 1) (by omega)
        refine ⟨b', Ev.step (fun k => by rw [peristyleref25_Light.l2, if_pos (by omega), if_pos (by omega), rdP_at t.f2 j hlt, if_neg (by omega), if_neg (by omega), w64 j (by omega)]) hb, fun h => ⟨(hh h).1, fun m h3 h4 => ?_⟩⟩
        by_cases he : m = j
        · subst he; exact ⟨h1, h2⟩
        · exact (hh h).2 m h3 (by omega)
      · exact ⟨false, Ev.step (f := fun _ => some false) (fun k => by rw [peristyleref25_Light.l2, if_pos (by omega), if_pos (by omega), rdP_at t.f2 j hlt, if_neg (by omega), if_pos (by omega)]) (Ev.now _), fun h => by cases h⟩
    · exact ⟨false, Ev.step (f := fun _ => some false) (fun k => by rw [peristyleref25_Light.l2, if_pos (by omega), if_pos (by omega), rdP_at t.f2 j hlt, if_pos (by omega)]) (Ev.now _), fun h => by cases h⟩
theorem light_l1 (l : List Tab) (i : Nat) (hi : i ≤ 100) (t : Tab) (hc : t.f1.length ≤ 12) (ht : t.f2.length ≤ 10) (b : Bool) (hk : Ev (fun k => peristyleref25_Light.l0 k l ((i + 1 : Nat) : Int)) b) :
    ∀ d j : Nat, j + d = t.f1.length → ∃ b', Ev (fun k => peristyleref25_Light.l1 k l (i : Int) (j : Int) t.f0 t.f1 t.f2) b' ∧ (b' = true → (b = true ∧ ∀ (m : Nat) (h : m < t.f2.length), t.f2[m].f0.size ≤ 40 ∧ t.f2[m].f1.length ≤ 12) ∧ ∀ (m : Nat) (h : m < t.f1.length), j ≤ m → t.f1[m].f0.size ≤ 40)
  | 0, j, hj => by
    obtain ⟨b', hb, hh⟩ := light_l2 l i hi t ht b hk t.f2.length 0 (by omega)
    exact ⟨b', Ev.step (fun k => by rw [peristyleref25_Light.l1, if_neg (by omega)]; rfl) hb, fun h => ⟨⟨(hh h).1, fun m h1 => (hh h).2 m h1 (by omega)⟩, fun m h1 h2 => by omega⟩⟩
  | d + 1, j, hj => by
    have hlt : j < t.f1.length := by omega
    by_cases h1 : t.f1[j].f0.size ≤ 40
    · obtain ⟨b', hb, hh⟩ := light_l1 l i hi t hc ht b hk d (j + 1) (by omega)
      refine ⟨b', Ev.step (fun k => by rw [peristyleref25_Light.l1, if_pos (by omega), if_pos (by omega), rdC_at t.f1 j hlt, if_neg (by omega), w64 j (by omega)]) hb, fun h => ⟨(hh h).1, fun m h3 h4 => ?_⟩⟩
      by_cases he : m = j
      · subst he; exact h1
      · exact (hh h).2 m h3 (by omega)
    · exact ⟨false, Ev.step (f := fun _ => some false) (fun k => by rw [peristyleref25_Light.l1, if_pos (by omega), if_pos (by omega), rdC_at t.f1 j hlt, if_pos (by omega)]) (Ev.now _), fun h => by cases h⟩
theorem light_no (l : List Tab) (i : Nat) (t : Tab) : Ev (fun k => peristyleref25_Light.j2 k l (i : Int) true t.f0 t.f1 t.f2) false := Ev.step (f := fun _ => some false) (fun k => by rw [peristyleref25_Light.j2, if_pos rfl]) (Ev.now _)
theorem light_l0 (l : List Tab) : ∀ d i : Nat, i + d = 10 → i ≤ l.length → ∃ b, Ev (fun k => peristyleref25_Light.l0 k l (i : Int)) b ∧ (b = true → l.length ≤ 10 ∧ ∀ (m : Nat) (h : m < l.length), i ≤ m → lightT l[m])
  | d, i, hd, hil => by
    have hend : (¬ i < l.length ∨ ¬ i < 10) → ∃ b, Ev (fun k => peristyleref25_Light.l0 k l (i : Int)) b ∧ (b = true → l.length ≤ 10 ∧ ∀ (m : Nat) (h : m < l.length), i ≤ m → lightT l[m]) := by
      intro hh
      refine ⟨decide ((l.length : Int) ≤ 10), ?_, fun h => ?_⟩
      · refine Ev.step (f := fun k => peristyleref25_Light.j1 k l (i : Int) false) (fun k => ?_) (Ev.step (f := fun _ => some (decide ((l.length : Int) ≤ 10))) (fun k => by rw [peristyleref25_Light.j1, if_neg (by decide)]) (Ev.now _))
        rw [peristyleref25_Light.l0]
        by_cases h1 : i < l.length
        · rw [if_pos (by omega), decide_eq_false (by omega)]
        · rw [if_neg (by omega)]
      · have := of_decide_eq_true h
        exact ⟨by omega, fun m h1 h2 => by omega⟩
    cases d with
    | zero => exact hend (.inr (by omega))
    | succ d =>
    by_cases hlt : i < l.length
    · obtain ⟨t, ht⟩ : ∃ t, l[i] = t := ⟨_, rfl⟩
      obtain ⟨b, hb, hh⟩ := light_l0 l d (i + 1) (by omega) (by omega)
      have step : ∀ (b' x : Bool), (∀ k, peristyleref25_Light.j1 (k + 1) l (i : Int) true = peristyleref25_Light.j2 k l (i : Int) x t.f0 t.f1 t.f2) → Ev (fun k => peristyleref25_Light.j2 k l (i : Int) x t.f0 t.f1 t.f2) b' → Ev (fun k => peristyleref25_Light.l0 k l (i : Int)) b' := by
        intro b' x h1 h2
        exact Ev.step (f := fun k => peristyleref25_Light.j1 k l (i : Int) true) (fun k => by rw [peristyleref25_Light.l0, if_pos (by omega), decide_eq_true (by omega)]) (Ev.step h1 h2)
      by_cases h1 : t.f0.size ≤ 40
      · by_cases h2 : t.f1.length ≤ 12
        · by_cases h3 : t.f2.length ≤ 10
          · obtain ⟨b', hb', hh'⟩ := light_l1 l i (by omega) t h2 h3 b hb t.f1.length 0 (by omega)
            refine ⟨b', step b' false (fun k => by rw [peristyleref25_Light.j1, if_pos rfl, if_pos (by omega), if_pos (by omega), rdT_at l i hlt, ht, if_neg (by omega), if_neg (by omega), decide_eq_false (by omega)]) (Ev.step (fun k => by rw [peristyleref25_Light.j2, if_neg (by decide)]; rfl) hb'), fun h => ?_⟩
            obtain ⟨⟨h4, h5⟩, h6⟩ := hh' h
            refine ⟨(hh h4).1, fun m hm him => ?_⟩
            by_cases he : m = i
            · subst he
              rw [ht]
              refine ⟨h1, h2, h3, fun c hc => ?_, fun p hp => ?_⟩
              · obtain ⟨m, hm, rfl⟩ := List.getElem_of_mem hc
                exact h6 m hm (Nat.zero_le _)
              · obtain ⟨m, hm, rfl⟩ := List.getElem_of_mem hp
                exact h5 m hm
            · exact (hh h4).2 m hm (by omega)
          · exact ⟨false, step false true (fun k => by rw [peristyleref25_Light.j1, if_pos rfl, if_pos (by omega), if_pos (by omega), rdT_at l i hlt, ht, if_neg (by omega), if_neg (by omega), decide_eq_true (by omega)]) (light_no l i t), fun h => by cases h⟩
        · exact ⟨false, step false true (fun k => by rw [peristyleref25_Light.j1, if_pos rfl, if_pos (by omega), if_pos (by omega), rdT_at l i hlt, ht, if_neg (by omega), if_pos (by omega)]) (light_no l i t), fun h => by cases h⟩
      · exact ⟨false, step false true (fun k => by rw [peristyleref25_Light.j1, if_pos rfl, if_pos (by omega), if_pos (by omega), rdT_at l i hlt, ht, if_pos (by omega)]) (light_no l i t), fun h => by cases h⟩
    · exact hend (.inl hlt)
theorem lightT_gtB {t : Tab} (h : lightT t) : gtB t = true := by
  obtain ⟨h1, h2, h3, h4, h5⟩ := h
  unfold gtB
  simp only [Bool.and_eq_true, decide_eq_true_eq, List.all_eq_true]
  exact ⟨⟨⟨⟨by omega, by omega⟩, by omega⟩, fun x hx => by have := h4 x hx; omega⟩, fun x hx => by have := h5 x hx; omega⟩
theorem Light_ev (l : List Tab) : ∃ b, Ev (fun k => peristyleref25_Light.f k l) b ∧ (b = true → l.length ≤ 10 ∧ gLB l = true) := by
  obtain ⟨b, hb, hh⟩ := light_l0 l 10 0 rfl (Nat.zero_le _)
  refine ⟨b, hb, fun h => ⟨(hh h).1, ?_⟩⟩
  unfold gLB
  simp only [Bool.and_eq_true, decide_eq_true_eq, List.all_eq_true]
  refine ⟨by have := (hh h).1; omega, fun t ht => ?_⟩
  obtain ⟨m, hm, rfl⟩ := List.getElem_of_mem ht
  exact lightT_gtB ((hh h).2 m hm (Nat.zero_le _))
/-! a change -/
/-! equal tables are the same -/
end Go.Proofs.Ytgjclhhjigflkac.Sc

-- written by mkprint.py, a program of this session, over the kit's printer
namespace Go.Proofs.Ytgjclhhjigflkac.C
open Go.RowKit Go.Proofs.YtgjclhhjigflkacW.PrintWords Go.Proofs.YtgjclhhjigflkacW.PrintLast Go.Proofs.YtgjclhhjigflkacW.PrintMore
attribute [local go_sem] max2_int min2_int max_two min_two max_three min_three max_four min_four   -- for this text's walks alone
set_option linter.unusedVariables false
set_option linter.unusedSimpArgs false
/-! ### peristylelaw25_done: function 38 -/
end Go.Proofs.Ytgjclhhjigflkac.C

/- A change of tables, plain: the document's is the program's; few parts stay few (law 25). -/
namespace Go.Proofs.Ytgjclhhjigflkac.Sc
open Go Go.RowKit Go.Proofs.Ytgjclhhjigflkac.C Go.Proofs.Ytgjclhhjigflkac.Hand Go.Proofs.Ytgjclhhjigflkac.EvW Go.Proofs.YtgjclhhjigflkacW.PrintWords
set_option linter.unusedVariables false
set_option linter.unusedSimpArgs false
theorem gLB_at {l : List Tab} (hg : gLB l = true) (i : Nat) (hi : i < l.length) : gtB l[i] = true := by
  unfold gLB at hg
  simp only [Bool.and_eq_true, List.all_eq_true] at hg
  exact hg.2 _ (List.getElem_mem hi)
theorem pfind_ev (l : List Tab) (hl : l.length ≤ 1000000) (n : ByteArray) : Ev (fun k => schema_Find.f k l n) (idxF (fun t : Tab => isN n t.f0) l 0) := ⟨0, fun k _ => by show schema_Find.f k l n = _; rw [schema_Find.f, if_pos hl]⟩
theorem pcol_ev (t : Tab) (hl : t.f1.length ≤ 1000000) (n : ByteArray) : Ev (fun k => schema_Column.f k t.f0 t.f1 t.f2 n) (idxF (fun x : Col => isN n x.f0) t.f1 0) := ⟨0, fun k _ => by show schema_Column.f k t.f0 t.f1 t.f2 n = _; rw [schema_Column.f, if_pos hl]⟩
end Go.Proofs.Ytgjclhhjigflkac.Sc

/- awake of law 25 answers true. -/
namespace Go.Proofs.Ytgjclhhjigflkac.Sc
open Go Go.RowKit Go.Proofs.Ytgjclhhjigflkac.C Go.Proofs.YtgjclhhjigflkacW.PrintWords
theorem awake_ev : Ev (fun k => peristylelaw25_awake.f k) true := Ev.of peristylelaw25_awake.mono (k := 40) (by decide +kernel)
end Go.Proofs.Ytgjclhhjigflkac.Sc

/- law 25's SchemaFinds, plain: which table, and column, has a name; whether a projection has all columns. -/
namespace Go.Proofs.Ytgjclhhjigflkac.Pure
open Go.RowKit Go.Proofs.Ytgjclhhjigflkac.C Go.Proofs.Ytgjclhhjigflkac.Sc Go.Proofs.Ytgjclhhjigflkac.Hand Go.Proofs.Ytgjclhhjigflkac.EvW Go.Proofs.YtgjclhhjigflkacW.PrintWords Go.Proofs.YtgjclhhjigflkacW.PrintLast
theorem finds_j0 (l : List Tab) (n a : ByteArray) (pc : List Int) (pk : Int) : Ev (fun k => peristylelaw25_SchemaFinds.j0 k l n true a pc pk) true :=
  Ev.step (f := fun k => (peristylelaw25_awake.f k).bind fun r => some r) (fun k => by rw [peristylelaw25_SchemaFinds.j0, if_pos rfl]) (Ev.bind awake_ev (Ev.now _))
theorem finds_l0 (l : List Tab) (hg : gLB l = true) (n : ByteArray) (p : Prj) (hp : p.f1.length ≤ 12) : ∀ d i : Nat, i + d = l.length → Ev (fun k => peristylelaw25_SchemaFinds.l0 k l n (i : Int) p.f0 p.f1 p.f2) true
  | 0, i, hi => Ev.step (f := fun k => (peristylelaw25_awake.f k).bind fun r => some r) (fun k => by rw [peristylelaw25_SchemaFinds.l0, if_neg (by omega)]) (Ev.bind awake_ev (Ev.now _))
  | d + 1, i, hi => by
    have hlt : i < l.length := by omega
    have hl := (gLB_spec hg).1
    have hgt := gtB_spec (gLB_at hg i hlt)
    obtain ⟨t, ht⟩ : ∃ t, l[i] = t := ⟨_, rfl⟩
    rw [ht] at hgt
    refine Ev.step (f := fun k => (schema_Column.f k t.f0 t.f1 t.f2 n).bind fun x => (peristyleref25_Column.f k t.f0 t.f1 t.f2 n).bind fun y => if x = y then ((schema_Super.f k t.f0 t.f1 t.f2 p.f0 p.f1 p.f2).bind fun u => (peristyleref25_Super.f k t.f0 t.f1 t.f2 p.f0 p.f1 p.f2).bind fun v => if (u != v) = true then none else peristylelaw25_SchemaFinds.l0 k l n ((i + 1 : Nat) : Int) p.f0 p.f1 p.f2) else none) (fun k => ?_) ?_
    · rw [peristylelaw25_SchemaFinds.l0, if_pos (by omega), if_pos (by omega), rdT_at l i hlt, ht, Go.Proofs.Ytgjclhhjigflkac.Sc.w64 i (by omega)]
    · refine Ev.bind (pcol_ev t hgt.c n) (Ev.bind (rcol_ev t hgt.c n) (ev_pos rfl (Ev.bind (psuper_ev t p hgt.c (by omega)) (Ev.bind (super_ev t p hgt.c (by omega)) (ev_neg (by simp) (finds_l0 l hg n p hp d (i + 1) (by omega)))))))
theorem SchemaFinds : peristylelaw25_SchemaFinds.Pure := by
  intro l n a pc pk _ _ _ _ _ _ _
  obtain ⟨b, hb, hh⟩ := Light_ev l
  refine Ev.rounds (g := fun k => peristylelaw25_SchemaFinds.f k l n a pc pk) ?_
  unfold peristylelaw25_SchemaFinds.f
  refine Ev.bind hb ?_
  cases b with
  | false => exact ev_neg (by decide) (finds_j0 l n a pc pk)
  | true =>
    have hg := (hh rfl).2
    refine ev_pos rfl ?_
    by_cases h1 : (n.size : Int) > 40
    · exact ev_pos h1 (finds_j0 l n a pc pk)
    · refine ev_neg h1 ?_
      by_cases h2 : (pc.length : Int) > 12
      · rw [decide_eq_true h2]
        exact finds_j0 l n a pc pk
      · rw [decide_eq_false h2]
        refine Ev.step (f := fun k => (schema_Find.f k l n).bind fun x => (peristyleref25_Find.f k l n).bind fun y => if x = y then peristylelaw25_SchemaFinds.l0 k l n ((0 : Nat) : Int) a pc pk else none) (fun k => by rw [peristylelaw25_SchemaFinds.j0, if_neg (by decide)]; rfl) ?_
        exact Ev.bind (pfind_ev l (gLB_spec hg).1 n) (Ev.bind (rfind_ev l (gLB_spec hg).1 n) (ev_pos rfl (finds_l0 l hg n ⟨a, pc, pk⟩ (by show pc.length ≤ 12; omega) l.length 0 (by omega))))
end Go.Proofs.Ytgjclhhjigflkac.Pure
