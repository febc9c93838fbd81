/- What the document's small functions of tables come to: Same, Name, Columns (law 32). -/
import Derived.Test.YtgjclhhjigflkabCvManual
import Derived.Test.YtgjclhhjigflkabCx1
namespace Go.Proofs.Ytgjclhhjigflkab.Sc
open Go Go.RowKit Go.Proofs.Ytgjclhhjigflkab.C Go.Proofs.Ytgjclhhjigflkab.Hand Go.Proofs.Ytgjclhhjigflkab.EvW Go.Proofs.YtgjclhhjigflkabW.PrintWords
set_option linter.unusedVariables false
set_option linter.unusedSimpArgs false
theorem same_l0 (l : List Int) (hl : l.length ≤ 1000000) : ∀ d i : Nat, i + d = l.length → Ev (fun k => peristyleref01_Same.l0 k l l (i : Int)) true
  | 0, i, hi => Ev.step (f := fun _ => some true) (fun k => by rw [peristyleref01_Same.l0, if_neg (by omega)]) (Ev.now _)
  | d + 1, i, hi => Ev.step (f := fun k => peristyleref01_Same.l0 k l l ((i + 1 : Nat) : Int)) (fun k => by rw [peristyleref01_Same.l0, if_pos (by omega), if_pos (by omega), if_pos (by omega), if_pos rfl, w64 i (by omega)]) (same_l0 l hl d (i + 1) (by omega))
theorem same_ev (l : List Int) (hl : l.length ≤ 1000000) : Ev (fun k => peristyleref01_Same.f k l l) true := by
  unfold peristyleref01_Same.f
  exact ev_pos rfl (same_l0 l hl l.length 0 (Nat.zero_add _))
theorem okc_if {α : Type} (i : Nat) (c : Int) (x y : α) : (if c ≥ 97 then (if c ≤ 122 then x else (if (i : Int) = 0 then y else (if c = 95 then x else (if c < 48 then y else (if c > 57 then y else x))))) else (if (i : Int) = 0 then y else (if c = 95 then x else (if c < 48 then y else (if c > 57 then y else x))))) = if okc i c = true then x else y := by
  unfold okc
  have h7 : ((i : Int) = 0) = (i = 0) := by simp
  have h8 : (c < 48) = ¬ 48 ≤ c := by simp
  have h9 : (c > 57) = ¬ c ≤ 57 := by simp
  have h0 : (c ≥ 97) = (97 ≤ c) := rfl
  simp only [h8, h9, h7, h0]
  by_cases h1 : 97 ≤ c <;> by_cases h2 : c ≤ 122 <;> by_cases h3 : i = 0 <;> by_cases h4 : c = 95 <;> by_cases h5 : 48 ≤ c <;> by_cases h6 : c ≤ 57 <;> first | omega | simp [h1, h2, h3, h4, h5, h6]
theorem name_l0 (s : ByteArray) (hs : s.size ≤ 1000000) : ∀ d i : Nat, i + d = s.size → ∀ b : Bool, (b = true ↔ ∀ m, i ≤ m → m < s.size → okc m (bt s (m : Int)) = true) → Ev (fun k => peristyleref25_Name.l0 k s (i : Int)) b
  | 0, i, hi, b, hb => by
    have : b = true := hb.2 (fun m h1 h2 => by omega)
    subst this
    exact Ev.step (f := fun _ => some true) (fun k => by rw [peristyleref25_Name.l0, if_neg (by omega)]) (Ev.now _)
  | d + 1, i, hi, b, hb => by
    by_cases ho : okc i (bt s (i : Int)) = true
    · refine Ev.step (f := fun k => peristyleref25_Name.l0 k s ((i + 1 : Nat) : Int)) (fun k => ?_) (name_l0 s hs d (i + 1) (by omega) b ⟨fun h m h1 h2 => hb.1 h m (by omega) h2, fun h => hb.2 (fun m h1 h2 => ?_)⟩)
      · rw [peristyleref25_Name.l0, if_pos (by omega), if_pos (by omega), okc_if, if_pos ho, w64 i (by omega)]
      · by_cases he : m = i
        · subst he; exact ho
        · exact h m (by omega) h2
    · have : b = false := by
        cases b
        · rfl
        · exact absurd (hb.1 rfl i (Nat.le_refl _) (by omega)) ho
      subst this
      refine Ev.step (f := fun k => some false) (fun k => ?_) (Ev.now _)
      rw [peristyleref25_Name.l0, if_pos (by omega), if_pos (by omega), okc_if, if_neg ho]
theorem name_ev (s : ByteArray) (hs : s.size ≤ 1000000) : Ev (fun k => peristyleref25_Name.f k s) (nameP s) := by
  unfold peristyleref25_Name.f
  have hj : ∀ x : Bool, (x = true ↔ s.size < 1 ∨ 16 < s.size) → Ev (fun k => peristyleref25_Name.j0 k s x) (nameP s) := by
    intro x hx
    cases x with
    | true =>
      have h := hx.1 rfl
      have hn : nameP s = false := by
        unfold nameP
        rcases h with h | h
        · rw [decide_eq_false (show ¬ 1 ≤ s.size by omega)]; simp
        · rw [decide_eq_false (show ¬ s.size ≤ 16 by omega)]; simp
      rw [hn]
      exact Ev.step (f := fun _ => some false) (fun k => by rw [peristyleref25_Name.j0, if_pos rfl]) (Ev.now _)
    | false =>
      have h : ¬ (s.size < 1 ∨ 16 < s.size) := fun h => by cases hx.2 h
      refine Ev.step (f := fun k => peristyleref25_Name.l0 k s ((0 : Nat) : Int)) (fun k => by rw [peristyleref25_Name.j0, if_neg (by decide)]; rfl) (name_l0 s hs s.size 0 (Nat.zero_add _) _ ?_)
      unfold nameP okAll
      rw [decide_eq_true (show 1 ≤ s.size by omega), decide_eq_true (show s.size ≤ 16 by omega)]
      simp only [Bool.and_true, List.all_eq_true, List.mem_range]
      exact ⟨fun h m _ h2 => h m h2, fun h m h2 => h m (Nat.zero_le _) h2⟩
  by_cases h : (s.size : Int) < 1
  · exact ev_pos h (hj true ⟨fun _ => Or.inl (by omega), fun _ => rfl⟩)
  · refine ev_neg h (hj _ ?_)
    simp only [decide_eq_true_eq]
    omega
theorem rdC_at (l : List Col) (i : Nat) (h : i < l.length) : rd_T177 l (i : Int) = l[i] := by
  unfold rd_T177
  rw [Int.toNat_natCast, List.getD_eq_getElem?_getD, List.getElem?_eq_getElem h]
  rfl
theorem ba_eq (a b : ByteArray) : (a.toList = b.toList) = (a = b) := propext ⟨ba_inj, fun h => by rw [h]⟩
/-- no entry from j on, ahead of i, has i's key -/
def ahead {α β : Type} (f : α → β) (l : List α) (i j : Nat) : Prop := ∀ (m : Nat) (x y : α), j ≤ m → m < i → l[m]? = some x → l[i]? = some y → f x ≠ f y
theorem nodup_ahead {α β : Type} [DecidableEq β] (f : α → β) (l : List α) : (l.map f).Nodup ↔ ∀ i, i < l.length → ahead f l i 0 := by
  unfold ahead
  constructor
  · intro h i hi m x y _ hm hx hy he
    have hm2 : m < l.length := by omega
    rw [List.getElem?_eq_getElem hm2] at hx
    rw [List.getElem?_eq_getElem hi] at hy
    injection hx with hx
    injection hy with hy
    have h2 := List.pairwise_iff_getElem.1 h m i (by simpa using hm2) (by simpa using hi) hm
    simp only [List.getElem_map] at h2
    rw [hx, hy] at h2
    exact h2 he
  · intro h
    refine List.pairwise_iff_getElem.2 (fun m i hm hi hmi => ?_)
    simp only [List.length_map] at hm hi
    simp only [List.getElem_map]
    exact h i hi m _ _ (Nat.zero_le _) hmi (List.getElem?_eq_getElem hm) (List.getElem?_eq_getElem hi)
theorem cols_l1 (l : List Col) (hl : l.length ≤ 1000000) (i : Nat) (hi : i < l.length) (b : Bool) (hn : b = true → ahead (·.f0) l i 0) (hk : ahead (·.f0) l i 0 → Ev (fun k => peristyleref25_Columns.l0 k l ((i + 1 : Nat) : Int)) b) :
    ∀ d j : Nat, j + d = i → (∀ m x y, m < j → l[m]? = some x → l[i]? = some y → x.f0 ≠ y.f0) → Ev (fun k => peristyleref25_Columns.l1 k l (i : Int) (j : Int)) b
  | 0, j, hj, hp => by
    refine Ev.step (f := fun k => peristyleref25_Columns.l0 k l ((i + 1 : Nat) : Int)) (fun k => ?_) (hk (fun m x y _ hm hx hy => hp m x y (by omega) hx hy))
    rw [peristyleref25_Columns.l1, if_neg (by omega), w64 i (by omega)]
  | d + 1, j, hj, hp => by
    have hjl : j < l.length := by omega
    by_cases he : l[j].f0 = l[i].f0
    · have : b = false := by
        cases b
        · rfl
        · exact absurd he (hn rfl j _ _ (Nat.zero_le _) (by omega) (List.getElem?_eq_getElem hjl) (List.getElem?_eq_getElem hi))
      subst this
      refine Ev.step (f := fun _ => some false) (fun k => ?_) (Ev.now _)
      rw [peristyleref25_Columns.l1, if_pos (by omega), if_pos (by omega), if_pos (by omega), if_pos (by omega), if_pos (by omega), rdC_at l j hjl, rdC_at l i hi, if_pos (by rw [ba_eq]; exact he)]
    · refine Ev.step (f := fun k => peristyleref25_Columns.l1 k l (i : Int) ((j + 1 : Nat) : Int)) (fun k => ?_) (cols_l1 l hl i hi b hn hk d (j + 1) (by omega) (fun m x y hm hx hy => ?_))
      · rw [peristyleref25_Columns.l1, if_pos (by omega), if_pos (by omega), if_pos (by omega), if_pos (by omega), if_pos (by omega), rdC_at l j hjl, rdC_at l i hi, if_neg (by rw [ba_eq]; exact he), w64 j (by omega)]
      · by_cases hmj : m = j
        · subst hmj
          rw [List.getElem?_eq_getElem hjl] at hx
          rw [List.getElem?_eq_getElem hi] at hy
          injection hx with hx
          injection hy with hy
          rw [← hx, ← hy]
          exact he
        · exact hp m x y (by omega) hx hy
end Go.Proofs.Ytgjclhhjigflkab.Sc
