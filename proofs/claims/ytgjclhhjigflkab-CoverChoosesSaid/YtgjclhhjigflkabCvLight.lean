/- What the statement's light lets in (law 32). -/
import Derived.Test.YtgjclhhjigflkabCvRef3
import Derived.Test.YtgjclhhjigflkabCx1
namespace Go.Proofs.Ytgjclhhjigflkab.Sc
open Go Go.RowKit Go.Proofs.Ytgjclhhjigflkab.C Go.Proofs.Ytgjclhhjigflkab.Hand Go.Proofs.Ytgjclhhjigflkab.EvW Go.Proofs.YtgjclhhjigflkabW.PrintWords
set_option linter.unusedVariables false
set_option linter.unusedSimpArgs false
/-- a loop's answer; if it is true, then P -/
def Tells (f : Nat → Option Bool) (P : Prop) : Prop := ∃ b, Ev f b ∧ (b = true → P)
theorem Tells.step {f g : Nat → Option Bool} {P : Prop} (h : ∀ k, g (k + 1) = f k) (H : Tells f P) : Tells g P := by
  obtain ⟨b, e, p⟩ := H
  exact ⟨b, Ev.step h e, p⟩
theorem Tells.no {g : Nat → Option Bool} {P : Prop} (h : ∀ k, g (k + 1) = some false) : Tells g P := ⟨false, Ev.step (f := fun _ => some false) h (Ev.now _), fun h => by cases h⟩
theorem lt_l2 (t : Tab) (h2 : t.f2.length ≤ 10) {P : Prop} (hk : (∀ (m : Nat) (h : m < t.f2.length), t.f2[m].f0.size ≤ 40 ∧ t.f2[m].f1.length ≤ 12) → Tells (fun k => peristyleref25_Light.l0 k [t] 1) P) :
    ∀ d j : Nat, j + d = t.f2.length → (∀ (m : Nat) (h : m < t.f2.length), m < j → t.f2[m].f0.size ≤ 40 ∧ t.f2[m].f1.length ≤ 12) → Tells (fun k => peristyleref25_Light.l2 k [t] 0 (j : Int) t.f0 t.f1 t.f2) P
  | 0, j, hj, hp => by
    refine Tells.step (f := fun k => peristyleref25_Light.l0 k [t] 1) (fun k => ?_) (hk fun m h => hp m h (by omega))
    rw [peristyleref25_Light.l2, if_neg (by omega), show wrap64 (0 + 1) = 1 from w64 0 (by decide)]
  | d + 1, j, hj, hp => by
    have hlt : j < t.f2.length := by omega
    by_cases h1 : (t.f2[j].f0.size : Int) > 40
    · exact Tells.no (fun k => by rw [peristyleref25_Light.l2, if_pos (by omega), if_pos (by omega), rdP_at _ j hlt, if_pos h1])
    · by_cases h3 : (t.f2[j].f1.length : Int) > 12
      · exact Tells.no (fun k => by rw [peristyleref25_Light.l2, if_pos (by omega), if_pos (by omega), rdP_at _ j hlt, if_neg h1, if_pos h3])
      · refine Tells.step (f := fun k => peristyleref25_Light.l2 k [t] 0 ((j + 1 : Nat) : Int) t.f0 t.f1 t.f2) (fun k => by rw [peristyleref25_Light.l2, if_pos (by omega), if_pos (by omega), rdP_at _ j hlt, if_neg h1, if_neg h3, w64 j (by omega)]) (lt_l2 t h2 hk d (j + 1) (by omega) (fun m h hm => ?_))
        by_cases he : m = j
        · subst he; omega
        · exact hp m h (by omega)
theorem lt_l1 (t : Tab) (h1 : t.f1.length ≤ 12) {P : Prop} (hk : (∀ (m : Nat) (h : m < t.f1.length), t.f1[m].f0.size ≤ 40) → Tells (fun k => peristyleref25_Light.l2 k [t] 0 ((0 : Nat) : Int) t.f0 t.f1 t.f2) P) :
    ∀ d j : Nat, j + d = t.f1.length → (∀ (m : Nat) (h : m < t.f1.length), m < j → t.f1[m].f0.size ≤ 40) → Tells (fun k => peristyleref25_Light.l1 k [t] 0 (j : Int) t.f0 t.f1 t.f2) P
  | 0, j, hj, hp => by
    refine Tells.step (f := fun k => peristyleref25_Light.l2 k [t] 0 ((0 : Nat) : Int) t.f0 t.f1 t.f2) (fun k => ?_) (hk fun m h => hp m h (by omega))
    rw [peristyleref25_Light.l1, if_neg (by omega)]
    rfl
  | d + 1, j, hj, hp => by
    have hlt : j < t.f1.length := by omega
    by_cases h3 : (t.f1[j].f0.size : Int) > 40
    · exact Tells.no (fun k => by rw [peristyleref25_Light.l1, if_pos (by omega), if_pos (by omega), rdC_at _ j hlt, if_pos h3])
    · refine Tells.step (f := fun k => peristyleref25_Light.l1 k [t] 0 ((j + 1 : Nat) : Int) t.f0 t.f1 t.f2) (fun k => by rw [peristyleref25_Light.l1, if_pos (by omega), if_pos (by omega), rdC_at _ j hlt, if_neg h3, w64 j (by omega)]) (lt_l1 t h1 hk d (j + 1) (by omega) (fun m h hm => ?_))
      by_cases he : m = j
      · subst he; omega
      · exact hp m h (by omega)
theorem lights (t : Tab) : Tells (fun k => peristyleref25_Light.f k [t]) (gtB t = true) := by
  unfold peristyleref25_Light.f
  have e0 : rd_T63 [t] 0 = t := rfl
  refine Tells.step (f := fun k => peristyleref25_Light.j1 k [t] 0 true) (fun k => by rw [peristyleref25_Light.l0, if_pos (by simp)]; rfl) ?_
  have hn : Tells (fun k => peristyleref25_Light.j2 k [t] 0 true t.f0 t.f1 t.f2) (gtB t = true) := Tells.no (fun k => by rw [peristyleref25_Light.j2, if_pos rfl])
  by_cases h0 : (t.f0.size : Int) > 40
  · exact Tells.step (fun k => by rw [peristyleref25_Light.j1, if_pos rfl, if_pos (by decide), if_pos (by simp), e0, if_pos h0]) hn
  · by_cases h1 : (t.f1.length : Int) > 12
    · exact Tells.step (fun k => by rw [peristyleref25_Light.j1, if_pos rfl, if_pos (by decide), if_pos (by simp), e0, if_neg h0, if_pos h1]) hn
    · by_cases h2 : (t.f2.length : Int) > 10
      · exact Tells.step (fun k => by rw [peristyleref25_Light.j1, if_pos rfl, if_pos (by decide), if_pos (by simp), e0, if_neg h0, if_neg h1, decide_eq_true h2]) hn
      · refine Tells.step (f := fun k => peristyleref25_Light.j2 k [t] 0 false t.f0 t.f1 t.f2) (fun k => by rw [peristyleref25_Light.j1, if_pos rfl, if_pos (by decide), if_pos (by simp), e0, if_neg h0, if_neg h1, decide_eq_false h2]) ?_
        refine Tells.step (f := fun k => peristyleref25_Light.l1 k [t] 0 ((0 : Nat) : Int) t.f0 t.f1 t.f2) (fun k => by rw [peristyleref25_Light.j2, if_neg (by decide)]; rfl) ?_
        refine lt_l1 t (by omega) (fun hc => lt_l2 t (by omega) (fun hp => ?_) t.f2.length 0 (Nat.zero_add _) (fun m _ hm => by omega)) t.f1.length 0 (Nat.zero_add _) (fun m _ hm => by omega)
        refine ⟨true, Ev.step (f := fun k => peristyleref25_Light.j1 k [t] 1 false) (fun k => by rw [peristyleref25_Light.l0, if_neg (by simp)]) (Ev.step (f := fun _ => some true) (fun k => by rw [peristyleref25_Light.j1, if_neg (by decide)]; rfl) (Ev.now _)), fun _ => ?_⟩
        unfold gtB
        simp only [Bool.and_eq_true, decide_eq_true_eq, List.all_eq_true]
        refine ⟨⟨⟨⟨by omega, by omega⟩, by omega⟩, fun x hx => ?_⟩, fun x hx => ?_⟩
        · obtain ⟨m, hm, rfl⟩ := List.getElem_of_mem hx
          have := hc m hm
          omega
        · obtain ⟨m, hm, rfl⟩ := List.getElem_of_mem hx
          have := hp m hm
          omega
theorem light_j1 (t : Tab) (need : List Int) (us : List ByteArray) (i : Int) : Tells (fun k => peristylelaw32_light.j1 k need us i false t.f0 t.f1 t.f2) (gtB t = true ∧ need.length ≤ 20 ∧ us.length ≤ 20) := by
  obtain ⟨b, e, p⟩ := lights t
  refine Tells.step (f := fun k => (peristyleref25_Light.f k [t]).bind fun r => if r = true then (if (need.length : Int) ≤ 20 then some (decide ((us.length : Int) ≤ 20)) else some false) else some false) (fun k => by rw [peristylelaw32_light.j1, if_neg (by decide)]) ?_
  cases b with
  | false => exact ⟨false, Ev.bind e (ev_neg (by decide) (Ev.now _)), fun h => by cases h⟩
  | true =>
    by_cases h : (need.length : Int) ≤ 20
    · refine ⟨_, Ev.bind e (ev_pos rfl (ev_pos h (Ev.now _))), fun h2 => ⟨p rfl, by omega, ?_⟩⟩
      have := of_decide_eq_true h2
      omega
    · exact ⟨false, Ev.bind e (ev_pos rfl (ev_neg h (Ev.now _))), fun h => by cases h⟩
theorem light_l0 (t : Tab) (need : List Int) (us : List ByteArray) : ∀ d i : Nat, i + d = 20 → Tells (fun k => peristylelaw32_light.l0 k need us (i : Int) t.f0 t.f1 t.f2) (gtB t = true ∧ need.length ≤ 20 ∧ us.length ≤ 20)
  | 0, i, hi => by
    refine Tells.step (f := fun k => peristylelaw32_light.j1 k need us (i : Int) false t.f0 t.f1 t.f2) (fun k => ?_) (light_j1 t need us i)
    rw [peristylelaw32_light.l0, decide_eq_false (by omega : ¬ (i : Int) < 20)]
    exact ite_self _
  | d + 1, i, hi => by
    by_cases hl : i < us.length
    · refine Tells.step (f := fun k => peristylelaw32_light.j1 k need us (i : Int) true t.f0 t.f1 t.f2) (fun k => by rw [peristylelaw32_light.l0, if_pos (by omega), decide_eq_true (by omega : (i : Int) < 20)]) ?_
      by_cases h4 : ((rdOf ByteArray.empty us (i : Int)).size : Int) > 40
      · exact Tells.no (fun k => by rw [peristylelaw32_light.j1, if_pos rfl, if_pos (by omega), if_pos (by omega), if_pos h4])
      · exact Tells.step (fun k => by rw [peristylelaw32_light.j1, if_pos rfl, if_pos (by omega), if_pos (by omega), if_neg h4, w64 i (by omega)]) (light_l0 t need us d (i + 1) (by omega))
    · exact Tells.step (fun k => by rw [peristylelaw32_light.l0, if_neg (by omega)]) (light_j1 t need us i)
theorem light_ev (t : Tab) (need : List Int) (us : List ByteArray) : Tells (fun k => peristylelaw32_light.f k t.f0 t.f1 t.f2 need us) (gtB t = true ∧ need.length ≤ 20 ∧ us.length ≤ 20) := light_l0 t need us 20 0 rfl
end Go.Proofs.Ytgjclhhjigflkab.Sc
