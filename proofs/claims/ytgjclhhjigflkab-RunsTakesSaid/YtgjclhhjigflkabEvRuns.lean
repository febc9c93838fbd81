/- Runs: what the program's and the reference's counting, flattening and finding come to. -/
import Derived.Test.YtgjclhhjigflkabMx2
import Derived.Test.YtgjclhhjigflkabMx3
import Derived.Test.YtgjclhhjigflkabMx7
import Derived.Test.YtgjclhhjigflkabMx10
import Derived.Test.YtgjclhhjigflkabMx8
import Derived.Test.YtgjclhhjigflkabWalkFind
import Derived.Test.YtgjclhhjigflkabWalkRunsPut
import Derived.Test.YtgjclhhjigflkabEvVint
namespace Go.Proofs.Ytgjclhhjigflkab.Ru
set_option linter.unusedVariables false
set_option linter.unusedSimpArgs false
open Go.RowKit Go.Proofs.Ytgjclhhjigflkab.M Go.Proofs.Ytgjclhhjigflkab.EvW Go.Proofs.Ytgjclhhjigflkab.Vi Go.Proofs.YtgjclhhjigflkabW.PrintWords Go.Proofs.YtgjclhhjigflkabW.PrintLast Go.Proofs.YtgjclhhjigflkabW.PrintMore
abbrev T := S86
theorem rdR (l : List T) (i : Nat) (h : i < l.length) : rd_T86 l (i : Int) = l[i] := by
  unfold rd_T86
  rw [Int.toNat_natCast, List.getD_eq_getElem?_getD, List.getElem?_eq_getElem h]
  rfl
theorem rdR_mid (done rest : List T) (r : T) : rd_T86 (done ++ r :: rest) (done.length : Int) = r := by
  rw [rdR _ _ (by simp)]
  simp
theorem rdR_last (done rest : List T) (r : T) : rd_T86 ((done ++ [r]) ++ rest) (((done ++ [r]).length : Int) - 1) = r := by
  have e : (((done ++ [r]).length : Int) - 1) = (done.length : Int) := by simp
  rw [e, rdR _ _ (by simp)]
  simp
/-! which runs may be -/
def cnt : Int → Option Int → List T → Int × Bool
  | n, _, [] => (n, true)
  | n, p, r :: l => if r.f1 = n ∧ 1 ≤ r.f2 ∧ r.f2 ≤ 65536 - n ∧ p ≠ some r.f0 then cnt (n + r.f2) (some r.f0) l else (0, false)
def lastV (done : List T) : Option Int := done.getLast?.map (·.f0)
theorem lastV_snoc (done : List T) (r : T) : lastV (done ++ [r]) = some r.f0 := by simp [lastV]
theorem lastV_nil : lastV [] = none := rfl
theorem count_l0 (l : List T) (hl : l.length ≤ 140737488355328) : ∀ (rest done : List T) (n : Int), l = done ++ rest → 0 ≤ n → n ≤ 65536 →
    Ev (fun k => runs_count.l0 k l n l (l.length : Int) (done.length : Int)) (cnt n (lastV done) rest) := by
  intro rest
  induction rest with
  | nil =>
    intro done n h h0 h1
    show Ev _ (n, true)
    refine Ev.step (fun k => by rw [runs_count.l0]) (ev_neg (by rw [h]; simp) (Ev.now _))
  | cons r rest ih =>
    intro done n h h0 h1
    have hlen : l.length = done.length + 1 + rest.length := by rw [h]; simp; omega
    have hr : rd_T86 l (done.length : Int) = r := by rw [h]; exact rdR_mid done rest r
    have hl2 : l = (done ++ [r]) ++ rest := by rw [h]; simp
    have step : r.f2 ≥ 1 → r.f2 ≤ 65536 - n → Ev (fun k => runs_count.l0 k l (wrap64 (n + r.f2)) l (l.length : Int) (wrap64 ((done.length : Int) + 1))) (cnt (n + r.f2) (some r.f0) rest) := by
      intro g1 g2
      have := ih (done ++ [r]) (n + r.f2) hl2 (by omega) (by omega)
      rw [lastV_snoc] at this
      rw [w64 _ (by omega) (by omega), w64 _ (by omega) (by omega)]
      simpa using this
    refine Ev.step (fun k => by rw [runs_count.l0, hr]) (ev_pos (by omega) (ev_pos (by omega) (ev_pos (by omega) ?_)))
    rw [cnt]
    by_cases c1 : r.f1 = n
    · refine ev_pos c1 ?_
      by_cases c2 : r.f2 < 1
      · rw [if_neg (by omega)]
        exact ev_pos c2 (Ev.now _)
      · refine ev_neg c2 ?_
        rw [w64 (65536 - n) (by omega) (by omega)]
        by_cases c3 : r.f2 > 65536 - n
        · rw [if_neg (by omega)]
          exact ev_pos c3 (Ev.now _)
        · refine ev_neg c3 ?_
          rcases List.eq_nil_or_concat done with hd | ⟨d, q, hd⟩
          · subst hd
            rw [if_pos ⟨c1, by omega, by omega, by simp [lastV_nil]⟩]
            exact ev_neg (by simp) (step (by omega) (by omega))
          · rw [List.concat_eq_append] at hd
            subst hd
            rw [lastV_snoc]
            have hq : rd_T86 l (((d ++ [q]).length : Int) - 1) = q := by rw [h]; exact rdR_last d (r :: rest) q
            refine ev_pos (by simp) ?_
            rw [w64 (((d ++ [q]).length : Int) - 1) (by omega) (by omega), hq]
            refine ev_pos (by simp) (ev_pos (by omega) ?_)
            by_cases c4 : r.f0 = q.f0
            · rw [if_neg (by rintro ⟨_, _, _, h4⟩; exact h4 (by rw [c4]))]
              exact ev_pos c4 (Ev.now _)
            · rw [if_pos ⟨c1, by omega, by omega, fun h4 => c4 (Option.some.inj h4).symm⟩]
              exact ev_neg c4 (step (by omega) (by omega))
    · rw [if_neg (fun h => c1 h.1)]
      exact ev_neg c1 (Ev.now _)
theorem count_ev (l : List T) (hl : l.length ≤ 140737488355328) : Ev (fun k => runs_count.f k l) (cnt 0 none l) :=
  count_l0 l hl l [] 0 rfl (by omega) (by omega)
theorem may_l0 (l : List T) (hl : l.length ≤ 140737488355328) : ∀ (rest done : List T) (n : Int), l = done ++ rest → 0 ≤ n → n ≤ 65536 →
    Ev (fun k => peristyleref10_May.l0 k l n (done.length : Int)) (cnt n (lastV done) rest).2 := by
  intro rest
  induction rest with
  | nil =>
    intro done n h h0 h1
    show Ev _ true
    refine Ev.step (fun k => by rw [peristyleref10_May.l0]) (ev_neg (by rw [h]; simp) (Ev.now _))
  | cons r rest ih =>
    intro done n h h0 h1
    have hlen : l.length = done.length + 1 + rest.length := by rw [h]; simp; omega
    have hr : rd_T86 l (done.length : Int) = r := by rw [h]; exact rdR_mid done rest r
    have hl2 : l = (done ++ [r]) ++ rest := by rw [h]; simp
    have step : r.f2 ≥ 1 → r.f2 ≤ 65536 - n → Ev (fun k => peristyleref10_May.l0 k l (wrap64 (n + r.f2)) (wrap64 ((done.length : Int) + 1))) (cnt (n + r.f2) (some r.f0) rest).2 := by
      intro g1 g2
      have := ih (done ++ [r]) (n + r.f2) hl2 (by omega) (by omega)
      rw [lastV_snoc] at this
      rw [w64 _ (by omega) (by omega), w64 _ (by omega) (by omega)]
      simpa using this
    refine Ev.step (fun k => by rw [peristyleref10_May.l0, hr]) (ev_pos (by omega) (ev_pos (by omega) ?_))
    rw [cnt]
    by_cases c1 : r.f1 = n
    · refine ev_pos c1 ?_
      by_cases c2 : r.f2 < 1
      · rw [if_neg (by omega)]
        exact ev_pos c2 (Ev.now _)
      · refine ev_neg c2 ?_
        rw [w64 (65536 - n) (by omega) (by omega)]
        by_cases c3 : r.f2 > 65536 - n
        · rw [if_neg (by omega)]
          exact ev_pos c3 (Ev.now _)
        · refine ev_neg c3 ?_
          rcases List.eq_nil_or_concat done with hd | ⟨d, q, hd⟩
          · subst hd
            rw [if_pos ⟨c1, by omega, by omega, by simp [lastV_nil]⟩]
            exact ev_neg (by simp) (step (by omega) (by omega))
          · rw [List.concat_eq_append] at hd
            subst hd
            rw [lastV_snoc]
            have hq : rd_T86 l (((d ++ [q]).length : Int) - 1) = q := by rw [h]; exact rdR_last d (r :: rest) q
            refine ev_pos (by simp) ?_
            rw [w64 (((d ++ [q]).length : Int) - 1) (by omega) (by omega), hq]
            refine ev_pos (by simp) (ev_pos (by omega) ?_)
            by_cases c4 : r.f0 = q.f0
            · rw [if_neg (by rintro ⟨_, _, _, h4⟩; exact h4 (by rw [c4]))]
              exact ev_pos c4 (Ev.now _)
            · rw [if_pos ⟨c1, by omega, by omega, fun h4 => c4 (Option.some.inj h4).symm⟩]
              exact ev_neg c4 (step (by omega) (by omega))
    · rw [if_neg (fun h => c1 h.1)]
      exact ev_neg c1 (Ev.now _)
theorem may_ev (l : List T) (hl : l.length ≤ 140737488355328) : Ev (fun k => peristyleref10_May.f k l) (cnt 0 none l).2 :=
  may_l0 l hl l [] 0 rfl (by omega) (by omega)
/-! the numbers of runs -/
def flat (l : List T) : List Int := l.flatMap fun r => List.replicate r.f2.toNat r.f0
theorem flat_cons (r : T) (l : List T) : flat (r :: l) = List.replicate r.f2.toNat r.f0 ++ flat l := by simp [flat]
theorem flat_append (l m : List T) : flat (l ++ m) = flat l ++ flat m := by simp [flat]
theorem cnt_ok : ∀ (l : List T) (n : Int) (p : Option Int) (m : Int), cnt n p l = (m, true) → 0 ≤ n → n ≤ 65536 → m = n + (flat l).length ∧ m ≤ 65536 ∧ (l.length : Int) ≤ m - n ∧ ∀ r ∈ l, 1 ≤ r.f2 ∧ r.f2 ≤ 65536 := by
  intro l
  induction l with
  | nil => intro n p m h h0 h1; simp [cnt] at h; subst h; simp [flat]; omega
  | cons r l ih =>
    intro n p m h h0 h1
    rw [cnt] at h
    split at h
    · rename_i hc
      obtain ⟨g1, g2, g3, g4⟩ := ih _ _ _ h (by omega) (by omega)
      rw [flat_cons, List.length_append, List.length_replicate, List.length_cons]
      refine ⟨by omega, by omega, by omega, ?_⟩
      intro q hq
      rcases List.mem_cons.1 hq with hq | hq
      · subst hq; omega
      · exact g4 q hq
    · simp at h
theorem cnt_no : ∀ (l : List T) (n : Int) (p : Option Int), (cnt n p l).2 = false → cnt n p l = (0, false) := by
  intro l
  induction l with
  | nil => intro n p h; simp [cnt] at h
  | cons r l ih =>
    intro n p h
    rw [cnt] at h ⊢
    split
    · rename_i hc; rw [if_pos hc] at h; exact ih _ _ h
    · rfl
theorem cnt_yes (l : List T) (h : (cnt 0 none l).2 = true) : cnt 0 none l = (((flat l).length : Int), true) := by
  have h2 : cnt 0 none l = ((cnt 0 none l).1, true) := by rw [← h]
  obtain ⟨g1, _⟩ := cnt_ok l 0 none _ h2 (by omega) (by omega)
  rw [h2, g1]
  simp
theorem cnt_len (l : List T) (h : (cnt 0 none l).2 = true) : (flat l).length ≤ 65536 ∧ l.length ≤ 65536 ∧ ∀ r ∈ l, 1 ≤ r.f2 ∧ r.f2 ≤ 65536 := by
  obtain ⟨_, g2, g3, g4⟩ := cnt_ok l 0 none _ (cnt_yes l h) (by omega) (by omega)
  exact ⟨by omega, by omega, g4⟩
def flatS (l : List T) : List Int × Int := if (cnt 0 none l).2 = true then (flat l, 0) else ([], 1)
theorem flat_l0 (l : List T) (hl : l.length ≤ 65536) (ha : ∀ r ∈ l, 1 ≤ r.f2 ∧ r.f2 ≤ 65536) : ∀ (rest done : List T) (out : List Int), l = done ++ rest → out.length + (flat rest).length ≤ 65536 →
    Ev (fun k => runs_Flat.l0 k out l (l.length : Int) (done.length : Int)) (out ++ flat rest, 0) := by
  intro rest
  induction rest with
  | nil =>
    intro done out h _
    refine Ev.step (fun k => by rw [runs_Flat.l0]) (ev_neg (by rw [h]; simp) (Ev.congr (fun _ => by simp [flat]) (Ev.now _)))
  | cons r rest ih =>
    intro done out h h2
    have hlen : l.length = done.length + 1 + rest.length := by rw [h]; simp; omega
    have hr : rd_T86 l (done.length : Int) = r := by rw [h]; exact rdR_mid done rest r
    have hl2 : l = (done ++ [r]) ++ rest := by rw [h]; simp
    have hr2 := ha r (by rw [h]; simp)
    have hrep : slices_Repeat_int_int.f [r.f0] r.f2 = some (List.replicate r.f2.toNat r.f0) := by
      unfold slices_Repeat_int_int.f
      rw [if_pos ⟨rfl, by omega, by omega⟩]
      rfl
    rw [flat_cons, List.length_append, List.length_replicate] at h2
    refine Ev.step (fun k => by rw [runs_Flat.l0, hr]) (ev_pos (by omega) (ev_pos (by omega) (ev_pos (by omega) ?_)))
    refine Ev.congr (fun k => by rw [hrep, Option.bind_some]) (ev_pos (by rw [List.length_replicate]; omega) ?_)
    have := ih (done ++ [r]) (out ++ List.replicate r.f2.toNat r.f0) hl2 (by rw [List.length_append, List.length_replicate]; omega)
    rw [w64 _ (by omega) (by omega), flat_cons, ← List.append_assoc]
    simpa using this
theorem flat_ev (l : List T) (hl : l.length ≤ 140737488355328) : Ev (fun k => runs_Flat.f k l) (flatS l) := by
  refine Ev.bind (count_ev l hl) ?_
  unfold flatS
  by_cases h : (cnt 0 none l).2 = true
  · rw [if_pos h]
    obtain ⟨g1, g2, g3⟩ := cnt_len l h
    refine ev_pos h (ev_pos (by rw [cnt_yes l h]; omega) (ev_pos (by rw [cnt_yes l h]; simp only; omega) ?_))
    exact flat_l0 l g2 g3 l [] [] rfl (by simpa using g1)
  · rw [if_neg h]
    exact ev_neg h (Ev.now _)
theorem rflat_l1 (l : List T) (done rest : List T) (r : T) (h : l = done ++ r :: rest) (R : List Int × Int) (d : Nat) : ∀ (out : List Int) (j : Int), j + d = r.f2 → 0 ≤ j → r.f2 ≤ 65536 → out.length + d ≤ 1000000 →
    Ev (fun k => peristyleref10_Flat.l0 k l (out ++ List.replicate d r.f0) (wrap64 ((done.length : Int) + 1))) R → Ev (fun k => peristyleref10_Flat.l1 k l out (done.length : Int) j) R := by
  have hlen : l.length = done.length + 1 + rest.length := by rw [h]; simp; omega
  have hr : rd_T86 l (done.length : Int) = r := by rw [h]; exact rdR_mid done rest r
  induction d with
  | zero =>
    intro out j h1 h2 h3 h4 h5
    rw [List.replicate_zero, List.append_nil] at h5
    exact Ev.step (fun k => by rw [peristyleref10_Flat.l1, hr]) (ev_pos (by omega) (ev_pos (by omega) (ev_neg (by omega) h5)))
  | succ d ih =>
    intro out j h1 h2 h3 h4 h5
    refine Ev.step (fun k => by rw [peristyleref10_Flat.l1, hr]) (ev_pos (by omega) (ev_pos (by omega) (ev_pos (by omega) (ev_pos (by omega) ?_))))
    rw [w64 (j + 1) (by omega) (by omega)]
    refine ih (out ++ [r.f0]) (j + 1) (by omega) (by omega) h3 (by simp; omega) ?_
    rw [List.append_assoc]
    exact h5
theorem rflat_l0 (l : List T) (hl : l.length ≤ 65536) (ha : ∀ r ∈ l, 1 ≤ r.f2 ∧ r.f2 ≤ 65536) : ∀ (rest done : List T) (out : List Int), l = done ++ rest → out.length + (flat rest).length ≤ 65536 →
    Ev (fun k => peristyleref10_Flat.l0 k l out (done.length : Int)) (out ++ flat rest, 0) := by
  intro rest
  induction rest with
  | nil =>
    intro done out h _
    refine Ev.step (fun k => by rw [peristyleref10_Flat.l0]) (ev_neg (by rw [h]; simp) (Ev.congr (fun _ => by simp [flat]) (Ev.now _)))
  | cons r rest ih =>
    intro done out h h2
    have hlen : l.length = done.length + 1 + rest.length := by rw [h]; simp; omega
    have hl2 : l = (done ++ [r]) ++ rest := by rw [h]; simp
    have hr2 := ha r (by rw [h]; simp)
    rw [flat_cons, List.length_append, List.length_replicate] at h2
    refine Ev.step (fun k => by rw [peristyleref10_Flat.l0]) (ev_pos (by omega) ?_)
    refine rflat_l1 l done rest r h _ r.f2.toNat out 0 (by omega) (by omega) (by omega) (by omega) ?_
    have := ih (done ++ [r]) (out ++ List.replicate r.f2.toNat r.f0) hl2 (by rw [List.length_append, List.length_replicate]; omega)
    rw [w64 _ (by omega) (by omega), flat_cons, ← List.append_assoc]
    simpa using this
theorem rflat_ev (l : List T) (hl : l.length ≤ 140737488355328) : Ev (fun k => peristyleref10_Flat.f k l) (flatS l) := by
  refine Ev.bind (may_ev l hl) ?_
  unfold flatS
  by_cases h : (cnt 0 none l).2 = true
  · rw [if_pos h]
    obtain ⟨g1, g2, g3⟩ := cnt_len l h
    exact ev_pos h (rflat_l0 l g2 g3 l [] [] rfl (by simpa using g1))
  · rw [if_neg h]
    exact ev_neg h (Ev.now _)
/-! which run has a place -/
theorem cnt_split : ∀ (a : List T) (b : List T) (n : Int) (p : Option Int) (m : Int), cnt n p (a ++ b) = (m, true) → 0 ≤ n → n ≤ 65536 → ∃ p', cnt (n + (flat a).length) p' b = (m, true) ∧ 0 ≤ n + (flat a).length ∧ n + (flat a).length ≤ 65536 := by
  intro a
  induction a with
  | nil => intro b n p m h h0 h1; exact ⟨p, by simpa [flat] using h, by simp [flat]; omega, by simp [flat]; omega⟩
  | cons r a ih =>
    intro b n p m h h0 h1
    rw [List.cons_append, cnt] at h
    split at h
    · rename_i hc
      obtain ⟨p', g1, g2, g3⟩ := ih b _ _ m h (by omega) (by omega)
      have e : n + ((flat (r :: a)).length : Int) = n + r.f2 + (flat a).length := by rw [flat_cons, List.length_append, List.length_replicate]; omega
      rw [e]
      exact ⟨p', g1, g2, g3⟩
    · simp at h
theorem cnt_first {l : List T} (h : (cnt 0 none l).2 = true) (i : Nat) (hi : i < l.length) : l[i].f1 = ((flat (l.take i)).length : Int) ∧ 1 ≤ l[i].f2 ∧ l[i].f1 + l[i].f2 ≤ 65536 ∧ l[i].f1 + l[i].f2 = ((flat (l.take (i + 1))).length : Int) := by
  have e : l = l.take i ++ l[i] :: l.drop (i + 1) := by rw [← List.drop_eq_getElem_cons hi, List.take_append_drop]
  have h2 := cnt_yes l h
  have h3 := h2
  rw [e] at h3
  obtain ⟨p', g1, g2, g3⟩ := cnt_split _ _ 0 none _ h3 (by omega) (by omega)
  rw [cnt] at g1
  split at g1
  · rename_i hc
    rw [List.take_succ_eq_append_getElem hi, flat_append, List.length_append]
    have e2 : flat [l[i]] = List.replicate l[i].f2.toNat l[i].f0 := by simp [flat]
    rw [e2, List.length_replicate]
    omega
  · simp at g1
theorem flat_take_le (l : List T) (i j : Nat) (h : i ≤ j) : (flat (l.take i)).length ≤ (flat (l.take j)).length := by
  have e : l.take j = l.take i ++ (l.take j).drop i := by
    have := List.take_append_drop i (l.take j)
    rw [List.take_take, Nat.min_eq_left h] at this
    exact this.symm
  rw [e, flat_append, List.length_append]
  omega
theorem place {l : List T} (h : (cnt 0 none l).2 = true) (at_ : Int) (h0 : 0 ≤ at_) (h1 : at_ < (flat l).length) : ∃ i : Nat, ∃ hi : i < l.length, l[i].f1 ≤ at_ ∧ at_ < l[i].f1 + l[i].f2 := by
  have key : ∀ n : Nat, n ≤ l.length → at_ < (flat (l.take n)).length → ∃ i : Nat, ∃ hi : i < l.length, l[i].f1 ≤ at_ ∧ at_ < l[i].f1 + l[i].f2 := by
    intro n
    induction n with
    | zero => intro _ hh; simp [flat] at hh; omega
    | succ n ih =>
      intro hn hh
      obtain ⟨g1, g2, g3, g4⟩ := cnt_first h n (by omega)
      by_cases hc : at_ < (flat (l.take n)).length
      · exact ih (by omega) hc
      · exact ⟨n, by omega, by omega, by omega⟩
  refine key l.length (Nat.le_refl _) ?_
  rw [List.take_length]
  exact h1
theorem before {l : List T} (h : (cnt 0 none l).2 = true) (i : Nat) (hi : i < l.length) (at_ : Int) (ha : l[i].f1 ≤ at_) (j : Nat) (hj : j < i) : ∃ hj2 : j < l.length, l[j].f1 + l[j].f2 ≤ at_ := by
  refine ⟨by omega, ?_⟩
  obtain ⟨a1, a2, a3, a4⟩ := cnt_first h i hi
  obtain ⟨b1, b2, b3, b4⟩ := cnt_first h j (by omega)
  have := flat_take_le l (j + 1) i (by omega)
  omega
theorem behind {l : List T} (h : (cnt 0 none l).2 = true) (i : Nat) (hi : i < l.length) (at_ : Int) (ha : at_ < l[i].f1 + l[i].f2) (j : Nat) (hj : i < j) (hj2 : j < l.length) : at_ < l[j].f1 := by
  obtain ⟨a1, a2, a3, a4⟩ := cnt_first h i hi
  obtain ⟨b1, b2, b3, b4⟩ := cnt_first h j (by omega)
  have := flat_take_le l (i + 1) j (by omega)
  omega
theorem findAt_ev {l : List T} (h : (cnt 0 none l).2 = true) (at_ : Int) (h0 : 0 ≤ at_) (i : Nat) (hi : i < l.length) (ha : l[i].f1 ≤ at_) (hb : at_ < l[i].f1 + l[i].f2) (d : Nat) : ∀ lo hi2 : Nat, hi2 - lo ≤ d → lo ≤ i → i ≤ hi2 → hi2 ≤ l.length →
    Ev (fun k => findAt l at_ k (lo : Int) (hi2 : Int)) (i : Int) := by
  induction d with
  | zero =>
    intro lo hi2 h1 h2 h3 h4
    have : lo = i := by omega
    subst this
    exact Ev.step (fun k => by rw [findAt]) (ev_neg (by omega) (Ev.now _))
  | succ d ih =>
    intro lo hi2 h1 h2 h3 h4
    by_cases hlt : lo < hi2
    · have hm : ((lo : Int) + (hi2 : Int)) / 2 = ((lo + hi2) / 2 : Nat) := by omega
      obtain ⟨m, hm2⟩ : ∃ m, (lo + hi2) / 2 = m := ⟨_, rfl⟩
      have hml : m < l.length := by omega
      refine Ev.step (fun k => by rw [findAt, hm, hm2, rdR l m hml]) (ev_pos (by omega) ?_)
      obtain ⟨c1, c2, c3, c4⟩ := cnt_first h m hml
      have hw : wrap64 (l[m].f1 + l[m].f2) = l[m].f1 + l[m].f2 := w64 _ (by omega) (by omega)
      by_cases hmi : m < i
      · obtain ⟨_, hb2⟩ := before h i hi at_ ha m hmi
        refine ev_pos (by unfold findCmp; rw [hw, if_neg (by omega), if_pos hb2]; omega) ?_
        have := ih (m + 1) hi2 (by omega) (by omega) h3 h4
        rw [Int.natCast_add] at this
        exact this
      · refine ev_neg ?_ (ih lo m (by omega) h2 (by omega) (by omega))
        unfold findCmp
        rw [hw]
        by_cases hmi2 : i = m
        · subst hmi2
          rw [if_neg (by omega), if_neg (by omega)]
          omega
        · rw [if_pos (behind h i hi at_ hb m (by omega) hml)]
          omega
    · have : lo = i := by omega
      subst this
      exact Ev.step (fun k => by rw [findAt]) (ev_neg (by omega) (Ev.now _))
theorem rfind_l0 {l : List T} (h : (cnt 0 none l).2 = true) (at_ : Int) (h0 : 0 ≤ at_) (hm : at_ ≤ 9223372036854775807) (i : Nat) (hi : i < l.length) (ha : l[i].f1 ≤ at_) (hb : at_ < l[i].f1 + l[i].f2) (d : Nat) : ∀ j : Nat, j + d = i →
    Ev (fun k => peristyleref10_Find.l0 k l at_ (j : Int)) ((i : Int), 0) := by
  have hlen := (cnt_len l h).2.1
  induction d with
  | zero =>
    intro j hj
    have : j = i := by omega
    subst this
    obtain ⟨c1, c2, c3, c4⟩ := cnt_first h j hi
    refine Ev.step (fun k => by rw [peristyleref10_Find.l0, rdR l j hi]) (ev_pos (by omega) (ev_pos (by omega) (ev_pos ha ?_)))
    rw [w64 _ (by omega) (by omega)]
    exact ev_pos (by omega) (Ev.now _)
  | succ d ih =>
    intro j hj
    have hjl : j < l.length := by omega
    obtain ⟨c1, c2, c3, c4⟩ := cnt_first h j hjl
    obtain ⟨_, hb2⟩ := before h i hi at_ ha j (by omega)
    have hnext : Ev (fun k => peristyleref10_Find.l0 k l at_ (wrap64 ((j : Int) + 1))) ((i : Int), 0) := by
      rw [w64 _ (by omega) (by omega)]
      have := ih (j + 1) (by omega)
      rw [Int.natCast_add] at this
      exact this
    refine Ev.step (fun k => by rw [peristyleref10_Find.l0, rdR l j hjl]) (ev_pos (by omega) (ev_pos (by omega) (ev_pos (by omega) ?_)))
    rw [w64 (at_ - l[j].f1) (by omega) (by omega)]
    exact ev_neg (by omega) hnext
theorem rfind_none {l : List T} (h : (cnt 0 none l).2 = true) (at_ : Int) (hw : wf64 at_) (ho : at_ < 0 ∨ (flat l).length ≤ at_) (d : Nat) : ∀ j : Nat, j + d = l.length →
    Ev (fun k => peristyleref10_Find.l0 k l at_ (j : Int)) (0, 3) := by
  have hlen := (cnt_len l h).2.1
  induction d with
  | zero =>
    intro j hj
    exact Ev.step (fun k => by rw [peristyleref10_Find.l0]) (ev_neg (by omega) (Ev.now _))
  | succ d ih =>
    intro j hj
    have hjl : j < l.length := by omega
    obtain ⟨c1, c2, c3, c4⟩ := cnt_first h j hjl
    have c5 := flat_take_le l (j + 1) l.length (by omega)
    rw [List.take_length] at c5
    have hnext : Ev (fun k => peristyleref10_Find.l0 k l at_ (wrap64 ((j : Int) + 1))) (0, 3) := by
      rw [w64 _ (by omega) (by omega)]
      have := ih (j + 1) (by omega)
      rw [Int.natCast_add] at this
      exact this
    refine Ev.step (fun k => by rw [peristyleref10_Find.l0, rdR l j hjl]) (ev_pos (by omega) (ev_pos (by omega) ?_))
    unfold wf64 at hw
    by_cases hc : at_ ≥ l[j].f1
    · refine ev_pos hc ?_
      rw [w64 (at_ - l[j].f1) (by omega) (by omega)]
      exact ev_neg (by omega) hnext
    · exact ev_neg hc hnext
/-- both answer the same -/
theorem find_both (l : List T) (hl : l.length ≤ 1000000000) (at_ : Int) (hw : wf64 at_) : ∃ r : Int × Int, Ev (fun k => runs_Find.f k l at_) r ∧ Ev (fun k => peristyleref10_Find.f k l at_) r := by
  by_cases h : (cnt 0 none l).2 = true
  · have hc := cnt_yes l h
    by_cases hin : 0 ≤ at_ ∧ at_ < (flat l).length
    · obtain ⟨i, hi, ha, hb⟩ := place h at_ hin.1 hin.2
      refine ⟨((i : Int), 0), ?_, ?_⟩
      · refine Ev.bind (count_ev l (by omega)) (ev_pos h (ev_neg (by omega) (ev_neg (by rw [hc]; simp only; omega) (ev_pos hl ?_))))
        exact Ev.bind (findAt_ev h at_ hin.1 i hi ha hb l.length 0 l.length (by omega) (by omega) (by omega) (by omega)) (Ev.now _)
      · unfold wf64 at hw
        exact Ev.bind (may_ev l (by omega)) (ev_pos h (rfind_l0 h at_ hin.1 (by omega) i hi ha hb i 0 (by omega)))
    · refine ⟨(0, 3), ?_, ?_⟩
      · refine Ev.bind (count_ev l (by omega)) (ev_pos h ?_)
        by_cases h0 : at_ < 0
        · exact ev_pos h0 (Ev.now _)
        · exact ev_neg h0 (ev_pos (by rw [hc]; simp only; omega) (Ev.now _))
      · exact Ev.bind (may_ev l (by omega)) (ev_pos h (rfind_none h at_ hw (by omega) l.length 0 (by omega)))
  · refine ⟨(0, 1), ?_, ?_⟩
    · exact Ev.bind (count_ev l (by omega)) (ev_neg h (Ev.now _))
    · exact Ev.bind (may_ev l (by omega)) (ev_neg h (Ev.now _))
/-! lists that are the same -/
theorem same_l0 (l : List Int) (hl : l.length ≤ 1000000) (d : Nat) : ∀ i : Int, i + d = l.length → 0 ≤ i → Ev (fun k => peristyleref01_Same.l0 k l l i) true := by
  induction d with
  | zero =>
    intro i h1 h2
    refine Ev.step (fun k => by rw [peristyleref01_Same.l0]) (ev_neg (by omega) (Ev.now _))
  | succ d ih =>
    intro i h1 h2
    refine Ev.step (fun k => by rw [peristyleref01_Same.l0]) (ev_pos (by omega) (ev_pos h2 (ev_pos (by omega) (ev_pos rfl ?_))))
    rw [w64 _ (by omega) (by omega)]
    exact ih (i + 1) (by omega) (by omega)
theorem same_ev (l : List Int) (hl : l.length ≤ 1000000) : Ev (fun k => peristyleref01_Same.f k l l) true := ev_pos rfl (same_l0 l hl l.length 0 (by omega) (by omega))
theorem rsame_l0 (l : List T) (hl : l.length ≤ 1000000) (d : Nat) : ∀ i : Int, i + d = l.length → 0 ≤ i → Ev (fun k => peristyleref10_Same.l0 k l l i) true := by
  induction d with
  | zero =>
    intro i h1 h2
    refine Ev.step (fun k => by rw [peristyleref10_Same.l0]) (ev_neg (by omega) (Ev.now _))
  | succ d ih =>
    intro i h1 h2
    refine Ev.step (fun k => by rw [peristyleref10_Same.l0]) (ev_pos (by omega) (ev_pos h2 (ev_pos (by omega) (ev_neg (by simp) ?_))))
    rw [w64 _ (by omega) (by omega)]
    exact ih (i + 1) (by omega) (by omega)
theorem rsame_ev (l : List T) (hl : l.length ≤ 1000000) : Ev (fun k => peristyleref10_Same.f k l l) true := ev_pos rfl (rsame_l0 l hl l.length 0 (by omega) (by omega))
end Go.Proofs.Ytgjclhhjigflkab.Ru
