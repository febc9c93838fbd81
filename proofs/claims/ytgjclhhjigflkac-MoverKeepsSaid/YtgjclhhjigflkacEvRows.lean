/- Runs, without finding and bytes: counting, flattening, the runs of numbers (cut from XEvRuns, XEvRunsOf by wip/mk/evrows.py). -/
import Derived.Test.YtgjclhhjigflkacMx2
import Derived.Test.YtgjclhhjigflkacMx7
import Derived.Test.YtgjclhhjigflkacMx3
import Derived.Test.YtgjclhhjigflkacPlainEv
namespace Go.Proofs.Ytgjclhhjigflkac.Ru
set_option linter.unusedVariables false
set_option linter.unusedSimpArgs false
open Go.RowKit Go.Proofs.Ytgjclhhjigflkac.M Go.Proofs.Ytgjclhhjigflkac.EvW Go.Proofs.YtgjclhhjigflkacW.PrintWords Go.Proofs.YtgjclhhjigflkacW.PrintLast Go.Proofs.YtgjclhhjigflkacW.PrintMore
theorem w64 (n : Int) (h0 : -9223372036854775808 ≤ n) (h1 : n ≤ 9223372036854775807) : wrap64 n = n := by unfold wrap64; omega
abbrev T := S81
theorem rdR (l : List T) (i : Nat) (h : i < l.length) : rd_T81 l (i : Int) = l[i] := by
  unfold rd_T81
  rw [Int.toNat_natCast, List.getD_eq_getElem?_getD, List.getElem?_eq_getElem h]
  rfl
theorem rdR_mid (done rest : List T) (r : T) : rd_T81 (done ++ r :: rest) (done.length : Int) = r := by
  rw [rdR _ _ (by simp)]
  simp
theorem rdR_last (done rest : List T) (r : T) : rd_T81 ((done ++ [r]) ++ rest) (((done ++ [r]).length : Int) - 1) = r := by
  have e : (((done ++ [r]).length : Int) - 1) = (done.length : Int) := by simp
  rw [e, rdR _ _ (by simp)]
  simp
/-! which runs may be -/
def cnt : Int → Option Int → List T → Int × Bool
  | n, _, [] => (n, true)
  | n, p, r :: l => if r.f1 = n ∧ 1 ≤ r.f2 ∧ r.f2 ≤ 65536 - n ∧ p ≠ some r.f0 then cnt (n + r.f2) (some r.f0) l else (0, false)
def lastV (done : List T) : Option Int := done.getLast?.map (·.f0)
theorem lastV_snoc (done : List T) (r : T) : lastV (done ++ [r]) = some r.f0 := by simp [lastV]
theorem lastV_nil : lastV [] = none := rfl
theorem count_l0 (l : List T) (hl : l.length ≤ 140737488355328) : ∀ (rest done : List T) (n : Int), l = done ++ rest → 0 ≤ n → n ≤ 65536 →
    Ev (fun k => runs_count.l0 k l n l (l.length : Int) (done.length : Int)) (cnt n (lastV done) rest) := by
  intro rest
  induction rest with
  | nil =>
    intro done n h h0 h1
    show Ev _ (n, true)
    refine Ev.step (fun k => by rw [runs_count.l0]) (ev_neg (by rw [h]; simp) (Ev.now _))
  | cons r rest ih =>
    intro done n h h0 h1
    have hlen : l.length = done.length + 1 + rest.length := by rw [h]; simp; omega
    have hr : rd_T81 l (done.length : Int) = r := by rw [h]; exact rdR_mid done rest r
    have hl2 : l = (done ++ [r]) ++ rest := by rw [h]; simp
    have step : r.f2 ≥ 1 → r.f2 ≤ 65536 - n → Ev (fun k => runs_count.l0 k l (wrap64 (n + r.f2)) l (l.length : Int) (wrap64 ((done.length : Int) + 1))) (cnt (n + r.f2) (some r.f0) rest) := by
      intro g1 g2
      have := ih (done ++ [r]) (n + r.f2) hl2 (by omega) (by omega)
      rw [lastV_snoc] at this
      rw [w64 _ (by omega) (by omega), w64 _ (by omega) (by omega)]
      simpa using this
    refine Ev.step (fun k => by rw [runs_count.l0, hr]) (ev_pos (by omega) (ev_pos (by omega) (ev_pos (by omega) ?_)))
    rw [cnt]
    by_cases c1 : r.f1 = n
    · refine ev_pos c1 ?_
      by_cases c2 : r.f2 < 1
      · rw [if_neg (by omega)]
        exact ev_pos c2 (Ev.now _)
      · refine ev_neg c2 ?_
        rw [w64 (65536 - n) (by omega) (by omega)]
        by_cases c3 : r.f2 > 65536 - n
        · rw [if_neg (by omega)]
          exact ev_pos c3 (Ev.now _)
        · refine ev_neg c3 ?_
          rcases List.eq_nil_or_concat done with hd | ⟨d, q, hd⟩
          · subst hd
            rw [if_pos ⟨c1, by omega, by omega, by simp [lastV_nil]⟩]
            exact ev_neg (by simp) (step (by omega) (by omega))
          · rw [List.concat_eq_append] at hd
            subst hd
            rw [lastV_snoc]
            have hq : rd_T81 l (((d ++ [q]).length : Int) - 1) = q := by rw [h]; exact rdR_last d (r :: rest) q
            refine ev_pos (by simp) ?_
            rw [w64 (((d ++ [q]).length : Int) - 1) (by omega) (by omega), hq]
            refine ev_pos (by simp) (ev_pos (by omega) ?_)
            by_cases c4 : r.f0 = q.f0
            · rw [if_neg (by rintro ⟨_, _, _, h4⟩; exact h4 (by rw [c4]))]
              exact ev_pos c4 (Ev.now _)
            · rw [if_pos ⟨c1, by omega, by omega, fun h4 => c4 (Option.some.inj h4).symm⟩]
              exact ev_neg c4 (step (by omega) (by omega))
    · rw [if_neg (fun h => c1 h.1)]
      exact ev_neg c1 (Ev.now _)
theorem count_ev (l : List T) (hl : l.length ≤ 140737488355328) : Ev (fun k => runs_count.f k l) (cnt 0 none l) :=
  count_l0 l hl l [] 0 rfl (by omega) (by omega)
/-! the numbers of runs -/
def flat (l : List T) : List Int := l.flatMap fun r => List.replicate r.f2.toNat r.f0
theorem flat_cons (r : T) (l : List T) : flat (r :: l) = List.replicate r.f2.toNat r.f0 ++ flat l := by simp [flat]
theorem flat_append (l m : List T) : flat (l ++ m) = flat l ++ flat m := by simp [flat]
theorem cnt_ok : ∀ (l : List T) (n : Int) (p : Option Int) (m : Int), cnt n p l = (m, true) → 0 ≤ n → n ≤ 65536 → m = n + (flat l).length ∧ m ≤ 65536 ∧ (l.length : Int) ≤ m - n ∧ ∀ r ∈ l, 1 ≤ r.f2 ∧ r.f2 ≤ 65536 := by
  intro l
  induction l with
  | nil => intro n p m h h0 h1; simp [cnt] at h; subst h; simp [flat]; omega
  | cons r l ih =>
    intro n p m h h0 h1
    rw [cnt] at h
    split at h
    · rename_i hc
      obtain ⟨g1, g2, g3, g4⟩ := ih _ _ _ h (by omega) (by omega)
      rw [flat_cons, List.length_append, List.length_replicate, List.length_cons]
      refine ⟨by omega, by omega, by omega, ?_⟩
      intro q hq
      rcases List.mem_cons.1 hq with hq | hq
      · subst hq; omega
      · exact g4 q hq
    · simp at h
theorem cnt_no : ∀ (l : List T) (n : Int) (p : Option Int), (cnt n p l).2 = false → cnt n p l = (0, false) := by
  intro l
  induction l with
  | nil => intro n p h; simp [cnt] at h
  | cons r l ih =>
    intro n p h
    rw [cnt] at h ⊢
    split
    · rename_i hc; rw [if_pos hc] at h; exact ih _ _ h
    · rfl
theorem cnt_yes (l : List T) (h : (cnt 0 none l).2 = true) : cnt 0 none l = (((flat l).length : Int), true) := by
  have h2 : cnt 0 none l = ((cnt 0 none l).1, true) := by rw [← h]
  obtain ⟨g1, _⟩ := cnt_ok l 0 none _ h2 (by omega) (by omega)
  rw [h2, g1]
  simp
theorem cnt_len (l : List T) (h : (cnt 0 none l).2 = true) : (flat l).length ≤ 65536 ∧ l.length ≤ 65536 ∧ ∀ r ∈ l, 1 ≤ r.f2 ∧ r.f2 ≤ 65536 := by
  obtain ⟨_, g2, g3, g4⟩ := cnt_ok l 0 none _ (cnt_yes l h) (by omega) (by omega)
  exact ⟨by omega, by omega, g4⟩
def flatS (l : List T) : List Int × Int := if (cnt 0 none l).2 = true then (flat l, 0) else ([], 1)
theorem flat_l0 (l : List T) (hl : l.length ≤ 65536) (ha : ∀ r ∈ l, 1 ≤ r.f2 ∧ r.f2 ≤ 65536) : ∀ (rest done : List T) (out : List Int), l = done ++ rest → out.length + (flat rest).length ≤ 65536 →
    Ev (fun k => runs_Flat.l0 k out l (l.length : Int) (done.length : Int)) (out ++ flat rest, 0) := by
  intro rest
  induction rest with
  | nil =>
    intro done out h _
    refine Ev.step (fun k => by rw [runs_Flat.l0]) (ev_neg (by rw [h]; simp) (Ev.congr (fun _ => by simp [flat]) (Ev.now _)))
  | cons r rest ih =>
    intro done out h h2
    have hlen : l.length = done.length + 1 + rest.length := by rw [h]; simp; omega
    have hr : rd_T81 l (done.length : Int) = r := by rw [h]; exact rdR_mid done rest r
    have hl2 : l = (done ++ [r]) ++ rest := by rw [h]; simp
    have hr2 := ha r (by rw [h]; simp)
    have hrep : slices_Repeat_int_int.f [r.f0] r.f2 = some (List.replicate r.f2.toNat r.f0) := by
      unfold slices_Repeat_int_int.f
      rw [if_pos ⟨rfl, by omega, by omega⟩]
      rfl
    rw [flat_cons, List.length_append, List.length_replicate] at h2
    refine Ev.step (fun k => by rw [runs_Flat.l0, hr]) (ev_pos (by omega) (ev_pos (by omega) (ev_pos (by omega) ?_)))
    refine Ev.congr (fun k => by rw [hrep, Option.bind_some]) (ev_pos (by rw [List.length_replicate]; omega) ?_)
    have := ih (done ++ [r]) (out ++ List.replicate r.f2.toNat r.f0) hl2 (by rw [List.length_append, List.length_replicate]; omega)
    rw [w64 _ (by omega) (by omega), flat_cons, ← List.append_assoc]
    simpa using this
theorem flat_ev (l : List T) (hl : l.length ≤ 140737488355328) : Ev (fun k => runs_Flat.f k l) (flatS l) := by
  refine Ev.bind (count_ev l hl) ?_
  unfold flatS
  by_cases h : (cnt 0 none l).2 = true
  · rw [if_pos h]
    obtain ⟨g1, g2, g3⟩ := cnt_len l h
    refine ev_pos h (ev_pos (by rw [cnt_yes l h]; omega) (ev_pos (by rw [cnt_yes l h]; simp only; omega) ?_))
    exact flat_l0 l g2 g3 l [] [] rfl (by simpa using g1)
  · rw [if_neg h]
    exact ev_neg h (Ev.now _)
theorem rsame_l0 (l : List T) (hl : l.length ≤ 1000000) (d : Nat) : ∀ i : Int, i + d = l.length → 0 ≤ i → Ev (fun k => peristyleref10_Same.l0 k l l i) true := by
  induction d with
  | zero =>
    intro i h1 h2
    refine Ev.step (fun k => by rw [peristyleref10_Same.l0]) (ev_neg (by omega) (Ev.now _))
  | succ d ih =>
    intro i h1 h2
    refine Ev.step (fun k => by rw [peristyleref10_Same.l0]) (ev_pos (by omega) (ev_pos h2 (ev_pos (by omega) (ev_neg (by simp) ?_))))
    rw [w64 _ (by omega) (by omega)]
    exact ih (i + 1) (by omega) (by omega)
theorem rsame_ev (l : List T) (hl : l.length ≤ 1000000) : Ev (fun k => peristyleref10_Same.f k l l) true := ev_pos rfl (rsame_l0 l hl l.length 0 (by omega) (by omega))
theorem rd_at (l : List Int) (i : Nat) (h : i < l.length) : rd l (i : Int) = l[i] := by
  unfold rd
  rw [Int.toNat_natCast, List.getD_eq_getElem?_getD, List.getElem?_eq_getElem h]
  rfl
theorem rd_mid (done rest : List Int) (r : Int) : rd (done ++ r :: rest) (done.length : Int) = r := by
  rw [rd_at _ _ (by simp)]
  simp
theorem rd_last (done rest : List Int) (r : Int) : rd ((done ++ [r]) ++ rest) (((done ++ [r]).length : Int) - 1) = r := by
  have e : (((done ++ [r]).length : Int) - 1) = (done.length : Int) := by simp
  rw [e, rd_at _ _ (by simp)]
  simp
def bump (out : List T) : List T := match out.getLast? with
  | none => []
  | some r => out.dropLast ++ [⟨r.f0, r.f1, r.f2 + 1⟩]
theorem bump_snoc (o : List T) (r : T) : bump (o ++ [r]) = o ++ [⟨r.f0, r.f1, r.f2 + 1⟩] := by simp [bump]
def ofG : List Int → List Int → List T → List T
  | _, [], out => out
  | done, n :: rest, out => ofG (done ++ [n]) rest (if done.getLast? = some n then bump out else out ++ [⟨n, (done.length : Int), 1⟩])
structure Inv (done : List Int) (out : List T) : Prop where
  flat : flat out = done
  cnt : cnt 0 none out = ((done.length : Int), true)
  last : lastV out = done.getLast?
theorem cnt_snoc (r : T) : ∀ (a : List T) (n : Int) (p : Option Int) (m : Int), cnt n p a = (m, true) → r.f1 = m → 1 ≤ r.f2 → r.f2 ≤ 65536 - m → (lastV a).or p ≠ some r.f0 → cnt n p (a ++ [r]) = (m + r.f2, true) := by
  intro a
  induction a with
  | nil =>
    intro n p m h h1 h2 h3 h4
    simp only [cnt, Prod.mk.injEq, and_true] at h
    subst h
    rw [List.nil_append, Ru.cnt, if_pos ⟨h1, h2, h3, by simpa [lastV] using h4⟩, Ru.cnt]
  | cons q a ih =>
    intro n p m h h1 h2 h3 h4
    rw [List.cons_append]
    rw [Ru.cnt] at h ⊢
    split at h
    · rename_i hc
      rw [if_pos hc]
      refine ih _ _ _ h h1 h2 h3 ?_
      cases a with
      | nil => simpa [lastV] using h4
      | cons q2 a =>
        have e : lastV (q :: q2 :: a) = lastV (q2 :: a) := by simp [lastV]
        rw [e] at h4
        have e2 : ∃ v, lastV (q2 :: a) = some v := by
          unfold lastV
          rw [List.getLast?_cons]
          exact ⟨_, rfl⟩
        obtain ⟨v, hv⟩ := e2
        rw [hv] at h4 ⊢
        simpa using h4
    · simp at h
theorem cnt_unsnoc (r : T) : ∀ (a : List T) (n : Int) (p : Option Int) (m : Int), cnt n p (a ++ [r]) = (m, true) → cnt n p a = (m - r.f2, true) ∧ r.f1 = m - r.f2 ∧ 1 ≤ r.f2 ∧ (lastV a).or p ≠ some r.f0 := by
  intro a
  induction a with
  | nil =>
    intro n p m h
    rw [List.nil_append, Ru.cnt] at h
    split at h
    · rename_i hc
      simp only [Ru.cnt, Prod.mk.injEq, and_true] at h
      refine ⟨by rw [Ru.cnt, ← h]; simp, by omega, hc.2.1, by simpa [lastV] using hc.2.2.2⟩
    · simp at h
  | cons q a ih =>
    intro n p m h
    rw [List.cons_append, Ru.cnt] at h
    split at h
    · rename_i hc
      obtain ⟨g1, g2, g3, g4⟩ := ih _ _ _ h
      refine ⟨by rw [Ru.cnt, if_pos hc]; exact g1, g2, g3, ?_⟩
      cases a with
      | nil => simpa [lastV] using g4
      | cons q2 a =>
        have e : lastV (q :: q2 :: a) = lastV (q2 :: a) := by simp [lastV]
        rw [e]
        have e2 : ∃ v, lastV (q2 :: a) = some v := by
          unfold lastV
          rw [List.getLast?_cons]
          exact ⟨_, rfl⟩
        obtain ⟨v, hv⟩ := e2
        rw [hv] at g4 ⊢
        simpa using g4
    · simp at h
theorem inv_nil : Inv [] [] := ⟨rfl, rfl, rfl⟩
theorem inv_new {done : List Int} {out : List T} (h : Inv done out) (n : Int) (hn : done.getLast? ≠ some n) (hl : done.length < 65536) : Inv (done ++ [n]) (out ++ [⟨n, (done.length : Int), 1⟩]) := by
  refine ⟨by rw [flat_append, h.flat]; simp [Ru.flat], ?_, by rw [lastV_snoc]; simp⟩
  rw [cnt_snoc _ _ _ _ _ h.cnt rfl (by simp) (by simp only; omega) (by rw [h.last]; simpa using hn)]
  simp
theorem inv_bump {done : List Int} {out : List T} (h : Inv done out) (n : Int) (hn : done.getLast? = some n) (hl : done.length < 65536) : ∃ o r, out = o ++ [r] ∧ r.f0 = n ∧ Inv (done ++ [n]) (o ++ [⟨r.f0, r.f1, r.f2 + 1⟩]) ∧ 1 ≤ r.f2 ∧ r.f2 ≤ (done.length : Int) := by
  rcases List.eq_nil_or_concat out with ho | ⟨o, r, ho⟩
  · subst ho
    have := h.last
    rw [hn] at this
    simp [lastV] at this
  · rw [List.concat_eq_append] at ho
    subst ho
    have hr := h.last
    rw [lastV_snoc, hn] at hr
    have hr := Option.some.inj hr
    obtain ⟨g1, g2, g3, g4⟩ := cnt_unsnoc _ _ _ _ _ h.cnt
    obtain ⟨p1, p2, p3, p4⟩ := cnt_ok _ _ _ _ g1 (by omega) (by omega)
    refine ⟨o, r, rfl, hr, ⟨?_, ?_, by rw [lastV_snoc]; simp [hr]⟩, g3, by omega⟩
    · have hf := h.flat
      rw [flat_append] at hf ⊢
      rw [← hf, List.append_assoc]
      congr 1
      have e1 : Ru.flat [r] = List.replicate r.f2.toNat r.f0 := by simp [Ru.flat]
      have e2 : Ru.flat [(⟨r.f0, r.f1, r.f2 + 1⟩ : T)] = List.replicate (r.f2 + 1).toNat r.f0 := by simp [Ru.flat]
      rw [e1, e2, show (r.f2 + 1).toNat = r.f2.toNat + 1 by omega, List.replicate_succ', hr]
    · rw [cnt_snoc (⟨r.f0, r.f1, r.f2 + 1⟩ : T) _ _ _ _ g1 g2 (by simp only; omega) (by simp only; omega) g4]
      simp only [List.length_append, List.length_singleton, Prod.mk.injEq, and_true]
      omega
theorem inv_step {done : List Int} {out : List T} (h : Inv done out) (n : Int) (hl : done.length < 65536) : Inv (done ++ [n]) (if done.getLast? = some n then bump out else out ++ [⟨n, (done.length : Int), 1⟩]) := by
  split
  · rename_i hn
    obtain ⟨o, r, rfl, e, hi, _⟩ := inv_bump h n hn hl
    rw [bump_snoc]
    exact hi
  · rename_i hn
    exact inv_new h n hn hl
theorem inv_all (l : List Int) (hl : l.length ≤ 65536) : ∀ (rest done : List Int) (out : List T), l = done ++ rest → Inv done out → Inv l (ofG done rest out) := by
  intro rest
  induction rest with
  | nil => intro done out h hi; rw [List.append_nil] at h; rw [h, ofG]; exact hi
  | cons n rest ih =>
    intro done out h hi
    have hlen : l.length = done.length + 1 + rest.length := by rw [h]; simp; omega
    rw [ofG]
    exact ih (done ++ [n]) _ (by rw [h]; simp) (inv_step hi n (by omega))
def ofS (l : List Int) : List T := ofG [] l []
theorem ofS_inv (l : List Int) (hl : l.length ≤ 65536) : Inv l (ofS l) := inv_all l hl l [] [] rfl inv_nil
theorem out_len {done : List Int} {out : List T} (h : Inv done out) (hl : done.length ≤ 65536) : out.length ≤ 65536 := by
  obtain ⟨p1, p2, p3, p4⟩ := cnt_ok _ _ _ _ h.cnt (by omega) (by omega)
  omega
theorem set_last (o : List T) (r q : T) : (o ++ [r]).set o.length q = o ++ [q] := by simp
theorem bump_set (o : List T) (r : T) (h0 : 0 ≤ r.f2) (h1 : r.f2 ≤ 65536) (hl : o.length ≤ 65537) : (o ++ [r]).set ((wrap64 (((o ++ [r]).length : Int) - 1)) : Int).toNat (⟨(rd_T81 (o ++ [r]) (wrap64 (((o ++ [r]).length : Int) - 1))).f0, (rd_T81 (o ++ [r]) (wrap64 (((o ++ [r]).length : Int) - 1))).f1, wrap64 (((rd_T81 (o ++ [r]) (wrap64 (((o ++ [r]).length : Int) - 1))).f2) + 1)⟩ : T) = o ++ [⟨r.f0, r.f1, r.f2 + 1⟩] := by
  have e : wrap64 (((o ++ [r]).length : Int) - 1) = (o.length : Int) := by rw [w64 _ (by simp; try omega) (by simp; try omega)]; simp
  rw [e, rdR_mid o [] r, Int.toNat_natCast, set_last, w64 _ (by omega) (by omega)]
theorem snoc_ok (o : List T) (r : T) (hl : o.length ≤ 65537) : 0 ≤ wrap64 (((o ++ [r]).length : Int) - 1) ∧ wrap64 (((o ++ [r]).length : Int) - 1) < ((o ++ [r]).length : Int) := by
  rw [w64 _ (by simp; try omega) (by simp; try omega)]
  simp; omega
theorem of_l0 (l : List Int) (hl : l.length ≤ 65536) : ∀ (rest done : List Int) (out : List T), l = done ++ rest → Inv done out →
    Ev (fun k => runs_Of.l0 k l out l (l.length : Int) (done.length : Int)) (ofG done rest out) := by
  intro rest
  induction rest with
  | nil =>
    intro done out h hi
    rw [ofG]
    exact Ev.step (fun k => by rw [runs_Of.l0]) (ev_neg (by rw [h]; simp) (Ev.now _))
  | cons n rest ih =>
    intro done out h hi
    have hlen : l.length = done.length + 1 + rest.length := by rw [h]; simp; omega
    have hr : rd l (done.length : Int) = n := by rw [h]; exact rd_mid done rest n
    have hl2 : l = (done ++ [n]) ++ rest := by rw [h]; simp
    have hout := out_len hi (by omega)
    have hnext := ih (done ++ [n]) _ hl2 (inv_step hi n (by omega))
    rw [ofG]
    have hw : wrap64 ((done.length : Int) + 1) = ((done ++ [n]).length : Int) := by rw [w64 _ (by omega) (by omega)]; simp
    have hnew : done.getLast? ≠ some n → Ev (fun k => (some (out ++ [(⟨n, (done.length : Int), 0⟩ : T)] : List T)).bind fun y104 => (if 0 ≤ (wrap64 ((y104.length : Int) - 1)) then (if (wrap64 ((y104.length : Int) - 1)) < (y104.length : Int) then (runs_Of.l0 k l (y104.set ((wrap64 ((y104.length : Int) - 1)) : Int).toNat (⟨(rd_T81 y104 (wrap64 ((y104.length : Int) - 1))).f0, (rd_T81 y104 (wrap64 ((y104.length : Int) - 1))).f1, wrap64 (((rd_T81 y104 (wrap64 ((y104.length : Int) - 1))).f2) + 1)⟩ : T)) l (l.length : Int) (wrap64 ((done.length : Int) + 1))) else (none)) else (none))) (ofG (done ++ [n]) rest (if done.getLast? = some n then bump out else out ++ [⟨n, (done.length : Int), 1⟩])) := by
      intro hne
      rw [if_neg hne] at hnext ⊢
      obtain ⟨s1, s2⟩ := snoc_ok out (⟨n, (done.length : Int), 0⟩ : T) (by omega)
      refine Ev.congr (fun k => by rw [Option.bind_some]) (ev_pos s1 (ev_pos s2 ?_))
      rw [bump_set _ _ (by simp) (by simp) (by omega), hw]
      simpa using hnext
    refine Ev.step (fun k => by rw [runs_Of.l0, hr]) (ev_pos (by omega) (ev_pos (by omega) (ev_pos (by omega) ?_)))
    rcases List.eq_nil_or_concat done with hd | ⟨d, q, hd⟩
    · subst hd
      exact ev_pos (by simp) (ev_pos (by omega) (hnew (by simp)))
    · rw [List.concat_eq_append] at hd
      subst hd
      have hq : rd l (wrap64 (((d ++ [q]).length : Int) - 1)) = q := by rw [w64 _ (by omega) (by omega), h]; exact rd_last d (n :: rest) q
      have hwl : wrap64 (((d ++ [q]).length : Int) - 1) = ((d ++ [q]).length : Int) - 1 := w64 _ (by omega) (by omega)
      refine ev_neg (by simp; try omega) (ev_pos (by rw [hwl]; simp) (ev_pos (by rw [hwl]; omega) ?_))
      rw [hq]
      by_cases hnq : n = q
      · subst hnq
        have hne : (d ++ [n]).getLast? = some n := by simp
        obtain ⟨o, r, rfl, e, hi2, g1, g2⟩ := inv_bump hi n hne (by omega)
        obtain ⟨s1, s2⟩ := snoc_ok o r (by simp at hout; omega)
        refine ev_pos rfl (ev_pos s1 (ev_pos s2 ?_))
        rw [bump_set _ _ (by omega) (by omega) (by simp at hout; omega), hw]
        rw [if_pos hne, bump_snoc] at hnext ⊢
        exact hnext
      · exact ev_neg hnq (ev_pos (by omega) (hnew (by simp; exact fun h => hnq h.symm)))
theorem of_ev (l : List Int) (hl : l.length ≤ 65536) : Ev (fun k => runs_Of.f k l) (ofS l) :=
  ev_neg (by omega) (of_l0 l hl l [] [] rfl inv_nil)
end Go.Proofs.Ytgjclhhjigflkac.Ru
