/- Runs: the runs of numbers, runs as bytes, and what awake comes to. -/
import Derived.Test.YtgjclhhjigflkabMx2
import Derived.Test.YtgjclhhjigflkabMx7
import Derived.Test.YtgjclhhjigflkabMx11
import Derived.Test.YtgjclhhjigflkabMx6
import Derived.Test.YtgjclhhjigflkabEvRuns
namespace Go.Proofs.Ytgjclhhjigflkab.Ru
set_option linter.unusedVariables false
set_option linter.unusedSimpArgs false
open Go.RowKit Go.Proofs.Ytgjclhhjigflkab.M Go.Proofs.Ytgjclhhjigflkab.EvW Go.Proofs.Ytgjclhhjigflkab.Vi Go.Proofs.YtgjclhhjigflkabW.PrintWords Go.Proofs.YtgjclhhjigflkabW.PrintLast Go.Proofs.YtgjclhhjigflkabW.PrintMore
theorem rd_at (l : List Int) (i : Nat) (h : i < l.length) : rd l (i : Int) = l[i] := by
  unfold rd
  rw [Int.toNat_natCast, List.getD_eq_getElem?_getD, List.getElem?_eq_getElem h]
  rfl
theorem rd_mid (done rest : List Int) (r : Int) : rd (done ++ r :: rest) (done.length : Int) = r := by
  rw [rd_at _ _ (by simp)]
  simp
theorem rd_last (done rest : List Int) (r : Int) : rd ((done ++ [r]) ++ rest) (((done ++ [r]).length : Int) - 1) = r := by
  have e : (((done ++ [r]).length : Int) - 1) = (done.length : Int) := by simp
  rw [e, rd_at _ _ (by simp)]
  simp
def bump (out : List T) : List T := match out.getLast? with
  | none => []
  | some r => out.dropLast ++ [⟨r.f0, r.f1, r.f2 + 1⟩]
theorem bump_snoc (o : List T) (r : T) : bump (o ++ [r]) = o ++ [⟨r.f0, r.f1, r.f2 + 1⟩] := by simp [bump]
def ofG : List Int → List Int → List T → List T
  | _, [], out => out
  | done, n :: rest, out => ofG (done ++ [n]) rest (if done.getLast? = some n then bump out else out ++ [⟨n, (done.length : Int), 1⟩])
structure Inv (done : List Int) (out : List T) : Prop where
  flat : flat out = done
  cnt : cnt 0 none out = ((done.length : Int), true)
  last : lastV out = done.getLast?
theorem cnt_snoc (r : T) : ∀ (a : List T) (n : Int) (p : Option Int) (m : Int), cnt n p a = (m, true) → r.f1 = m → 1 ≤ r.f2 → r.f2 ≤ 65536 - m → (lastV a).or p ≠ some r.f0 → cnt n p (a ++ [r]) = (m + r.f2, true) := by
  intro a
  induction a with
  | nil =>
    intro n p m h h1 h2 h3 h4
    simp only [cnt, Prod.mk.injEq, and_true] at h
    subst h
    rw [List.nil_append, Ru.cnt, if_pos ⟨h1, h2, h3, by simpa [lastV] using h4⟩, Ru.cnt]
  | cons q a ih =>
    intro n p m h h1 h2 h3 h4
    rw [List.cons_append]
    rw [Ru.cnt] at h ⊢
    split at h
    · rename_i hc
      rw [if_pos hc]
      refine ih _ _ _ h h1 h2 h3 ?_
      cases a with
      | nil => simpa [lastV] using h4
      | cons q2 a =>
        have e : lastV (q :: q2 :: a) = lastV (q2 :: a) := by simp [lastV]
        rw [e] at h4
        have e2 : ∃ v, lastV (q2 :: a) = some v := by
          unfold lastV
          rw [List.getLast?_cons]
          exact ⟨_, rfl⟩
        obtain ⟨v, hv⟩ := e2
        rw [hv] at h4 ⊢
        simpa using h4
    · simp at h
theorem cnt_unsnoc (r : T) : ∀ (a : List T) (n : Int) (p : Option Int) (m : Int), cnt n p (a ++ [r]) = (m, true) → cnt n p a = (m - r.f2, true) ∧ r.f1 = m - r.f2 ∧ 1 ≤ r.f2 ∧ (lastV a).or p ≠ some r.f0 := by
  intro a
  induction a with
  | nil =>
    intro n p m h
    rw [List.nil_append, Ru.cnt] at h
    split at h
    · rename_i hc
      simp only [Ru.cnt, Prod.mk.injEq, and_true] at h
      refine ⟨by rw [Ru.cnt, ← h]; simp, by omega, hc.2.1, by simpa [lastV] using hc.2.2.2⟩
    · simp at h
  | cons q a ih =>
    intro n p m h
    rw [List.cons_append, Ru.cnt] at h
    split at h
    · rename_i hc
      obtain ⟨g1, g2, g3, g4⟩ := ih _ _ _ h
      refine ⟨by rw [Ru.cnt, if_pos hc]; exact g1, g2, g3, ?_⟩
      cases a with
      | nil => simpa [lastV] using g4
      | cons q2 a =>
        have e : lastV (q :: q2 :: a) = lastV (q2 :: a) := by simp [lastV]
        rw [e]
        have e2 : ∃ v, lastV (q2 :: a) = some v := by
          unfold lastV
          rw [List.getLast?_cons]
          exact ⟨_, rfl⟩
        obtain ⟨v, hv⟩ := e2
        rw [hv] at g4 ⊢
        simpa using g4
    · simp at h
theorem inv_nil : Inv [] [] := ⟨rfl, rfl, rfl⟩
theorem inv_new {done : List Int} {out : List T} (h : Inv done out) (n : Int) (hn : done.getLast? ≠ some n) (hl : done.length < 65536) : Inv (done ++ [n]) (out ++ [⟨n, (done.length : Int), 1⟩]) := by
  refine ⟨by rw [flat_append, h.flat]; simp [Ru.flat], ?_, by rw [lastV_snoc]; simp⟩
  rw [cnt_snoc _ _ _ _ _ h.cnt rfl (by simp) (by simp only; omega) (by rw [h.last]; simpa using hn)]
  simp
theorem inv_bump {done : List Int} {out : List T} (h : Inv done out) (n : Int) (hn : done.getLast? = some n) (hl : done.length < 65536) : ∃ o r, out = o ++ [r] ∧ r.f0 = n ∧ Inv (done ++ [n]) (o ++ [⟨r.f0, r.f1, r.f2 + 1⟩]) ∧ 1 ≤ r.f2 ∧ r.f2 ≤ (done.length : Int) := by
  rcases List.eq_nil_or_concat out with ho | ⟨o, r, ho⟩
  · subst ho
    have := h.last
    rw [hn] at this
    simp [lastV] at this
  · rw [List.concat_eq_append] at ho
    subst ho
    have hr := h.last
    rw [lastV_snoc, hn] at hr
    have hr := Option.some.inj hr
    obtain ⟨g1, g2, g3, g4⟩ := cnt_unsnoc _ _ _ _ _ h.cnt
    obtain ⟨p1, p2, p3, p4⟩ := cnt_ok _ _ _ _ g1 (by omega) (by omega)
    refine ⟨o, r, rfl, hr, ⟨?_, ?_, by rw [lastV_snoc]; simp [hr]⟩, g3, by omega⟩
    · have hf := h.flat
      rw [flat_append] at hf ⊢
      rw [← hf, List.append_assoc]
      congr 1
      have e1 : Ru.flat [r] = List.replicate r.f2.toNat r.f0 := by simp [Ru.flat]
      have e2 : Ru.flat [(⟨r.f0, r.f1, r.f2 + 1⟩ : T)] = List.replicate (r.f2 + 1).toNat r.f0 := by simp [Ru.flat]
      rw [e1, e2, show (r.f2 + 1).toNat = r.f2.toNat + 1 by omega, List.replicate_succ', hr]
    · rw [cnt_snoc (⟨r.f0, r.f1, r.f2 + 1⟩ : T) _ _ _ _ g1 g2 (by simp only; omega) (by simp only; omega) g4]
      simp only [List.length_append, List.length_singleton, Prod.mk.injEq, and_true]
      omega
theorem inv_step {done : List Int} {out : List T} (h : Inv done out) (n : Int) (hl : done.length < 65536) : Inv (done ++ [n]) (if done.getLast? = some n then bump out else out ++ [⟨n, (done.length : Int), 1⟩]) := by
  split
  · rename_i hn
    obtain ⟨o, r, rfl, e, hi, _⟩ := inv_bump h n hn hl
    rw [bump_snoc]
    exact hi
  · rename_i hn
    exact inv_new h n hn hl
theorem inv_all (l : List Int) (hl : l.length ≤ 65536) : ∀ (rest done : List Int) (out : List T), l = done ++ rest → Inv done out → Inv l (ofG done rest out) := by
  intro rest
  induction rest with
  | nil => intro done out h hi; rw [List.append_nil] at h; rw [h, ofG]; exact hi
  | cons n rest ih =>
    intro done out h hi
    have hlen : l.length = done.length + 1 + rest.length := by rw [h]; simp; omega
    rw [ofG]
    exact ih (done ++ [n]) _ (by rw [h]; simp) (inv_step hi n (by omega))
def ofS (l : List Int) : List T := ofG [] l []
theorem ofS_inv (l : List Int) (hl : l.length ≤ 65536) : Inv l (ofS l) := inv_all l hl l [] [] rfl inv_nil
theorem out_len {done : List Int} {out : List T} (h : Inv done out) (hl : done.length ≤ 65536) : out.length ≤ 65536 := by
  obtain ⟨p1, p2, p3, p4⟩ := cnt_ok _ _ _ _ h.cnt (by omega) (by omega)
  omega
theorem set_last (o : List T) (r q : T) : (o ++ [r]).set o.length q = o ++ [q] := by simp
theorem bump_set (o : List T) (r : T) (h0 : 0 ≤ r.f2) (h1 : r.f2 ≤ 65536) (hl : o.length ≤ 65537) : (o ++ [r]).set ((wrap64 (((o ++ [r]).length : Int) - 1)) : Int).toNat (⟨(rd_T86 (o ++ [r]) (wrap64 (((o ++ [r]).length : Int) - 1))).f0, (rd_T86 (o ++ [r]) (wrap64 (((o ++ [r]).length : Int) - 1))).f1, wrap64 (((rd_T86 (o ++ [r]) (wrap64 (((o ++ [r]).length : Int) - 1))).f2) + 1)⟩ : T) = o ++ [⟨r.f0, r.f1, r.f2 + 1⟩] := by
  have e : wrap64 (((o ++ [r]).length : Int) - 1) = (o.length : Int) := by rw [w64 _ (by simp; try omega) (by simp; try omega)]; simp
  rw [e, rdR_mid o [] r, Int.toNat_natCast, set_last, w64 _ (by omega) (by omega)]
theorem snoc_ok (o : List T) (r : T) (hl : o.length ≤ 65537) : 0 ≤ wrap64 (((o ++ [r]).length : Int) - 1) ∧ wrap64 (((o ++ [r]).length : Int) - 1) < ((o ++ [r]).length : Int) := by
  rw [w64 _ (by simp; try omega) (by simp; try omega)]
  simp; omega
theorem of_l0 (l : List Int) (hl : l.length ≤ 65536) : ∀ (rest done : List Int) (out : List T), l = done ++ rest → Inv done out →
    Ev (fun k => runs_Of.l0 k l out l (l.length : Int) (done.length : Int)) (ofG done rest out) := by
  intro rest
  induction rest with
  | nil =>
    intro done out h hi
    rw [ofG]
    exact Ev.step (fun k => by rw [runs_Of.l0]) (ev_neg (by rw [h]; simp) (Ev.now _))
  | cons n rest ih =>
    intro done out h hi
    have hlen : l.length = done.length + 1 + rest.length := by rw [h]; simp; omega
    have hr : rd l (done.length : Int) = n := by rw [h]; exact rd_mid done rest n
    have hl2 : l = (done ++ [n]) ++ rest := by rw [h]; simp
    have hout := out_len hi (by omega)
    have hnext := ih (done ++ [n]) _ hl2 (inv_step hi n (by omega))
    rw [ofG]
    have hw : wrap64 ((done.length : Int) + 1) = ((done ++ [n]).length : Int) := by rw [w64 _ (by omega) (by omega)]; simp
    have hnew : done.getLast? ≠ some n → Ev (fun k => (some (out ++ [(⟨n, (done.length : Int), 0⟩ : T)] : List T)).bind fun y104 => (if 0 ≤ (wrap64 ((y104.length : Int) - 1)) then (if (wrap64 ((y104.length : Int) - 1)) < (y104.length : Int) then (runs_Of.l0 k l (y104.set ((wrap64 ((y104.length : Int) - 1)) : Int).toNat (⟨(rd_T86 y104 (wrap64 ((y104.length : Int) - 1))).f0, (rd_T86 y104 (wrap64 ((y104.length : Int) - 1))).f1, wrap64 (((rd_T86 y104 (wrap64 ((y104.length : Int) - 1))).f2) + 1)⟩ : T)) l (l.length : Int) (wrap64 ((done.length : Int) + 1))) else (none)) else (none))) (ofG (done ++ [n]) rest (if done.getLast? = some n then bump out else out ++ [⟨n, (done.length : Int), 1⟩])) := by
      intro hne
      rw [if_neg hne] at hnext ⊢
      obtain ⟨s1, s2⟩ := snoc_ok out (⟨n, (done.length : Int), 0⟩ : T) (by omega)
      refine Ev.congr (fun k => by rw [Option.bind_some]) (ev_pos s1 (ev_pos s2 ?_))
      rw [bump_set _ _ (by simp) (by simp) (by omega), hw]
      simpa using hnext
    refine Ev.step (fun k => by rw [runs_Of.l0, hr]) (ev_pos (by omega) (ev_pos (by omega) (ev_pos (by omega) ?_)))
    rcases List.eq_nil_or_concat done with hd | ⟨d, q, hd⟩
    · subst hd
      exact ev_pos (by simp) (ev_pos (by omega) (hnew (by simp)))
    · rw [List.concat_eq_append] at hd
      subst hd
      have hq : rd l (wrap64 (((d ++ [q]).length : Int) - 1)) = q := by rw [w64 _ (by omega) (by omega), h]; exact rd_last d (n :: rest) q
      have hwl : wrap64 (((d ++ [q]).length : Int) - 1) = ((d ++ [q]).length : Int) - 1 := w64 _ (by omega) (by omega)
      refine ev_neg (by simp; try omega) (ev_pos (by rw [hwl]; simp) (ev_pos (by rw [hwl]; omega) ?_))
      rw [hq]
      by_cases hnq : n = q
      · subst hnq
        have hne : (d ++ [n]).getLast? = some n := by simp
        obtain ⟨o, r, rfl, e, hi2, g1, g2⟩ := inv_bump hi n hne (by omega)
        obtain ⟨s1, s2⟩ := snoc_ok o r (by simp at hout; omega)
        refine ev_pos rfl (ev_pos s1 (ev_pos s2 ?_))
        rw [bump_set _ _ (by omega) (by omega) (by simp at hout; omega), hw]
        rw [if_pos hne, bump_snoc] at hnext ⊢
        exact hnext
      · exact ev_neg hnq (ev_pos (by omega) (hnew (by simp; exact fun h => hnq h.symm)))
theorem of_ev (l : List Int) (hl : l.length ≤ 65536) : Ev (fun k => runs_Of.f k l) (ofS l) :=
  ev_neg (by omega) (of_l0 l hl l [] [] rfl inv_nil)
theorem rof_l0 (l : List Int) (hl : l.length ≤ 65536) : ∀ (rest done : List Int) (out : List T), l = done ++ rest → Inv done out →
    Ev (fun k => peristyleref10_Of.l0 k l out (done.length : Int)) (ofG done rest out) := by
  intro rest
  induction rest with
  | nil =>
    intro done out h hi
    rw [ofG]
    exact Ev.step (fun k => by rw [peristyleref10_Of.l0]) (ev_neg (by rw [h]; simp) (Ev.step (fun k => by rw [peristyleref10_Of.j1]) (ev_neg (by decide) (Ev.now _))))
  | cons n rest ih =>
    intro done out h hi
    have hlen : l.length = done.length + 1 + rest.length := by rw [h]; simp; omega
    have hr : rd l (done.length : Int) = n := by rw [h]; exact rd_mid done rest n
    have hl2 : l = (done ++ [n]) ++ rest := by rw [h]; simp
    have hout := out_len hi (by omega)
    have hnext := ih (done ++ [n]) _ hl2 (inv_step hi n (by omega))
    rw [ofG]
    have hw : wrap64 ((done.length : Int) + 1) = ((done ++ [n]).length : Int) := by rw [w64 _ (by omega) (by omega)]; simp
    refine Ev.step (fun k => by rw [peristyleref10_Of.l0]) (ev_pos (by omega) (Ev.step (fun k => by rw [peristyleref10_Of.j1, hr]) (ev_pos (decide_eq_true (by omega)) ?_)))
    rcases List.eq_nil_or_concat done with hd | ⟨d, q, hd⟩
    · subst hd
      rw [if_neg (by simp)] at hnext ⊢
      rw [hw]
      exact ev_neg (by simp) (ev_pos (by simp) (ev_pos (by omega) (ev_pos (by omega) hnext)))
    · rw [List.concat_eq_append] at hd
      subst hd
      have hq : rd l (wrap64 (((d ++ [q]).length : Int) - 1)) = q := by rw [w64 _ (by omega) (by omega), h]; exact rd_last d (n :: rest) q
      have hwl : wrap64 (((d ++ [q]).length : Int) - 1) = ((d ++ [q]).length : Int) - 1 := w64 _ (by omega) (by omega)
      refine ev_pos (by simp; try omega) (ev_pos (by omega) (ev_pos (by omega) (ev_pos (by rw [hwl]; simp) (ev_pos (by rw [hwl]; omega) ?_))))
      rw [hq, hw]
      by_cases hnq : n = q
      · subst hnq
        have hne : (d ++ [n]).getLast? = some n := by simp
        obtain ⟨o, r, rfl, e, hi2, g1, g2⟩ := inv_bump hi n hne (by omega)
        obtain ⟨s1, s2⟩ := snoc_ok o r (by simp at hout; omega)
        refine ev_pos rfl (ev_pos s1 (ev_pos s2 ?_))
        rw [bump_set _ _ (by omega) (by omega) (by simp at hout; omega)]
        rw [if_pos hne, bump_snoc] at hnext ⊢
        exact hnext
      · have hne : (d ++ [q]).getLast? ≠ some n := by simp; exact fun h => hnq h.symm
        rw [if_neg hne] at hnext ⊢
        exact ev_neg hnq (ev_pos (by omega) hnext)
theorem rof_ev (l : List Int) (hl : l.length ≤ 65536) : Ev (fun k => peristyleref10_Of.f k l) (ofS l) := rof_l0 l hl l [] [] rfl inv_nil
/-! runs as bytes -/
def putS (l : List T) : ByteArray × Int := if (cnt 0 none l).2 = true then (⟨(rputs l).toArray⟩, 0) else (⟨#[]⟩, 1)
theorem put_ev (l : List T) (hl : l.length ≤ 1000000) : Ev (fun k => runs_Put.f k l) (putS l) := by
  by_cases h : (cnt 0 none l).2 = true
  · have e : putS l = (⟨(rputs l).toArray⟩, 0) := by unfold putS; rw [if_pos h]
    rw [e]
    exact Ev.bind (count_ev l (by omega)) (ev_pos h (ev_pos hl (Ev.now _)))
  · have e : putS l = (⟨#[]⟩, 1) := by unfold putS; rw [if_neg h]
    rw [e]
    exact Ev.bind (count_ev l (by omega)) (ev_neg h (Ev.now _))
theorem rput_l0' (l : List T) (hl : l.length ≤ 65536) (hw : ∀ r ∈ l, wf64 r.f0 ∧ wf64 r.f2) : ∀ (rest done : List T) (acc : ByteArray), l = done ++ rest → acc.size + 20 * rest.length ≤ 100000000 →
    Ev (fun k => peristyleref10_Put.l0 k l acc (done.length : Int)) (⟨(acc.data.toList ++ rputs rest).toArray⟩, 0) := by
  intro rest
  induction rest with
  | nil =>
    intro done acc h _
    exact Ev.step (fun k => by rw [peristyleref10_Put.l0]) (ev_neg (by rw [h]; simp) (Ev.congr (fun _ => by simp [rputs]) (Ev.now _)))
  | cons r rest ih =>
    intro done acc h h2
    have hlen : l.length = done.length + 1 + rest.length := by rw [h]; simp; omega
    have hr : rd_T86 l (done.length : Int) = r := by rw [h]; exact rdR_mid done rest r
    have hl2 : l = (done ++ [r]) ++ rest := by rw [h]; simp
    obtain ⟨w0, w2⟩ := hw r (by rw [h]; simp)
    have z0 := vputB_size r.f0
    have z2 := vputB_size r.f2
    rw [List.length_cons] at h2
    refine Ev.step (fun k => by rw [peristyleref10_Put.l0, hr]) (ev_pos (by omega) (ev_pos (by omega) (Ev.bind (rput_ev r.f0 w0) ?_)))
    refine ev_pos (by omega) (Ev.bind (rput_ev r.f2 w2) ?_)
    refine ev_pos (by rw [ByteArray.size_append]; omega) ?_
    have := ih (done ++ [r]) ((acc ++ vputB r.f0) ++ vputB r.f2) hl2 (by rw [ByteArray.size_append, ByteArray.size_append]; omega)
    rw [w64 _ (by omega) (by omega), rputs_cons, rput, ← List.append_assoc, ← List.append_assoc]
    rw [ByteArray.data_append, Array.toList_append, ByteArray.data_append, Array.toList_append] at this
    simpa using this
theorem rputRuns_ev (l : List T) (hl : l.length ≤ 140737488355328) (hw : ∀ r ∈ l, wf64 r.f0 ∧ wf64 r.f2) : Ev (fun k => peristyleref10_Put.f k l) (putS l) := by
  refine Ev.bind (may_ev l hl) ?_
  unfold putS
  by_cases h : (cnt 0 none l).2 = true
  · rw [if_pos h]
    obtain ⟨g1, g2, g3⟩ := cnt_len l h
    exact ev_pos h (rput_l0' l g2 hw l [] ⟨#[]⟩ rfl (by show 0 + _ ≤ _; omega))
  · rw [if_neg h]
    exact ev_neg h (Ev.now _)
theorem awake_ev : Ev (fun k => peristylelaw10_awake.f k) true := by
  have e1 : ofS [7, 7, 3] = [⟨7, 0, 2⟩, ⟨3, 2, 1⟩] := rfl
  have e2 : (cnt 0 none [(⟨7, 0, 2⟩ : T), ⟨3, 2, 1⟩]).2 = true := by decide +kernel
  have h1 := of_ev [7, 7, 3] (by simp)
  rw [e1] at h1
  have h2 := put_ev [(⟨7, 0, 2⟩ : T), ⟨3, 2, 1⟩] (by simp)
  unfold putS at h2
  rw [if_pos e2] at h2
  have h3 := flat_ev [(⟨7, 0, 2⟩ : T), ⟨3, 2, 1⟩] (by simp)
  unfold flatS at h3
  rw [if_pos e2] at h3
  have h4 : Ev (fun k => runs_Find.f k [(⟨7, 0, 2⟩ : T), ⟨3, 2, 1⟩] 2) (1, 0) := by
    refine Ev.bind (count_ev _ (by simp)) (ev_pos e2 (ev_neg (by omega) (ev_neg (by decide +kernel) (ev_pos (by simp) ?_))))
    exact Ev.bind (findAt_ev e2 2 (by omega) 1 (by simp) (by decide) (by decide) 2 0 2 (by omega) (by omega) (by omega) (by simp)) (Ev.now _)
  refine Ev.bind h1 (Ev.bind h2 (Ev.bind h4 (Ev.bind h3 ?_)))
  refine ev_pos (by decide) (ev_pos (by decide) (ev_pos (by decide +kernel) (ev_pos (by rw [Lib.toList_data]; decide +kernel) (ev_pos (by decide) (ev_pos (by decide) (ev_pos (by decide) ?_))))))
  exact Ev.bind (same_ev [7, 7, 3] (by simp)) (ev_pos rfl (Ev.now _))
end Go.Proofs.Ytgjclhhjigflkab.Ru
