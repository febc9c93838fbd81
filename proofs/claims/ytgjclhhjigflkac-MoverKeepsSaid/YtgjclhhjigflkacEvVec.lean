/- Mover: light lists of rows, the merge, the vectors and the lives, of the program (parts of EvMerge and EvLives). -/
import Derived.Test.YtgjclhhjigflkacMx6
import Derived.Test.YtgjclhhjigflkacMx2
import Derived.Test.YtgjclhhjigflkacMx7
import Derived.Test.YtgjclhhjigflkacWalkMerge
import Derived.Test.YtgjclhhjigflkacEvLive
namespace Go.Proofs.Ytgjclhhjigflkac.Mv
set_option linter.unusedVariables false
set_option linter.unusedSimpArgs false
open Go.RowKit Go.Proofs.Ytgjclhhjigflkac.M Go.Proofs.Ytgjclhhjigflkac.EvW Go.Proofs.Ytgjclhhjigflkac.Ru Go.Proofs.YtgjclhhjigflkacW.PrintWords Go.Proofs.YtgjclhhjigflkacW.PrintLast Go.Proofs.YtgjclhhjigflkacW.PrintMore
theorem llight_l0 (l : List L) (d : Nat) : ∀ j : Nat, j + d = 30 → ∃ b, Ev (fun k => peristyleref22_Light.l0 k l 30 (j : Int)) b ∧ (b = true → l.length ≤ 30 ∧ ∀ i (hi : i < l.length), j ≤ i → l[i].f0.length ≤ 20) := by
  have hend : ∀ j : Nat, ¬ ((j : Int) < 30) ∨ ¬ ((j : Int) < (l.length : Int)) → ∃ b, Ev (fun k => peristyleref22_Light.l0 k l 30 (j : Int)) b ∧ (b = true → l.length ≤ 30 ∧ ∀ i (hi : i < l.length), j ≤ i → l[i].f0.length ≤ 20) := by
    intro j hj
    refine ⟨decide ((l.length : Int) ≤ 30), ?_, fun h => ⟨by have := of_decide_eq_true h; omega, fun i hi hji => by have := of_decide_eq_true h; omega⟩⟩
    by_cases hc : (j : Int) < (l.length : Int)
    · exact Ev.step (fun k => by rw [peristyleref22_Light.l0]) (ev_pos hc (Ev.step (fun k => by rw [peristyleref22_Light.j1]) (ev_neg (by simp; omega) (Ev.now _))))
    · exact Ev.step (fun k => by rw [peristyleref22_Light.l0]) (ev_neg hc (Ev.step (fun k => by rw [peristyleref22_Light.j1]) (ev_neg (by decide) (Ev.now _))))
  induction d with
  | zero =>
    intro j hj
    exact hend j (by omega)
  | succ d ih =>
    intro j hj
    by_cases hc : (j : Int) < (l.length : Int)
    · have hjl : j < l.length := by omega
      obtain ⟨c, h1, h2⟩ := light_ev (l[j].f0)
      cases c with
      | false =>
        refine ⟨false, Ev.step (fun k => by rw [peristyleref22_Light.l0]) (ev_pos hc (Ev.step (fun k => by rw [peristyleref22_Light.j1, rdL l j hjl]) (ev_pos (decide_eq_true (by omega)) (ev_pos (by omega) (ev_pos hc (Ev.bind h1 ?_)))))), by simp⟩
        exact ev_neg Bool.false_ne_true (Ev.now _)
      | true =>
        obtain ⟨b, h3, h4⟩ := ih (j + 1) (by omega)
        refine ⟨b, Ev.step (fun k => by rw [peristyleref22_Light.l0]) (ev_pos hc (Ev.step (fun k => by rw [peristyleref22_Light.j1, rdL l j hjl]) (ev_pos (decide_eq_true (by omega)) (ev_pos (by omega) (ev_pos hc (Ev.bind h1 (ev_pos rfl ?_))))))), ?_⟩
        · rw [w64 _ (by omega) (by omega)]
          rw [Int.natCast_add] at h3
          exact h3
        · intro hb
          refine ⟨(h4 hb).1, fun i hi hji => ?_⟩
          by_cases he : i = j
          · subst he; exact h2 rfl
          · exact (h4 hb).2 i hi (by omega)
    · exact hend j (.inr hc)
theorem llight_ev (l : List L) : ∃ b, Ev (fun k => peristyleref22_Light.f k l 30) b ∧ (b = true → l.length ≤ 30 ∧ ∀ x ∈ l, x.f0.length ≤ 20) := by
  obtain ⟨b, h1, h2⟩ := llight_l0 l 30 0 rfl
  refine ⟨b, h1, fun h => ⟨(h2 h).1, fun x hx => ?_⟩⟩
  obtain ⟨i, hi, rfl⟩ := List.getElem_of_mem hx
  exact (h2 h).2 i hi (by omega)
theorem merge_is (l0 l1 : List L) (low : Int) (h : l0.length + l1.length ≤ 1000000) : mover_Merge.f l0 l1 low = some ((l0 ++ l1).filter fun x => !goneB low x) := by unfold mover_Merge.f; rw [if_pos h]
def marksS : Nat → List L → List Mk
  | _, [] => []
  | i, r :: l => if r.f2 = 0 then marksS (i + 1) l else (⟨(i : Int), r.f2⟩ : Mk) :: marksS (i + 1) l
theorem marksS_len : ∀ (l : List L) (i : Nat), (marksS i l).length ≤ l.length
  | [], _ => by simp [marksS]
  | r :: l, i => by
    have := marksS_len l (i + 1)
    rw [marksS]
    split
    · rw [List.length_cons]; omega
    · rw [List.length_cons, List.length_cons]; omega
def vecS (l : List L) : List (List C) × List T × List Mk := (l.map (·.f0), ofS (l.map (·.f1)), marksS 0 l)
theorem vec_l0 (l : List L) (hl : l.length ≤ 60000) : ∀ (rest done : List L) (a : List (List C)) (b : List Int) (c : List Mk), l = done ++ rest → a.length = done.length → b.length = done.length → c.length ≤ done.length →
    Ev (fun k => mover_Vectors.l0 k a b c l (l.length : Int) (done.length : Int)) (a ++ rest.map (·.f0), ofS (b ++ rest.map (·.f1)), c ++ marksS done.length rest) := by
  intro rest
  induction rest with
  | nil =>
    intro done a b c h ha hb hc
    rw [List.append_nil] at h
    refine Ev.step (fun k => by rw [mover_Vectors.l0]) (ev_neg (by rw [h]; simp) (Ev.bind (of_ev b (by rw [hb, ← h]; omega)) ?_))
    exact Ev.congr (fun _ => by simp [marksS]) (Ev.now _)
  | cons r rest ih =>
    intro done a b c h ha hb hc
    have hlen : l.length = done.length + 1 + rest.length := by rw [h]; simp; omega
    have hr : rd_T28 l (done.length : Int) = r := by rw [h]; exact rdL_mid done rest r
    have hl2 : l = (done ++ [r]) ++ rest := by rw [h]; simp
    have hw : wrap64 ((done.length : Int) + 1) = ((done ++ [r]).length : Int) := by rw [w64 _ (by omega) (by omega)]; simp
    have hd : (done ++ [r]).length = done.length + 1 := by simp
    refine Ev.step (fun k => by rw [mover_Vectors.l0, hr, hw]) (ev_pos (by omega) (ev_pos (by omega) (ev_pos (by omega) (ev_pos (by omega) ?_))))
    refine Ev.congr (fun k => by rw [Option.bind_some]) (ev_pos (by omega) (Ev.congr (fun k => by rw [Option.bind_some]) ?_))
    rw [marksS]
    by_cases c1 : r.f2 = 0
    · rw [if_pos c1]
      refine ev_pos c1 ?_
      have := ih (done ++ [r]) (a ++ [r.f0]) (b ++ [r.f1]) c hl2 (by simp; omega) (by simp; omega) (by omega)
      simp only [List.append_assoc, List.singleton_append] at this
      rw [← hd]
      exact this
    · rw [if_neg c1]
      refine ev_neg c1 (ev_pos (by omega) ?_)
      have := ih (done ++ [r]) (a ++ [r.f0]) (b ++ [r.f1]) (c ++ [⟨(done.length : Int), r.f2⟩]) hl2 (by simp; omega) (by simp; omega) (by simp; omega)
      simp only [List.append_assoc, List.singleton_append] at this
      rw [← hd]
      exact this
theorem vec_ev (l : List L) (hl : l.length ≤ 60000) : Ev (fun k => mover_Vectors.f k l) (vecS l) := vec_l0 l hl l [] [] [] [] rfl rfl rfl (Nat.le_refl _)
def goodS : Int → List Mk → Bool
  | _, [] => true
  | p, r :: l => if r.f0 ≤ p then false else if r.f0 ≥ 4096 then false else if 1 ≤ r.f1 ∧ r.f1 ≤ 1099511627776 then goodS r.f0 l else false
theorem good_l0 (l : List Mk) (hl : l.length ≤ 1000000) : ∀ (rest done : List Mk) (p : Int), l = done ++ rest →
    Ev (fun k => epoch_good.l0 k 4096 p l (l.length : Int) (done.length : Int)) (goodS p rest) := by
  intro rest
  induction rest with
  | nil =>
    intro done p h
    show Ev _ true
    exact Ev.step (fun k => by rw [epoch_good.l0]) (ev_neg (by rw [h]; simp) (Ev.now _))
  | cons r rest ih =>
    intro done p h
    have hlen : l.length = done.length + 1 + rest.length := by rw [h]; simp; omega
    have hr : rd_T84 l (done.length : Int) = r := by rw [h]; exact rdM_mid done rest r
    have hl2 : l = (done ++ [r]) ++ rest := by rw [h]; simp
    have hw : wrap64 ((done.length : Int) + 1) = ((done ++ [r]).length : Int) := by rw [w64 _ (by omega) (by omega)]; simp
    refine Ev.step (fun k => by rw [epoch_good.l0, hr, hw]) (ev_pos (by omega) (ev_pos (by omega) (ev_pos (by omega) ?_)))
    rw [goodS]
    by_cases c1 : r.f0 ≤ p
    · rw [if_pos c1]; exact ev_pos c1 (Ev.now _)
    · rw [if_neg c1]
      refine ev_neg c1 ?_
      by_cases c2 : r.f0 ≥ 4096
      · rw [if_pos c2]; exact ev_pos c2 (Ev.now _)
      · rw [if_neg c2]
        refine ev_neg c2 ?_
        by_cases c3 : 1 ≤ r.f1 ∧ r.f1 ≤ 1099511627776
        · rw [if_pos c3]
          have e : epoch_may.f r.f1 = some true := by unfold epoch_may.f; rw [if_pos (by omega), decide_eq_true (by omega)]
          exact Ev.congr (fun k => by rw [e, Option.bind_some]) (ev_pos rfl (ih (done ++ [r]) r.f0 hl2))
        · rw [if_neg c3]
          have e : epoch_may.f r.f1 = some false := by
            unfold epoch_may.f
            by_cases c4 : r.f1 ≥ 1
            · rw [if_pos c4, decide_eq_false (by omega)]
            · rw [if_neg c4]
          exact Ev.congr (fun k => by rw [e, Option.bind_some]) (ev_neg Bool.false_ne_true (Ev.now _))
theorem good_ev (l : List Mk) (hl : l.length ≤ 1000000) : Ev (fun k => epoch_good.f k l 4096) (goodS (-1) l) := good_l0 l hl l [] (-1) rfl
def goneS (i : Int) : List Mk → Int
  | [] => 0
  | r :: l => if r.f0 = i then r.f1 else goneS i l
theorem gone_l0 (l : List Mk) (i : Int) (hl : l.length ≤ 1000000) : ∀ (rest done : List Mk), l = done ++ rest →
    Ev (fun k => epoch_Gone.l0 k i l (l.length : Int) (done.length : Int)) (goneS i rest) := by
  intro rest
  induction rest with
  | nil =>
    intro done h
    show Ev _ (0 : Int)
    exact Ev.step (fun k => by rw [epoch_Gone.l0]) (ev_neg (by rw [h]; simp) (Ev.now _))
  | cons r rest ih =>
    intro done h
    have hlen : l.length = done.length + 1 + rest.length := by rw [h]; simp; omega
    have hr : rd_T84 l (done.length : Int) = r := by rw [h]; exact rdM_mid done rest r
    have hl2 : l = (done ++ [r]) ++ rest := by rw [h]; simp
    have hw : wrap64 ((done.length : Int) + 1) = ((done ++ [r]).length : Int) := by rw [w64 _ (by omega) (by omega)]; simp
    refine Ev.step (fun k => by rw [epoch_Gone.l0, hr, hw]) (ev_pos (by omega) (ev_pos (by omega) (ev_pos (by omega) ?_)))
    rw [goneS]
    by_cases c1 : r.f0 = i
    · rw [if_pos c1]; exact ev_pos c1 (Ev.now _)
    · rw [if_neg c1]; exact ev_neg c1 (ih (done ++ [r]) hl2)
theorem gone_ev (l : List Mk) (i : Int) (hl : l.length ≤ 1000000) : Ev (fun k => epoch_Gone.f k l i) (goneS i l) := gone_l0 l i hl l [] rfl
def rowS (x0 : List (List C)) (ns : List Int) (ms : List Mk) (i : Nat) : L := ⟨rd_L3 x0 (i : Int), rd ns (i : Int), goneS (i : Int) ms⟩
theorem lives_l0 (x0 : List (List C)) (ns : List Int) (ms : List Mk) (hn : ns.length = x0.length) (hl : x0.length ≤ 1000000) (hm : ms.length ≤ 1000000) (d : Nat) : ∀ (i : Nat) (out : List L), i + d = x0.length → out.length = i →
    Ev (fun k => mover_Lives.l0 k ms ns out x0 (x0.length : Int) (i : Int)) (out ++ (List.range' i d).map (rowS x0 ns ms), 0) := by
  induction d with
  | zero =>
    intro i out h ho
    exact Ev.step (fun k => by rw [mover_Lives.l0]) (ev_neg (by omega) (Ev.congr (fun _ => by simp) (Ev.now _)))
  | succ d ih =>
    intro i out h ho
    have hw : wrap64 ((i : Int) + 1) = ((i + 1 : Nat) : Int) := by rw [w64 _ (by omega) (by omega), Int.natCast_add]; rfl
    refine Ev.step (fun k => by rw [mover_Lives.l0, hw]) (ev_pos (by omega) (ev_pos (by omega) (ev_pos (by omega) (ev_pos (by omega) (Ev.bind (gone_ev ms _ hm) ?_)))))
    refine ev_pos (by omega) ?_
    have := ih (i + 1) (out ++ [rowS x0 ns ms i]) (by omega) (by simp; omega)
    rw [List.range'_succ, List.map_cons]
    rw [List.append_assoc, List.singleton_append] at this
    exact this
def tailB (x0 : List (List C)) (ms : List Mk) : Bool := if (ms.length : Int) > 0 then decide ((rd_T84 ms (wrap64 ((ms.length : Int) - 1))).f0 ≥ (x0.length : Int)) else false
def livesS (x0 : List (List C)) (x1 : List T) (ms : List Mk) : List L × Int :=
  if (cnt 0 none x1).2 = true ∧ goodS (-1) ms = true ∧ (flat x1).length = x0.length ∧ tailB x0 ms = false then ((List.range' 0 x0.length).map (rowS x0 (flat x1) ms), 0) else ([], 1)
theorem livesS_no (x0 : List (List C)) (x1 : List T) (ms : List Mk) (h : ¬ ((cnt 0 none x1).2 = true ∧ goodS (-1) ms = true ∧ (flat x1).length = x0.length ∧ tailB x0 ms = false)) : livesS x0 x1 ms = ([], 1) := if_neg h
theorem lives_ev (x0 : List (List C)) (x1 : List T) (ms : List Mk) (h0 : x0.length ≤ 1000000) (h1 : x1.length ≤ 1000000) (hm : ms.length ≤ 1000000) : Ev (fun k => mover_Lives.f k x0 x1 ms) (livesS x0 x1 ms) := by
  have hno : ∀ ns, Ev (fun k => mover_Lives.j0 k x0 ms ns true) (([], 1) : List L × Int) := fun ns => Ev.step (fun k => by rw [mover_Lives.j0]) (ev_pos rfl (Ev.now _))
  have hput : Ev (fun k => epoch_Put.f k ms) (if goodS (-1) ms = true then ((⟨(epochS ms).toArray⟩ : ByteArray), (0 : Int)) else ((⟨#[]⟩ : ByteArray), (1 : Int))) := by
    refine Ev.bind (good_ev ms hm) ?_
    by_cases c : goodS (-1) ms = true
    · rw [show (if goodS (-1) ms = true then ((⟨(epochS ms).toArray⟩ : ByteArray), (0 : Int)) else ((⟨#[]⟩ : ByteArray), (1 : Int))) = _ from if_pos c]; exact ev_pos c (ev_pos hm (Ev.now _))
    · rw [show (if goodS (-1) ms = true then ((⟨(epochS ms).toArray⟩ : ByteArray), (0 : Int)) else ((⟨#[]⟩ : ByteArray), (1 : Int))) = _ from if_neg c]; exact ev_neg c (Ev.now _)
  refine Ev.bind (flat_ev x1 (by omega)) (Ev.bind hput ?_)
  unfold flatS
  by_cases c1 : (cnt 0 none x1).2 = true
  · rw [if_pos c1]
    refine ev_pos rfl ?_
    by_cases c2 : goodS (-1) ms = true
    · rw [if_pos c2]
      refine ev_pos rfl ?_
      by_cases c3 : (flat x1).length = x0.length
      · refine ev_pos (by simp only; omega) ?_
        have hj : Ev (fun k => mover_Lives.j0 k x0 ms (flat x1) (tailB x0 ms)) (livesS x0 x1 ms) := by
          by_cases c4 : tailB x0 ms = false
          · rw [c4]
            unfold livesS
            rw [if_pos ⟨c1, c2, c3, c4⟩]
            refine Ev.step (fun k => by rw [mover_Lives.j0]) (ev_neg Bool.false_ne_true ?_)
            exact lives_l0 x0 (flat x1) ms c3 h0 hm x0.length 0 [] (by omega) rfl
          · rw [livesS_no _ _ _ (fun h => c4 h.2.2.2), (Bool.not_eq_false _).mp c4]
            exact hno _
        unfold tailB at hj
        by_cases c5 : (ms.length : Int) > 0
        · rw [if_pos c5] at hj
          exact ev_pos c5 (ev_pos (by rw [w64 _ (by omega) (by omega)]; omega) (ev_pos (by rw [w64 _ (by omega) (by omega)]; omega) hj))
        · rw [if_neg c5] at hj
          exact ev_neg c5 hj
      · rw [livesS_no _ _ _ (fun h => c3 h.2.2.1)]
        exact ev_neg (by simp only; omega) (hno _)
    · rw [if_neg c2, livesS_no _ _ _ (fun h => c2 h.2.1)]
      exact ev_neg (by decide) (hno _)
  · rw [if_neg c1, livesS_no _ _ _ (fun h => c1 h.1)]
    exact ev_neg (by decide) (hno _)
theorem livesS_ok (x0 : List (List C)) (x1 : List T) (ms : List Mk) (h0 : x0.length ≤ 1000000) (hc : ∀ i (hi : i < x0.length), x0[i].length ≤ 1000000) : (livesS x0 x1 ms).1.length ≤ 1000000 ∧ ∀ x ∈ (livesS x0 x1 ms).1, x.f0.length ≤ 1000000 := by
  unfold livesS
  split
  · refine ⟨by simp; omega, fun x hx => ?_⟩
    obtain ⟨i, hi, rfl⟩ := List.mem_map.1 hx
    have hi2 := (List.mem_range'_1.1 hi).2
    show (rd_L3 x0 (i : Int)).length ≤ _
    rw [rdRow x0 i (by omega)]
    exact hc i (by omega)
  · exact ⟨by simp, by simp⟩
end Go.Proofs.Ytgjclhhjigflkac.Mv
