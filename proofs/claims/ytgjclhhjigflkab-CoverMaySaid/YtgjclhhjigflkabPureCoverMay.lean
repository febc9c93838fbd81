/- What is chosen may be (law 32, over the printed chain). -/
import Derived.Test.YtgjclhhjigflkabCx8
import Derived.Test.YtgjclhhjigflkabCvLaw
namespace Go.Proofs.Ytgjclhhjigflkab.Pure
open Go Go.RowKit Go.Proofs.Ytgjclhhjigflkab.C Go.Proofs.Ytgjclhhjigflkab.Hand Go.Proofs.Ytgjclhhjigflkab.EvW Go.Proofs.Ytgjclhhjigflkab.Sc Go.Proofs.YtgjclhhjigflkabW.PrintWords Go.Proofs.YtgjclhhjigflkabW.PrintLast
set_option linter.unusedVariables false
theorem and_255 (x : Int) : Go.bits .and .i64 x 255 = x % 256 := by
  show IntKind.i64.wrap ((BitVec.ofInt 64 x &&& BitVec.ofInt 64 255).toNat : Int) = x % 256
  have e : (BitVec.ofInt 64 x &&& BitVec.ofInt 64 255).toNat = (x % 256).toNat := by
    rw [BitVec.toNat_and, BitVec.toNat_ofInt, BitVec.toNat_ofInt]
    have e2 : ((255 : Int) % ((2 ^ 64 : Nat) : Int)).toNat = 2 ^ 8 - 1 := by decide
    rw [e2, Nat.and_two_pow_sub_one_eq_mod]
    simp only [Nat.reducePow]
    omega
  rw [e, IntKind.wrap_i64]
  omega
def md (n x : Int) : Int := Int.tmod (Go.bits .and .i64 x 255) n
theorem md_in (n x : Int) (h : 1 ≤ n) : inP n (md n x) = true := by
  unfold md inP
  rw [and_255, decide_eq_true_eq]
  exact ⟨Int.tmod_nonneg _ (by omega), Int.tmod_lt_of_pos _ (by omega)⟩
theorem cols_md (t : Tab) (h : 1 ≤ t.f1.length) (l : List Int) : colsIn t (l.map (md t.f1.length)) = true := by
  unfold colsIn
  rw [List.all_eq_true]
  intro x hx
  obtain ⟨y, _, rfl⟩ := List.mem_map.1 hx
  exact md_in _ _ (by omega)
theorem cm_awake (t : Tab) (need tested : List Int) (us : List ByteArray) : Ev (fun k => peristylelaw32_CoverMay.j0 k us true t.f0 t.f1 t.f2 need tested) true :=
  Ev.step (fun k => by rw [peristylelaw32_CoverMay.j0, if_pos rfl]) awake_some
theorem cm_l2 (t : Tab) (hg : gtB t = true) (N : List Int) (hN : N.length ≤ 1000000) (e m : Int) (F : List Int) (m2 : Int) (F2 : List Int) (hF : F.length ≤ 1000000) (hp : ∀ c ∈ N, 0 ≤ placeP t m2 c) (hc : e = 0 → covE t N m F = 0) :
    ∀ d i : Nat, i + d = N.length → Ev (fun k => peristylelaw32_CoverMay.l2 k N e (i : Int) t.f0 t.f1 t.f2 m F m2 F2) true
  | 0, i, hi => by
    by_cases he : e = 0
    · refine Ev.step (f := fun k => (cover_Check.f k t.f0 t.f1 t.f2 N m F).bind fun q => if q = 0 then (peristylelaw32_awake.f k).bind fun r => some r else none) (fun k => by rw [peristylelaw32_CoverMay.l2, if_neg (by omega), if_pos he]) ?_
      exact Ev.bind (check_f t hg N m F hN hF) (ev_pos (hc he) awake_some)
    · exact Ev.step (fun k => by rw [peristylelaw32_CoverMay.l2, if_neg (by omega), if_neg he]) awake_some
  | d + 1, i, hi => by
    have hlt : i < N.length := by omega
    refine Ev.step (f := fun k => (cover_Place.f k t.f0 t.f1 t.f2 m2 N[i]).bind fun q => if q < 0 then none else peristylelaw32_CoverMay.l2 k N e ((i + 1 : Nat) : Int) t.f0 t.f1 t.f2 m F m2 F2) (fun k => by rw [peristylelaw32_CoverMay.l2, if_pos (by omega), if_pos (by omega), rd_at _ i hlt, w64 i (by omega)]) ?_
    have := hp _ (List.getElem_mem hlt)
    exact Ev.bind (place_ev t (gtB_spec hg) m2 N[i]) (ev_neg (by omega) (cm_l2 t hg N hN e m F m2 F2 hF hp hc d (i + 1) (by omega)))
theorem cm_j3 (t : Tab) (hg : gtB t = true) (N : List Int) (hN : N.length ≤ 1000000) (e m : Int) (F : List Int) (m2 : Int) (F2 : List Int) (hF : F.length ≤ 1000000) (hp : ∀ c ∈ N, 0 ≤ placeP t m2 c) (hc : e = 0 → covE t N m F = 0) :
    Ev (fun k => peristylelaw32_CoverMay.j3 k N e false t.f0 t.f1 t.f2 m F m2 F2) true :=
  Ev.step (f := fun k => peristylelaw32_CoverMay.l2 k N e ((0 : Nat) : Int) t.f0 t.f1 t.f2 m F m2 F2) (fun k => by rw [peristylelaw32_CoverMay.j3, if_neg (by decide)]; rfl) (cm_l2 t hg N hN e m F m2 F2 hF hp hc N.length 0 (Nat.zero_add _))
theorem cm_end (t : Tab) (hg : gtB t = true) (hm : mayP t = true) (us : List ByteArray) (need tested N T : List Int) (hn : colsIn t N = true) (ht : colsIn t T = true) (hN : N.length ≤ 1000000) (hT : T.length ≤ 1000000) (hu : us.length ≤ 1000000) (n : Int) :
    Ev (fun k => peristylelaw32_CoverMay.l1 k us n N T (tested.length : Int) t.f0 t.f1 t.f2 need tested) true := by
  refine Ev.step (f := fun k => (cover_Choose.f k t.f0 t.f1 t.f2 N T us).bind fun a => (cover_Choose.f k t.f0 t.f1 t.f2 N T []).bind fun b => if b.2.2 = 0 then (cover_Check.f k t.f0 t.f1 t.f2 N b.1 b.2.1).bind fun q => if q = 0 then (if a.2.2 = 0 then peristylelaw32_CoverMay.j3 k N a.2.2 false t.f0 t.f1 t.f2 a.1 a.2.1 b.1 b.2.1 else peristylelaw32_CoverMay.j3 k N a.2.2 (a.2.2 != 320) t.f0 t.f1 t.f2 a.1 a.2.1 b.1 b.2.1) else peristylelaw32_CoverMay.j3 k N a.2.2 true t.f0 t.f1 t.f2 a.1 a.2.1 b.1 b.2.1 else peristylelaw32_CoverMay.j3 k N a.2.2 true t.f0 t.f1 t.f2 a.1 a.2.1 b.1 b.2.1) (fun k => by rw [peristylelaw32_CoverMay.l1, if_neg (by omega)]) ?_
  have hb := choose_nil hm hn ht
  refine Ev.bind (choose_f t hg N T us hN hT hu) (Ev.bind (choose_f t hg N T [] hN hT (by simp)) (ev_pos hb.1 ?_))
  refine Ev.bind (check_f t hg N _ _ hN (choose_len t hg N T [])) (ev_pos (choose_cov hm hn ht [] hb.1) ?_)
  have hj := cm_j3 t hg N hN (chooseP t N T us).1 (chooseP t N T us).2.1 (chooseP t N T us).2.2 (chooseP t N T []).2.1 (chooseP t N T []).2.2 (choose_len t hg N T us) hb.2 (choose_cov hm hn ht us)
  rcases choose_e hm hn ht us with he | he
  · exact ev_pos he hj
  · refine ev_neg (by show ¬ (chooseP t N T us).1 = 0; omega) ?_
    have e : ((chooseP t N T us).1 != 320) = false := by rw [he]; rfl
    show Ev (fun k => peristylelaw32_CoverMay.j3 k N (chooseP t N T us).1 ((chooseP t N T us).1 != 320) t.f0 t.f1 t.f2 _ _ _ _) true
    rw [e]
    exact hj
theorem cm_l1 (t : Tab) (us : List ByteArray) (need tested N : List Int) (ht : tested.length ≤ 1000000) (h1 : 1 ≤ t.f1.length) (hend : Ev (fun k => peristylelaw32_CoverMay.l1 k us (t.f1.length : Int) N (tested.map (md t.f1.length)) (tested.length : Int) t.f0 t.f1 t.f2 need tested) true) :
    ∀ d i : Nat, i + d = tested.length → Ev (fun k => peristylelaw32_CoverMay.l1 k us (t.f1.length : Int) N ((tested.take i).map (md t.f1.length)) (i : Int) t.f0 t.f1 t.f2 need tested) true
  | 0, i, hi => by
    have e : i = tested.length := by omega
    subst e
    rw [List.take_length]
    exact hend
  | d + 1, i, hi => by
    have hlt : i < tested.length := by omega
    have ih := cm_l1 t us need tested N ht h1 hend d (i + 1) (by omega)
    have e : (tested.take (i + 1)).map (md t.f1.length) = (tested.take i).map (md t.f1.length) ++ [md t.f1.length tested[i]] := by rw [← List.take_append_getElem hlt, List.map_append]; rfl
    rw [e] at ih
    exact Ev.step (fun k => by rw [peristylelaw32_CoverMay.l1, if_pos (by omega), if_pos (by omega), if_neg (by omega), if_pos (by rw [List.length_map, List.length_take]; omega), rd_at _ i hlt, w64 i (by omega)]; rfl) ih
theorem cm_l0 (t : Tab) (us : List ByteArray) (need tested : List Int) (hn : need.length ≤ 1000000) (h1 : 1 ≤ t.f1.length) (hend : Ev (fun k => peristylelaw32_CoverMay.l1 k us (t.f1.length : Int) (need.map (md t.f1.length)) [] ((0 : Nat) : Int) t.f0 t.f1 t.f2 need tested) true) :
    ∀ d i : Nat, i + d = need.length → Ev (fun k => peristylelaw32_CoverMay.l0 k us (t.f1.length : Int) ((need.take i).map (md t.f1.length)) (i : Int) t.f0 t.f1 t.f2 need tested) true
  | 0, i, hi => by
    have e : i = need.length := by omega
    subst e
    rw [List.take_length]
    exact Ev.step (fun k => by rw [peristylelaw32_CoverMay.l0, if_neg (by omega)]; rfl) hend
  | d + 1, i, hi => by
    have hlt : i < need.length := by omega
    have ih := cm_l0 t us need tested hn h1 hend d (i + 1) (by omega)
    have e : (need.take (i + 1)).map (md t.f1.length) = (need.take i).map (md t.f1.length) ++ [md t.f1.length need[i]] := by rw [← List.take_append_getElem hlt, List.map_append]; rfl
    rw [e] at ih
    exact Ev.step (fun k => by rw [peristylelaw32_CoverMay.l0, if_pos (by omega), if_pos (by omega), if_neg (by omega), if_pos (by rw [List.length_map, List.length_take]; omega), rd_at _ i hlt, w64 i (by omega)]; rfl) ih
theorem may_cols {t : Tab} (h : mayP t = true) : 1 ≤ t.f1.length := by
  unfold mayP at h
  simp only [Bool.and_eq_true] at h
  have h2 := h.1.1.1.2
  unfold colsP at h2
  simp only [Bool.and_eq_true, decide_eq_true_eq] at h2
  exact h2.1.1.2
theorem cm_go (t : Tab) (hg : gtB t = true) (hm : mayP t = true) (need tested : List Int) (us : List ByteArray) (hn : need.length ≤ 20) (ht : tested.length ≤ 20) (hu : us.length ≤ 20) : Ev (fun k => peristylelaw32_CoverMay.j0 k us false t.f0 t.f1 t.f2 need tested) true := by
  have h1 := may_cols hm
  refine Ev.step (f := fun k => peristylelaw32_CoverMay.l0 k us (t.f1.length : Int) ((need.take 0).map (md t.f1.length)) ((0 : Nat) : Int) t.f0 t.f1 t.f2 need tested) (fun k => by rw [peristylelaw32_CoverMay.j0, if_neg (by decide)]; rfl) (cm_l0 t us need tested (by omega) h1 ?_ need.length 0 (Nat.zero_add _))
  exact cm_l1 t us need tested (need.map (md t.f1.length)) (by omega) h1 (cm_end t hg hm us need tested _ _ (cols_md t h1 need) (cols_md t h1 tested) (by rw [List.length_map]; omega) (by rw [List.length_map]; omega) (by omega) _) tested.length 0 (Nat.zero_add _)
theorem CoverMay : peristylelaw32_CoverMay.Pure := by
  intro a0_0 l0_1 l0_2 need tested us _ _ _ _ _ _ _ _ _ _ _
  refine Ev.rounds ?_
  unfold peristylelaw32_CoverMay.f
  obtain ⟨b, e, p⟩ := light_ev ⟨a0_0, l0_1, l0_2⟩ need us
  cases b with
  | false => exact Ev.bind e (ev_neg (by decide) (cm_awake ⟨a0_0, l0_1, l0_2⟩ need tested us))
  | true =>
    obtain ⟨hg, hn, hu⟩ := p rfl
    refine Ev.bind e (ev_pos rfl ?_)
    by_cases h : (tested.length : Int) > 20
    · exact ev_pos h (cm_awake ⟨a0_0, l0_1, l0_2⟩ need tested us)
    · refine ev_neg h (Ev.bind (may1_ev ⟨a0_0, l0_1, l0_2⟩ hg) ?_)
      cases hm : mayP ⟨a0_0, l0_1, l0_2⟩ with
      | false => exact cm_awake ⟨a0_0, l0_1, l0_2⟩ need tested us
      | true => exact cm_go ⟨a0_0, l0_1, l0_2⟩ hg hm need tested us hn (by omega) hu
end Go.Proofs.Ytgjclhhjigflkab.Pure
