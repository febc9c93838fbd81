import Derived.Test.YtgjclhhjigflkacScDel
import Derived.Outline
import Derived.Test.YtgjclhhjigflkacMyWords
import Derived.Test.YtgjclhhjigflkacProg
import Derived.Lib.Builder
import Derived.Lib.UnsafeStr
import Derived.Laws.Externs
import Derived.Laws.BitsAllLaws
import Derived.Shelf.Strings.Builder1
import Derived.Shelf.Strings.BuilderF
import Derived.Shelf.Strings.BuilderK
import Derived.Shelf.Bits.Mul64
import Derived.Shelf.Slices.Turned
import Derived.RegionTactic
import Derived.BigRegion
import Derived.ChangeAlike
import Derived.Lib.Strings
import Derived.Test.YtgjclhhjigflkacScMix
/- The walk of schema.Remove. (Written by genrem.py.) -/
namespace Go.Proofs.Ytgjclhhjigflkac.Sc
open Go Go.RowKit Go.Proofs.Ytgjclhhjigflkac.C Go.Proofs.Ytgjclhhjigflkac.MyWords Go.Proofs.Ytgjclhhjigflkac.Hand Go.Proofs.YtgjclhhjigflkacW.PrintWords Go.Proofs.YtgjclhhjigflkacW.PrintLast Go.Proofs.YtgjclhhjigflkacW.PrintMore
set_option linter.unusedVariables false
set_option linter.unusedSimpArgs false
def lessP (t : Tab) (a : Int) : Tab := ⟨t.f0, t.f1, t.f2.eraseIdx a.toNat⟩
def removeP (l : List Tab) (n which : ByteArray) : List Tab × Int :=
  if checkP l = true then (if idxF (fun t : Tab => isN n t.f0) l 0 < 0 then ([], 3) else
    if idxF (fun q : Prj => isN which q.f0) (rd_T47 l (idxF (fun t : Tab => isN n t.f0) l 0)).f2 0 < 0 then ([], 3)
    else if (lessP (rd_T47 l (idxF (fun t : Tab => isN n t.f0) l 0)) (idxF (fun q : Prj => isN which q.f0) (rd_T47 l (idxF (fun t : Tab => isN n t.f0) l 0)).f2 0)).f2.any (superP (lessP (rd_T47 l (idxF (fun t : Tab => isN n t.f0) l 0)) (idxF (fun q : Prj => isN which q.f0) (rd_T47 l (idxF (fun t : Tab => isN n t.f0) l 0)).f2 0))) = true then
      (l.set (idxF (fun t : Tab => isN n t.f0) l 0).toNat (lessP (rd_T47 l (idxF (fun t : Tab => isN n t.f0) l 0)) (idxF (fun q : Prj => isN which q.f0) (rd_T47 l (idxF (fun t : Tab => isN n t.f0) l 0)).f2 0)), 0)
    else ([], 250)) else ([], 1)
set_option maxHeartbeats 1500000 in
set_option maxRecDepth 100000 in
theorem remove_calls (l : List Tab) (A : Option Addr) (c0 : Nat) (n which : ByteArray) (w : World) (hr : Kd.C kT w A l.length l) (hc : l.length ≤ c0) (hl : l.length ≤ 1000000) (hg : ∀ t ∈ l, GT t) :
    Calls Try.prog 60 #[.slice A l.length c0, .string n, .string which] w fun e w' => ∃ v, e = .returned (.tuple #[v, .int .i64 (removeP l n which).2]) ∧ Kd.N kT TT w' w.heap.size (fun k => w.heap.size ≤ k) v (removeP l n which).1 ∧ Below w.heap.size w w' := by
  have HR := Aside0.mk hr
  have HG := Aside0.mk hg
  clear hg
  by_cases h0 : checkP l = true
  rotate_left
  · have E0 : Aside0 (checkP l = false) := ⟨by simpa using h0⟩
    have HE : Aside0 (removeP l n which = ([], 1)) := ⟨by unfold removeP; rw [if_neg h0]⟩
    clear h0 hr
    go_enter Try.func60, Try.ntmps60
    go_wp2_with fail
    refine (check_calls l A c0 _ HR.out hc hl HG.out).mono ?_
    rintro e w1 ⟨rfl, hb1⟩
    rw [chkE_no E0.out]
    have HB1 := Aside0.mk hb1
    clear hb1
    go_wp2_with fail
    go_ret2
    rw [HE.out]
    exact ⟨_, rfl, Kd.N_nil _ _ _ _ _, HB1.out⟩
  have E0 : Aside0 (checkP l = true) := ⟨h0⟩
  obtain ⟨r, hr1⟩ : ∃ r, idxF (fun t : Tab => isN n t.f0) l 0 = r := ⟨_, rfl⟩
  have E1 := Aside0.mk hr1
  by_cases h1 : r < 0
  · have HE : Aside0 (removeP l n which = ([], 3)) := ⟨by unfold removeP; rw [if_pos h0, hr1, if_pos h1]⟩
    have hd : decide (r < 0) = true := decide_eq_true h1
    clear h0 hr1 hr
    go_enter Try.func60, Try.ntmps60
    go_wp2_with fail
    refine (check_calls l A c0 _ HR.out hc hl HG.out).mono ?_
    rintro e w1 ⟨rfl, hb1⟩
    rw [chkE_yes E0.out]
    have HB1 := Aside0.mk hb1
    clear hb1
    go_wp2_with fail
    refine (find_calls l A c0 n _ (Kd.C_below HR.out HB1.out) hc hl).mono ?_
    rintro e w2 ⟨rfl, hb2⟩
    rw [E1.out]
    have HB2 := Aside0.mk (below_step HB1.out hb2)
    clear hb2
    go_wp2_with fail
    go_ret2
    rw [HE.out]
    exact ⟨_, rfl, Kd.N_nil _ _ _ _ _, HB2.out⟩
  obtain ⟨m, hm, rfl⟩ : ∃ m : Nat, m < l.length ∧ r = (m : Int) := by
    rcases idxF_range (fun t : Tab => isN n t.f0) l 0 with ⟨h2, _⟩ | ⟨i, hi, h2, _, _⟩
    · omega
    · exact ⟨i, hi, by rw [← hr1, h2, Nat.zero_add]⟩
  have hd : decide ((m : Int) < 0) = false := decide_eq_false h1
  obtain ⟨ad, cl, hA, hcl, hK, hcc⟩ := at_cells hr m hm
  have hgt := HG.out l[m] (List.getElem_mem hm)
  obtain ⟨t, ht⟩ : ∃ t, l[m] = t := ⟨_, rfl⟩
  have hrd : rd_T47 l (m : Int) = t := by rw [rdT_at l m hm, ht]
  rw [ht] at hK hgt
  have HGT := Aside0.mk hgt
  obtain ⟨A1, c1, A2, c2, rfl, hl1, hC1, hl2, hC2⟩ := k47_open hK
  subst hA
  have HCP := Aside0.mk hC2
  have HCROW : Aside0 (∀ w', Below w.heap.size w w' → ∀ j u, ([.string t.f0, .slice A1 t.f1.length c1, .slice A2 t.f2.length c2] : List Value)[j]? = some u → w'.cell? ((ad.add (m * kT.sz)).add j) = some u) := ⟨fun w' hb j u hu => pw_cell_below hb (hcc j u hu)⟩
  have HT : Aside0 (l[m] = t) := ⟨ht⟩
  clear hcc hK hcl hC1 hC2 hgt hr
  obtain ⟨r2, hr2⟩ : ∃ r2, idxF (fun q : Prj => isN which q.f0) t.f2 0 = r2 := ⟨_, rfl⟩
  have E2 := Aside0.mk hr2
  by_cases h2 : r2 < 0
  · have HE : Aside0 (removeP l n which = ([], 3)) := ⟨by unfold removeP; rw [if_pos h0, hr1, if_neg h1, hrd, hr2, if_pos h2]⟩
    have hd2 : decide (r2 < 0) = true := decide_eq_true h2
    clear h0 hr1 hrd ht hr2
    go_enter Try.func60, Try.ntmps60
    go_wp2_with fail
    refine (check_calls l (some ad) c0 _ HR.out hc hl HG.out).mono ?_
    rintro e w1 ⟨rfl, hb1⟩
    rw [chkE_yes E0.out]
    have HB1 := Aside0.mk hb1
    clear hb1
    go_wp2_with fail
    refine (find_calls l (some ad) c0 n _ (Kd.C_below HR.out HB1.out) hc hl).mono ?_
    rintro e w2 ⟨rfl, hb2⟩
    rw [E1.out]
    have HB2 := Aside0.mk (below_step HB1.out hb2)
    clear hb2
    have HRW := Aside0.mk (HCROW.out w2 HB2.out)
    go_wp2_with (first | (refine load_event rfl TT (.tmp 21) rfl (ad.add (m * kT.sz)) ?e1 [.string t.f0, .slice A1 t.f1.length c1, .slice A2 t.f2.length c2] HRW.out _ Try.underlying47 rfl size_T ?_; (case e1 => first | rfl | (go_simp; done) | (go_simp; rfl))))
    clear HRW
    refine (proj_calls t A1 c1 A2 c2 which _ (Kd.C_below HCP.out HB2.out) hl2 HGT.out.p).mono ?_
    rintro e w3 ⟨rfl, hb3⟩
    rw [E2.out]
    have HB3 := Aside0.mk (below_step HB2.out hb3)
    clear hb3
    go_wp2_with fail
    go_ret2
    rw [HE.out]
    exact ⟨_, rfl, Kd.N_nil _ _ _ _ _, HB3.out⟩
  obtain ⟨q, hq, rfl⟩ : ∃ q : Nat, q < t.f2.length ∧ r2 = (q : Int) := by
    rcases idxF_range (fun x : Prj => isN which x.f0) t.f2 0 with ⟨h3, _⟩ | ⟨i, hi, h3, _, _⟩
    · omega
    · exact ⟨i, hi, by rw [← hr2, h3, Nat.zero_add]⟩
  have hd2 : decide ((q : Int) < 0) = false := decide_eq_false h2
  have hpl := HGT.out.p
  have he2 : lessP t (q : Int) = (⟨t.f0, t.f1, t.f2.eraseIdx q⟩ : Tab) := by unfold lessP; rw [Int.toNat_natCast]
  cases h3 : (⟨t.f0, t.f1, t.f2.eraseIdx q⟩ : Tab).f2.any (superP (⟨t.f0, t.f1, t.f2.eraseIdx q⟩ : Tab)) with
  | false =>
    have E3 := Aside0.mk h3
    have HE : Aside0 (removeP l n which = ([], 250)) := ⟨by unfold removeP; rw [if_pos h0, hr1, if_neg h1, hrd, hr2, if_neg h2, he2, if_neg (by rw [h3]; decide)]⟩
    clear h0 hr1 hrd ht hr2 h3 he2
    go_enter Try.func60, Try.ntmps60
    go_wp2_with fail
    refine (check_calls l (some ad) c0 _ HR.out hc hl HG.out).mono ?_
    rintro e w1 ⟨rfl, hb1⟩
    rw [chkE_yes E0.out]
    have HB1 := Aside0.mk hb1
    clear hb1
    go_wp2_with fail
    refine (find_calls l (some ad) c0 n _ (Kd.C_below HR.out HB1.out) hc hl).mono ?_
    rintro e w2 ⟨rfl, hb2⟩
    rw [E1.out]
    have HB2 := Aside0.mk (below_step HB1.out hb2)
    clear hb2
    have HRW := Aside0.mk (HCROW.out w2 HB2.out)
    go_wp2_with (first | (refine load_event rfl TT (.tmp 21) rfl (ad.add (m * kT.sz)) ?e1 [.string t.f0, .slice A1 t.f1.length c1, .slice A2 t.f2.length c2] HRW.out _ Try.underlying47 rfl size_T ?_; (case e1 => first | rfl | (go_simp; done) | (go_simp; rfl))))
    clear HRW
    refine (proj_calls t A1 c1 A2 c2 which _ (Kd.C_below HCP.out HB2.out) hl2 HGT.out.p).mono ?_
    rintro e w3 ⟨rfl, hb3⟩
    rw [E2.out]
    have HB3 := Aside0.mk (below_step HB2.out hb3)
    clear hb3
    go_wp2_with fail
    refine (copied_calls l (some ad) c0 w3 (Kd.C_below HR.out HB3.out) hl HG.out).mono ?_
    rintro e w4 ⟨v9, rfl, hS, hb4⟩
    obtain ⟨g, cap, rfl, hbg, hgl, cellsg, hcg⟩ := Kd.S_form hS (by omega)
    have HZ43 : Aside0 (w3.heap.size ≤ w4.heap.size) := ⟨hb4.size⟩
    have HGG : Aside0 (w3.heap.size ≤ g) := ⟨hbg⟩
    obtain ⟨oki, c, hcl8, hM8, hcc8, hfr8, hoki, hH8⟩ := Kd.S_elem hS (⟨ByteArray.empty, [], []⟩ : Tab) (m : Int) (by omega) (by omega)
    have e8 : l.getD (m : Int).toNat (⟨ByteArray.empty, [], []⟩ : Tab) = t := by rw [Int.toNat_natCast, List.getD_eq_getElem?_getD, List.getElem?_eq_getElem hm, ← HT.out]; rfl
    rw [e8] at hM8
    rw [Int.toNat_natCast] at hcc8
    obtain ⟨v81, v82, rfl, hR81, hR82⟩ := k47_openM hM8
    obtain ⟨A81, c81, rfl⟩ := Kd.R_slice hR81
    obtain ⟨g2, cap2, rfl, _, _, _, _⟩ := Kd.R_form hR82 (by omega)
    have HH := Aside0.mk hH8
    have HR81 := Aside0.mk hR81
    have HR82 := Aside0.mk hR82
    have HOKI := Aside0.mk hoki
    have HCG : w4.cell? ⟨g, m * 3 + 2, none⟩ = some (.slice (some ⟨g2, 0, none⟩) t.f2.length cap2) := hcc8 2 _ rfl
    clear hS hcl8 hM8 hcc8 hfr8 hoki hH8 hR81 hR82 e8 hbg hgl hcg cellsg
    have HB4 := Aside0.mk (below_step HB3.out hb4)
    clear hb4
    go_wp2_with fail
    clear HCG
    refine (del_proj g2 cap2 w3.heap.size oki t.f2 q w4 HR82.out HZ43.out hq HGT.out.p).mono ?_
    rintro e w5 ⟨rfl, hR5, hg5⟩
    have hlen : (t.f2.eraseIdx q).length = t.f2.length - 1 := List.length_eraseIdx_of_lt hq
    have hown : ∀ k, (Value.slice (some ⟨g2, 0, none⟩) t.f2.length cap2).ownBlock = some k → oki k := fun k hk => HR82.out.1 k hk
    have hog : (Value.slice (some ⟨g2, 0, none⟩) t.f2.length cap2).ownBlock = some g2 := by simp [Value.ownBlock]
    have hH5 := Kd.H_grown HH.out hg5 (fun k hk => by injection hk with hk; subst hk; exact hown _ hog)
    have hC5 := Kd.R_over' (e' := TP) (v := Value.slice (some ⟨g2, 0, none⟩) t.f2.length cap2) HR81.out (Kd.R_typed HR82.out) (by decide) (by rw [hog]; exact hg5)
    have hM5 : kT.M w5 w3.heap.size oki (⟨t.f0, t.f1, t.f2.eraseIdx q⟩ : Tab) (([.string t.f0, .slice A81 t.f1.length c81, .slice (some ⟨g2, 0, none⟩) t.f2.length cap2] : List Value).take 2 ++ [(Value.slice (some ⟨g2, 0, none⟩) (t.f2.length - 1) cap2)] ++ ([.string t.f0, .slice A81 t.f1.length c81, .slice (some ⟨g2, 0, none⟩) t.f2.length cap2] : List Value).drop (2 + [(Value.slice (some ⟨g2, 0, none⟩) (t.f2.length - 1) cap2)].length)) := by
      have h := k47_mkM w5 w3.heap.size oki (⟨t.f0, t.f1, t.f2.eraseIdx q⟩ : Tab) hC5 hR5
      exact h
    have HH5 := Aside0.mk hH5
    have HM5 := Aside0.mk hM5
    have HR5 := Aside0.mk hR5
    have HC5 := Aside0.mk (Kd.R_reads' hC5)
    have hB5 : Below w3.heap.size w4 w5 := below_grown (Below.refl _ _) hg5 (by have h := HOKI.out g2 (hown _ hog); exact h.1) HZ43.out
    have HB5 := Aside0.mk hB5
    have HLEN := Aside0.mk hlen
    clear hR5 hg5 hown hog hH5 hC5 hM5 hB5 hlen HH HR81 HR82
    go_wp2_with (first | ((with_reducible refine gate_ (.store 45 (.tmp 41) (.tmp 39)) rfl ?_); refine Kd.H_store kT (w0 := w4) w3.heap.size rfl rfl 45 (.tmp 41) (.tmp 39) rfl TT (g := g) (n := l.length) (cap := cap) (o' := m * 3 + 2) (m : Int) 2 l (⟨t.f0, t.f1, t.f2.eraseIdx q⟩ : Tab) (Value.slice (some ⟨g2, 0, none⟩) (t.f2.length - 1) cap2) [(Value.slice (some ⟨g2, 0, none⟩) (t.f2.length - 1) cap2)] ([.string t.f0, .slice A81 t.f1.length c81, .slice (some ⟨g2, 0, none⟩) t.f2.length cap2] : List Value) (fun k => w3.heap.size ≤ k) oki oki rfl (by rw [Int.toNat_natCast]; rfl) rfl rfl size_SP (by simp [Value.oneCell']) HH5.out (by omega) (by omega) (by show 2 + 1 ≤ 3; omega) HM5.out (fun _ hk => hk) HB5.out ?_; intro w6 hS6 hB6 hG6; have hrd6 := (Kd.S_reads' hS6).2.2; obtain ⟨ad6, cl6, hA6, hcl6, hK6, hcc6⟩ := at_cells hrd6 m (by rw [List.length_set]; exact hm); injection hA6 with hA6; subst hA6; have e6 : (l.set (m : Int).toNat (⟨t.f0, t.f1, t.f2.eraseIdx q⟩ : Tab))[m]'(by rw [List.length_set]; exact hm) = (⟨t.f0, t.f1, t.f2.eraseIdx q⟩ : Tab) := (by simp); rw [e6] at hK6; obtain ⟨A83, c83, A84, c84, rfl, hl83, hC83, hl84, hC84⟩ := k47_open hK6; have HNR : Aside0 (∀ j u, ([.string t.f0, .slice A83 t.f1.length c83, .slice A84 (t.f2.eraseIdx q).length c84] : List Value)[j]? = some u → w6.cell? ((⟨g, m * 3, none⟩ : Addr).add j) = some u) := ⟨(fun j u hu => by have h := hcc6 j u hu; rw [Addr.add_lit, Nat.zero_add] at h; exact h)⟩; have HC84 := Aside0.mk hC84; have HS6 := Aside0.mk hS6; have HB6 := Aside0.mk hB6; clear hS6 hB6 hG6 hrd6 hcl6 hK6 hcc6 hC84 hC83 e6) | (refine load_event rfl TT (.tmp 44) rfl ⟨g, m * 3, none⟩ ?e1 _ HNR.out _ Try.underlying47 rfl size_T ?_; (case e1 => first | rfl | (go_simp; done) | (go_simp; rfl))))
    have hgt2 : GT (⟨t.f0, t.f1, t.f2.eraseIdx q⟩ : Tab) := ⟨HGT.out.s, HGT.out.c, by show (t.f2.eraseIdx q).length ≤ 1000000; rw [HLEN.out]; omega, HGT.out.cs, fun x hx => HGT.out.ps x (List.mem_of_mem_eraseIdx hx)⟩
    refine (whole_calls (⟨t.f0, t.f1, t.f2.eraseIdx q⟩ : Tab) A83 c83 A84 c84 w6 HC84.out hl84 hgt2).mono ?_
    rintro e w7 ⟨rfl, hb7⟩
    rw [E3.out]
    have HB7 := Aside0.mk hb7
    clear hb7
    have HBE := Aside0.mk (below_step (below_weaken HB4.out HB3.out.size HB6.out) HB7.out)
    have HSE := Aside0.mk (Kd.S_below HS6.out HB7.out)
    have HZ3 : Aside0 (w.heap.size ≤ w3.heap.size) := ⟨HB3.out.size⟩
    go_wp2_with fail
    go_ret2
    rw [HE.out]
    exact ⟨_, rfl, Kd.N_nil _ _ _ _ _, HBE.out⟩
  | true =>
    have E3 := Aside0.mk h3
    have HE : Aside0 (removeP l n which = (l.set (m : Int).toNat (⟨t.f0, t.f1, t.f2.eraseIdx q⟩ : Tab), 0)) := ⟨by unfold removeP; rw [if_pos h0, hr1, if_neg h1, hrd, hr2, if_neg h2, he2, if_pos h3]⟩
    clear h0 hr1 hrd ht hr2 h3 he2
    go_enter Try.func60, Try.ntmps60
    go_wp2_with fail
    refine (check_calls l (some ad) c0 _ HR.out hc hl HG.out).mono ?_
    rintro e w1 ⟨rfl, hb1⟩
    rw [chkE_yes E0.out]
    have HB1 := Aside0.mk hb1
    clear hb1
    go_wp2_with fail
    refine (find_calls l (some ad) c0 n _ (Kd.C_below HR.out HB1.out) hc hl).mono ?_
    rintro e w2 ⟨rfl, hb2⟩
    rw [E1.out]
    have HB2 := Aside0.mk (below_step HB1.out hb2)
    clear hb2
    have HRW := Aside0.mk (HCROW.out w2 HB2.out)
    go_wp2_with (first | (refine load_event rfl TT (.tmp 21) rfl (ad.add (m * kT.sz)) ?e1 [.string t.f0, .slice A1 t.f1.length c1, .slice A2 t.f2.length c2] HRW.out _ Try.underlying47 rfl size_T ?_; (case e1 => first | rfl | (go_simp; done) | (go_simp; rfl))))
    clear HRW
    refine (proj_calls t A1 c1 A2 c2 which _ (Kd.C_below HCP.out HB2.out) hl2 HGT.out.p).mono ?_
    rintro e w3 ⟨rfl, hb3⟩
    rw [E2.out]
    have HB3 := Aside0.mk (below_step HB2.out hb3)
    clear hb3
    go_wp2_with fail
    refine (copied_calls l (some ad) c0 w3 (Kd.C_below HR.out HB3.out) hl HG.out).mono ?_
    rintro e w4 ⟨v9, rfl, hS, hb4⟩
    obtain ⟨g, cap, rfl, hbg, hgl, cellsg, hcg⟩ := Kd.S_form hS (by omega)
    have HZ43 : Aside0 (w3.heap.size ≤ w4.heap.size) := ⟨hb4.size⟩
    have HGG : Aside0 (w3.heap.size ≤ g) := ⟨hbg⟩
    obtain ⟨oki, c, hcl8, hM8, hcc8, hfr8, hoki, hH8⟩ := Kd.S_elem hS (⟨ByteArray.empty, [], []⟩ : Tab) (m : Int) (by omega) (by omega)
    have e8 : l.getD (m : Int).toNat (⟨ByteArray.empty, [], []⟩ : Tab) = t := by rw [Int.toNat_natCast, List.getD_eq_getElem?_getD, List.getElem?_eq_getElem hm, ← HT.out]; rfl
    rw [e8] at hM8
    rw [Int.toNat_natCast] at hcc8
    obtain ⟨v81, v82, rfl, hR81, hR82⟩ := k47_openM hM8
    obtain ⟨A81, c81, rfl⟩ := Kd.R_slice hR81
    obtain ⟨g2, cap2, rfl, _, _, _, _⟩ := Kd.R_form hR82 (by omega)
    have HH := Aside0.mk hH8
    have HR81 := Aside0.mk hR81
    have HR82 := Aside0.mk hR82
    have HOKI := Aside0.mk hoki
    have HCG : w4.cell? ⟨g, m * 3 + 2, none⟩ = some (.slice (some ⟨g2, 0, none⟩) t.f2.length cap2) := hcc8 2 _ rfl
    clear hS hcl8 hM8 hcc8 hfr8 hoki hH8 hR81 hR82 e8 hbg hgl hcg cellsg
    have HB4 := Aside0.mk (below_step HB3.out hb4)
    clear hb4
    go_wp2_with fail
    clear HCG
    refine (del_proj g2 cap2 w3.heap.size oki t.f2 q w4 HR82.out HZ43.out hq HGT.out.p).mono ?_
    rintro e w5 ⟨rfl, hR5, hg5⟩
    have hlen : (t.f2.eraseIdx q).length = t.f2.length - 1 := List.length_eraseIdx_of_lt hq
    have hown : ∀ k, (Value.slice (some ⟨g2, 0, none⟩) t.f2.length cap2).ownBlock = some k → oki k := fun k hk => HR82.out.1 k hk
    have hog : (Value.slice (some ⟨g2, 0, none⟩) t.f2.length cap2).ownBlock = some g2 := by simp [Value.ownBlock]
    have hH5 := Kd.H_grown HH.out hg5 (fun k hk => by injection hk with hk; subst hk; exact hown _ hog)
    have hC5 := Kd.R_over' (e' := TP) (v := Value.slice (some ⟨g2, 0, none⟩) t.f2.length cap2) HR81.out (Kd.R_typed HR82.out) (by decide) (by rw [hog]; exact hg5)
    have hM5 : kT.M w5 w3.heap.size oki (⟨t.f0, t.f1, t.f2.eraseIdx q⟩ : Tab) (([.string t.f0, .slice A81 t.f1.length c81, .slice (some ⟨g2, 0, none⟩) t.f2.length cap2] : List Value).take 2 ++ [(Value.slice (some ⟨g2, 0, none⟩) (t.f2.length - 1) cap2)] ++ ([.string t.f0, .slice A81 t.f1.length c81, .slice (some ⟨g2, 0, none⟩) t.f2.length cap2] : List Value).drop (2 + [(Value.slice (some ⟨g2, 0, none⟩) (t.f2.length - 1) cap2)].length)) := by
      have h := k47_mkM w5 w3.heap.size oki (⟨t.f0, t.f1, t.f2.eraseIdx q⟩ : Tab) hC5 hR5
      exact h
    have HH5 := Aside0.mk hH5
    have HM5 := Aside0.mk hM5
    have HR5 := Aside0.mk hR5
    have HC5 := Aside0.mk (Kd.R_reads' hC5)
    have hB5 : Below w3.heap.size w4 w5 := below_grown (Below.refl _ _) hg5 (by have h := HOKI.out g2 (hown _ hog); exact h.1) HZ43.out
    have HB5 := Aside0.mk hB5
    have HLEN := Aside0.mk hlen
    clear hR5 hg5 hown hog hH5 hC5 hM5 hB5 hlen HH HR81 HR82
    go_wp2_with (first | ((with_reducible refine gate_ (.store 45 (.tmp 41) (.tmp 39)) rfl ?_); refine Kd.H_store kT (w0 := w4) w3.heap.size rfl rfl 45 (.tmp 41) (.tmp 39) rfl TT (g := g) (n := l.length) (cap := cap) (o' := m * 3 + 2) (m : Int) 2 l (⟨t.f0, t.f1, t.f2.eraseIdx q⟩ : Tab) (Value.slice (some ⟨g2, 0, none⟩) (t.f2.length - 1) cap2) [(Value.slice (some ⟨g2, 0, none⟩) (t.f2.length - 1) cap2)] ([.string t.f0, .slice A81 t.f1.length c81, .slice (some ⟨g2, 0, none⟩) t.f2.length cap2] : List Value) (fun k => w3.heap.size ≤ k) oki oki rfl (by rw [Int.toNat_natCast]; rfl) rfl rfl size_SP (by simp [Value.oneCell']) HH5.out (by omega) (by omega) (by show 2 + 1 ≤ 3; omega) HM5.out (fun _ hk => hk) HB5.out ?_; intro w6 hS6 hB6 hG6; have hrd6 := (Kd.S_reads' hS6).2.2; obtain ⟨ad6, cl6, hA6, hcl6, hK6, hcc6⟩ := at_cells hrd6 m (by rw [List.length_set]; exact hm); injection hA6 with hA6; subst hA6; have e6 : (l.set (m : Int).toNat (⟨t.f0, t.f1, t.f2.eraseIdx q⟩ : Tab))[m]'(by rw [List.length_set]; exact hm) = (⟨t.f0, t.f1, t.f2.eraseIdx q⟩ : Tab) := (by simp); rw [e6] at hK6; obtain ⟨A83, c83, A84, c84, rfl, hl83, hC83, hl84, hC84⟩ := k47_open hK6; have HNR : Aside0 (∀ j u, ([.string t.f0, .slice A83 t.f1.length c83, .slice A84 (t.f2.eraseIdx q).length c84] : List Value)[j]? = some u → w6.cell? ((⟨g, m * 3, none⟩ : Addr).add j) = some u) := ⟨(fun j u hu => by have h := hcc6 j u hu; rw [Addr.add_lit, Nat.zero_add] at h; exact h)⟩; have HC84 := Aside0.mk hC84; have HS6 := Aside0.mk hS6; have HB6 := Aside0.mk hB6; clear hS6 hB6 hG6 hrd6 hcl6 hK6 hcc6 hC84 hC83 e6) | (refine load_event rfl TT (.tmp 44) rfl ⟨g, m * 3, none⟩ ?e1 _ HNR.out _ Try.underlying47 rfl size_T ?_; (case e1 => first | rfl | (go_simp; done) | (go_simp; rfl))))
    have hgt2 : GT (⟨t.f0, t.f1, t.f2.eraseIdx q⟩ : Tab) := ⟨HGT.out.s, HGT.out.c, by show (t.f2.eraseIdx q).length ≤ 1000000; rw [HLEN.out]; omega, HGT.out.cs, fun x hx => HGT.out.ps x (List.mem_of_mem_eraseIdx hx)⟩
    refine (whole_calls (⟨t.f0, t.f1, t.f2.eraseIdx q⟩ : Tab) A83 c83 A84 c84 w6 HC84.out hl84 hgt2).mono ?_
    rintro e w7 ⟨rfl, hb7⟩
    rw [E3.out]
    have HB7 := Aside0.mk hb7
    clear hb7
    have HBE := Aside0.mk (below_step (below_weaken HB4.out HB3.out.size HB6.out) HB7.out)
    have HSE := Aside0.mk (Kd.S_below HS6.out HB7.out)
    have HZ3 : Aside0 (w.heap.size ≤ w3.heap.size) := ⟨HB3.out.size⟩
    go_wp2_with fail
    go_ret2
    rw [HE.out]
    exact ⟨_, rfl, Kd.N_lower (Kd.N_mono (Kd.S_N HSE.out) (fun k hk => Nat.le_trans HZ3.out hk)) HZ3.out, HBE.out⟩
end Go.Proofs.Ytgjclhhjigflkac.Sc

/- The contracts of schema's functions that are walked by hand, in the printer's form. -/
namespace Go.Proofs.Ytgjclhhjigflkac.C
open Go Go.RowKit Go.Proofs.Ytgjclhhjigflkac.Sc Go.Proofs.Ytgjclhhjigflkac.Hand Go.Proofs.YtgjclhhjigflkacW.PrintWords Go.Proofs.YtgjclhhjigflkacW.PrintLast Go.Proofs.YtgjclhhjigflkacW.PrintMore
set_option linter.unusedVariables false
set_option linter.unusedSimpArgs false
def gtB (t : Tab) : Bool := decide (t.f0.size ≤ 1000000) && decide (t.f1.length ≤ 1000000) && decide (t.f2.length ≤ 1000000) && t.f1.all (fun x => decide (x.f0.size ≤ 1000000)) && t.f2.all (fun x => decide (x.f0.size ≤ 1000000) && decide (x.f1.length ≤ 1000000))
theorem gtB_spec {t : Tab} (h : gtB t = true) : GT t := by
  unfold gtB at h
  simp only [Bool.and_eq_true, decide_eq_true_eq, List.all_eq_true] at h
  obtain ⟨⟨⟨⟨h1, h2⟩, h3⟩, h4⟩, h5⟩ := h
  exact ⟨by omega, h2, h3, fun x hx => by have := h4 x hx; omega, fun x hx => ⟨by have := (h5 x hx).1; omega, (h5 x hx).2⟩⟩
def gLB (l : List Tab) : Bool := decide (l.length ≤ 1000000) && l.all gtB
theorem gLB_spec {l : List Tab} (h : gLB l = true) : l.length ≤ 1000000 ∧ ∀ t ∈ l, GT t := by
  unfold gLB at h
  simp only [Bool.and_eq_true, decide_eq_true_eq, List.all_eq_true] at h
  exact ⟨h.1, fun t ht => gtB_spec (h.2 t ht)⟩
def schema_Find.f (k : Nat) (l0 : List Tab) (a1 : ByteArray) : Option Int := if l0.length ≤ 1000000 then some (idxF (fun t : Tab => isN a1 t.f0) l0 0) else none
theorem schema_Find.mono : ∀ a0 a1 k, LeO (schema_Find.f k a0 a1) (schema_Find.f (k + 1) a0 a1) := fun _ _ _ => LeO.refl _
theorem schema_Find.calls (k : Nat) (A0 : Option Addr) (c0 : Nat) (l0 : List Tab) (a1 : ByteArray) (r : Int) (w : World) (hr0 : Kd.C kT w A0 l0.length l0) (hc0 : l0.length ≤ c0) (h : schema_Find.f k l0 a1 = some r) :
    Calls Try.prog 31 #[.slice A0 l0.length c0, .string a1] w fun e w' => e = .returned (.int .i64 r) ∧ Below w.heap.size w w' := by
  unfold schema_Find.f at h
  split at h
  case isFalse => cases h
  case isTrue hl =>
    injection h with h
    subst h
    exact find_calls l0 A0 c0 a1 w hr0 hc0 hl
def schema_Column.f (k : Nat) (a0_0 : ByteArray) (l0_1 : List Col) (l0_2 : List Prj) (a1 : ByteArray) : Option Int := if l0_1.length ≤ 1000000 then some (idxF (fun x : Col => isN a1 x.f0) l0_1 0) else none
theorem schema_Column.mono : ∀ a0 a1 a2 a3 k, LeO (schema_Column.f k a0 a1 a2 a3) (schema_Column.f (k + 1) a0 a1 a2 a3) := fun _ _ _ _ _ => LeO.refl _
theorem schema_Column.calls (k : Nat) (a0_0 : ByteArray) (A0_1 : Option Addr) (c0_1 : Nat) (l0_1 : List Col) (A0_2 : Option Addr) (c0_2 : Nat) (l0_2 : List Prj) (a1 : ByteArray) (r : Int) (w : World) (hr0_1 : Kd.C kC w A0_1 l0_1.length l0_1) (hc0_1 : l0_1.length ≤ c0_1) (hr0_2 : Kd.C kP w A0_2 l0_2.length l0_2) (hc0_2 : l0_2.length ≤ c0_2) (h : schema_Column.f k a0_0 l0_1 l0_2 a1 = some r) :
    Calls Try.prog 33 #[.agg #[.string a0_0, .slice A0_1 l0_1.length c0_1, .slice A0_2 l0_2.length c0_2], .string a1] w fun e w' => e = .returned (.int .i64 r) ∧ Below w.heap.size w w' := by
  unfold schema_Column.f at h
  split at h
  case isFalse => cases h
  case isTrue hl =>
    injection h with h
    subst h
    exact colu_calls ⟨a0_0, l0_1, l0_2⟩ A0_1 c0_1 A0_2 c0_2 a1 w hr0_1 hc0_1 hl
def schema_Create.f (k : Nat) (l0 : List Tab) (a1 : ByteArray) (l2 : List Col) : Option (List Tab × Int) := if (gLB l0 && decide (l2.length ≤ 1000000) && l2.all (fun x => decide (x.f0.size ≤ 1000000)) && decide (a1.size ≤ 1000000)) = true then some (createP l0 a1 l2) else none
theorem schema_Create.mono : ∀ a0 a1 a2 k, LeO (schema_Create.f k a0 a1 a2) (schema_Create.f (k + 1) a0 a1 a2) := fun _ _ _ _ => LeO.refl _
theorem schema_Create.calls (k : Nat) (A0 : Option Addr) (c0 : Nat) (l0 : List Tab) (a1 : ByteArray) (A2 : Option Addr) (c2 : Nat) (l2 : List Col) (r1 : List Tab) (r2 : Int) (w : World) (hr0 : Kd.C kT w A0 l0.length l0) (hc0 : l0.length ≤ c0) (hr2 : Kd.C kC w A2 l2.length l2) (hc2 : l2.length ≤ c2) (h : schema_Create.f k l0 a1 l2 = some (r1, r2)) :
    Calls Try.prog 57 #[.slice A0 l0.length c0, .string a1, .slice A2 l2.length c2] w fun e w' => ∃ v0_ : Value, e = .returned (.tuple #[v0_, .int .i64 r2]) ∧ Kd.N kT TT w' w.heap.size (fun k_ => w.heap.size ≤ k_) v0_ r1 ∧ Below w.heap.size w w' := by
  unfold schema_Create.f at h
  split at h
  case isFalse => cases h
  case isTrue hc =>
    simp only [Bool.and_eq_true, decide_eq_true_eq, List.all_eq_true] at hc
    obtain ⟨⟨⟨hg, h1⟩, h2⟩, h3⟩ := hc
    have hg := gLB_spec hg
    injection h with h
    have e1 : (createP l0 a1 l2).1 = r1 := by rw [h]
    have e2 : (createP l0 a1 l2).2 = r2 := by rw [h]
    have hh := create_calls l0 A0 c0 a1 l2 A2 c2 w hr0 hc0 hg.1 hg.2 hr2 hc2 h1 (fun x hx => by have := h2 x hx; omega) (by omega)
    rw [e1, e2] at hh
    exact hh
def schema_Add.f (k : Nat) (l0 : List Tab) (a1 a2_0 : ByteArray) (l2_1 : List Int) (a2_2 : Int) : Option (List Tab × Int) := if (gLB l0 && decide (l2_1.length ≤ 1000000) && decide (a2_0.size ≤ 1000000)) = true then some (addP l0 a1 ⟨a2_0, l2_1, a2_2⟩) else none
theorem schema_Add.mono : ∀ a0 a1 a2 a3 a4 k, LeO (schema_Add.f k a0 a1 a2 a3 a4) (schema_Add.f (k + 1) a0 a1 a2 a3 a4) := fun _ _ _ _ _ _ => LeO.refl _
theorem schema_Add.calls (k : Nat) (A0 : Option Addr) (c0 : Nat) (l0 : List Tab) (a1 : ByteArray) (a2_0 : ByteArray) (A2_1 : Option Addr) (c2_1 : Nat) (l2_1 : List Int) (a2_2 : Int) (r1 : List Tab) (r2 : Int) (w : World) (hr0 : Kd.C kT w A0 l0.length l0) (hc0 : l0.length ≤ c0) (hr2_1 : Kd.C (Kd.int .i64) w A2_1 l2_1.length l2_1) (hc2_1 : l2_1.length ≤ c2_1) (h : schema_Add.f k l0 a1 a2_0 l2_1 a2_2 = some (r1, r2)) :
    Calls Try.prog 59 #[.slice A0 l0.length c0, .string a1, .agg #[.string a2_0, .slice A2_1 l2_1.length c2_1, .int .i64 a2_2]] w fun e w' => ∃ v0_ : Value, e = .returned (.tuple #[v0_, .int .i64 r2]) ∧ Kd.N kT TT w' w.heap.size (fun k_ => w.heap.size ≤ k_) v0_ r1 ∧ Below w.heap.size w w' := by
  unfold schema_Add.f at h
  split at h
  case isFalse => cases h
  case isTrue hc =>
    simp only [Bool.and_eq_true, decide_eq_true_eq] at hc
    obtain ⟨⟨hg, h1⟩, h2⟩ := hc
    have hg := gLB_spec hg
    injection h with h
    have e1 : (addP l0 a1 ⟨a2_0, l2_1, a2_2⟩).1 = r1 := by rw [h]
    have e2 : (addP l0 a1 ⟨a2_0, l2_1, a2_2⟩).2 = r2 := by rw [h]
    have hh := add_calls l0 A0 c0 a1 ⟨a2_0, l2_1, a2_2⟩ A2_1 c2_1 w hr0 hc0 hg.1 hg.2 hr2_1 hc2_1 h1 (by show a2_0.size ≤ _; omega)
    rw [e1, e2] at hh
    exact hh
def schema_Remove.f (k : Nat) (l0 : List Tab) (a1 a2 : ByteArray) : Option (List Tab × Int) := if gLB l0 = true then some (removeP l0 a1 a2) else none
theorem schema_Remove.mono : ∀ a0 a1 a2 k, LeO (schema_Remove.f k a0 a1 a2) (schema_Remove.f (k + 1) a0 a1 a2) := fun _ _ _ _ => LeO.refl _
theorem schema_Remove.calls (k : Nat) (A0 : Option Addr) (c0 : Nat) (l0 : List Tab) (a1 a2 : ByteArray) (r1 : List Tab) (r2 : Int) (w : World) (hr0 : Kd.C kT w A0 l0.length l0) (hc0 : l0.length ≤ c0) (h : schema_Remove.f k l0 a1 a2 = some (r1, r2)) :
    Calls Try.prog 60 #[.slice A0 l0.length c0, .string a1, .string a2] w fun e w' => ∃ v0_ : Value, e = .returned (.tuple #[v0_, .int .i64 r2]) ∧ Kd.N kT TT w' w.heap.size (fun k_ => w.heap.size ≤ k_) v0_ r1 ∧ Below w.heap.size w w' := by
  unfold schema_Remove.f at h
  split at h
  case isFalse => cases h
  case isTrue hc =>
    have hg := gLB_spec hc
    injection h with h
    have e1 : (removeP l0 a1 a2).1 = r1 := by rw [h]
    have e2 : (removeP l0 a1 a2).2 = r2 := by rw [h]
    have hh := remove_calls l0 A0 c0 a1 a2 w hr0 hc0 hg.1 hg.2
    rw [e1, e2] at hh
    exact hh
end Go.Proofs.Ytgjclhhjigflkac.C

/- The walks of strings.Builder's copyCheck, WriteByte, WriteString at a builder that the caller has made. -/
namespace Go.Proofs.Ytgjclhhjigflkac.C
open Go.RowKit Go.Proofs.Ytgjclhhjigflkac.MyWords Go.Proofs.YtgjclhhjigflkacW.PrintWords Go.Proofs.YtgjclhhjigflkacW.PrintLast Go.Proofs.YtgjclhhjigflkacW.PrintMore
set_option linter.unusedVariables false
set_option linter.unusedSimpArgs false
/-- a builder at block b, of the caller's own (from B on), that holds these cells -/
abbrev Bld (B b : Nat) (bs : List Value) (w : World) : Prop := Lib.IsBuilder 108 5 B b bs w
theorem bldInfo : ∃ j, Try.prog.info? 108 = some j ∧ j.size = 2 := by
  have h : (Try.prog.info? 108).map (fun j => j.size) = some 2 := by kernel_rfl
  obtain ⟨j, h1, h2⟩ := Option.map_eq_some_iff.1 h
  exact ⟨j, h1, h2⟩
set_option maxHeartbeats 1000000 in
set_option maxRecDepth 100000 in
theorem copyCheck_used (b : Nat) (w : World) (h0 : w.cell? ⟨b, 0, none⟩ = some (.pointer (some ⟨b, 0, none⟩))) :
    Calls Try.prog 129 #[.pointer (some ⟨b, 0, none⟩)] w fun e w' => e = .returned (.tuple #[]) ∧ w = w' := by
  obtain ⟨j, hj, _⟩ := bldInfo
  have hn := fun w => Lib.run_neq_ptr_same (P := Try.prog) w ⟨b, 0, none⟩ Try.underlying105 hj
  go_enter Try.func129, Try.ntmps129
  go_wp2
  go_end0
  exact ⟨rfl, rfl⟩
set_option maxHeartbeats 1000000 in
set_option maxRecDepth 100000 in
theorem copyCheck_fresh (b : Nat) (w : World) (h0 : w.cell? ⟨b, 0, none⟩ = some (.pointer none)) (hsh : w.shape? b = some (108, 2)) (hfz : w.frozen? ⟨b, 0, none⟩ = false) :
    Calls Try.prog 129 #[.pointer (some ⟨b, 0, none⟩)] w fun e w' => e = .returned (.tuple #[]) ∧ w' = w.setCell ⟨b, 0, none⟩ (.pointer (some ⟨b, 0, none⟩)) := by
  obtain ⟨j, hj, hjs⟩ := bldInfo
  have hto := Lib.run_to_unsafe (P := Try.prog) (e := 108) (cells := 2) w ⟨b, 0, none⟩ Try.underlying105 Try.underlying193 hj (by rw [hjs]; decide) hsh (Nat.zero_lt_succ 1)
  have hfrom := Lib.run_from_unsafe (P := Try.prog) (e := 108) (cells := 2) w ⟨b, 0, none⟩ Try.underlying193 Try.underlying105 hj hsh (by kernel_rfl)
  have hno : (callFunc 151 #[.pointer (some ⟨b, 0, none⟩)]).run Try.prog w = Result.ok (Next.value (.pointer (some ⟨b, 0, none⟩))) w := by
    rw [run_callFunc_extern Try.func151 (by kernel_rfl) (by kernel_rfl) (by kernel_rfl) (e := Extern.AbiNoEscape.same) (by kernel_rfl), Lib.run_noEscape]
    rfl
  go_enter Try.func129, Try.ntmps129
  go_wp2
  go_end0
  exact ⟨rfl, rfl⟩
theorem copyCheck_calls (B b : Nat) (bs : List Value) (w : World) (h : Bld B b bs w) :
    Calls Try.prog 129 #[.pointer (some ⟨b, 0, none⟩)] w fun e w' => e = .returned (.tuple #[]) ∧ Lib.BuilderAt 108 5 B b (.pointer (some ⟨b, 0, none⟩)) bs w' ∧ Below B w w' := by
  rcases h with h | h
  · refine (copyCheck_fresh b w h.cell0 h.shape h.frozen0).mono ?_
    rintro e w' ⟨rfl, rfl⟩
    exact ⟨rfl, h.used _, (Below.refl B w).setCell (p := ⟨b, 0, none⟩) h.1 _⟩
  · refine (copyCheck_used b w h.cell0).mono ?_
    rintro e w' ⟨rfl, rfl⟩
    exact ⟨rfl, h, Below.refl B _⟩
/-- the blocks that are neither a builder's nor bytes stay -/
def Others (w w' : World) : Prop := ∀ (g : Nat) (cs : Array Value) (T : TypeId) (fz : Nat × Nat), w.heap[g]? = some (.cells cs T fz) → T ≠ 5 → T ≠ 108 → w'.heap[g]? = some (.cells cs T fz)
theorem Others.trans {a b c : World} (h : Others a b) (k : Others b c) : Others a c := fun g cs T fz hg h1 h2 => k g cs T fz (h g cs T fz hg h1 h2) h1 h2
theorem Others.set {w : World} {b i : Nat} {v : Value} {cs : Array Value} {fz : Nat × Nat} (hb : w.heap[b]? = some (.cells cs 108 fz)) : Others w (w.setCell ⟨b, i, none⟩ v) := by
  intro g cs' T fz' hg h1 h2
  have hne : g ≠ b := by
    rintro rfl
    rw [hg] at hb
    injection hb with hb
    injection hb with _ hb
    exact h2 hb
  exact (Below.heap_setCell w _ v g hne).trans hg
theorem copyCheck_calls2 (B b : Nat) (bs : List Value) (w : World) (h : Bld B b bs w) :
    Calls Try.prog 129 #[.pointer (some ⟨b, 0, none⟩)] w fun e w' => e = .returned (.tuple #[]) ∧ Lib.BuilderAt 108 5 B b (.pointer (some ⟨b, 0, none⟩)) bs w' ∧ Below B w w' ∧ Others w w' := by
  rcases h with h | h
  · refine (copyCheck_fresh b w h.cell0 h.shape h.frozen0).mono ?_
    rintro e w' ⟨rfl, rfl⟩
    refine ⟨rfl, h.used _, (Below.refl B w).setCell (p := ⟨b, 0, none⟩) h.1 _, ?_⟩
    obtain ⟨_, v, hb, _⟩ := h
    exact Others.set hb
  · refine (copyCheck_used b w h.cell0).mono ?_
    rintro e w' ⟨rfl, rfl⟩
    exact ⟨rfl, h, Below.refl B _, fun _ _ _ _ hg _ _ => hg⟩
theorem infoByte : (Try.prog.info? 5).map (fun i => (i.zero, i.size, i.bytes)) = some (some (.int .u8 0), 1, 1) := by kernel_rfl
set_option maxHeartbeats 2000000 in
set_option maxRecDepth 100000 in
theorem bld_WriteString (B b : Nat) (bs : List Value) (s : ByteArray) (w : World) (h : Bld B b bs w) (hlen : bs.length + s.size ≤ 140737488355328) (hBw : B ≤ w.heap.size) :
    Calls Try.prog 96 #[.pointer (some ⟨b, 0, none⟩), .string s] w fun e w' => e = .returned (.tuple #[.int .i64 s.size, .nilIface]) ∧ Bld B b (bs ++ Lib.strCells s) w' ∧ Below B w w' := by
  obtain ⟨i0, hi, hz0, hz1, hz2⟩ := info_parts infoByte
  go_enter Try.func96, Try.ntmps96
  go_wp2_with fail
  refine (copyCheck_calls B b bs w h).mono ?_
  rintro e w1 ⟨rfl, ⟨hB, v, hbk, hown, hne⟩, hb1⟩
  have hsz := hb1.size
  have c0 : w1.cell? ⟨b, 0, none⟩ = some (.pointer (some ⟨b, 0, none⟩)) := by rw [Lib.cell_of_heap hbk]; rfl
  have c1 : w1.cell? ⟨b, 1, none⟩ = some v := by rw [Lib.cell_of_heap hbk]; rfl
  have hlt : b < w1.heap.size := blk_lt hbk
  go_wp2_with (at_builtin; refine Lib.wpList_append_own_string _ rfl _ _ 106 9 rfl B 5 i0 Try.underlying106 Try.underlying9 hi hz0 hz1 hz2 _ _ _ rfl hown s rfl ?c3 ?c4 ?c5 ?_)
  case c3 => unfold maxLen; omega
  case c4 => omega
  case c5 => omega
  intro v' w2 hown' hgrow _
  have hb2 : w2.heap[b]? = some (.cells #[.pointer (some ⟨b, 0, none⟩), v] 108 (0, 0)) := (hgrow.block b hlt (fun e => hne e.symm)).trans hbk
  have d0 : w2.cell? ⟨b, 0, none⟩ = some (.pointer (some ⟨b, 0, none⟩)) := by rw [Lib.cell_of_heap hb2]; rfl
  have d1 : w2.cell? ⟨b, 1, none⟩ = some v := by rw [Lib.cell_of_heap hb2]; rfl
  have f1 : w2.frozen? ⟨b, 1, none⟩ = false := Lib.frozen_of_heap hb2 1
  have hb3 : Below B w w2 := hb1.grown hgrow (by omega) (fun k hk => (hown.lt k hk).1)
  have hput := fun v'' (e : v'' = v') => Lib.BuilderAt.put (T := 108) (e := 5) hB hb2 (bs' := bs ++ Lib.strCells s) (v' := v'') (by rw [List.length_append, Lib.strCells_length, e]; exact hown') (by decide)
  obtain ⟨ao, cap, rfl⟩ := own_slice hown'
  clear hown' hgrow hown
  have HP := Aside0.mk (hput _ rfl)
  clear hput
  go_wp2
  go_ret2
  exact ⟨rfl, .inr HP.out, hb3.setCell (p := ⟨b, 1, none⟩) hB _⟩
set_option maxHeartbeats 2000000 in
set_option maxRecDepth 100000 in
theorem bld_WriteString2 (B b : Nat) (bs : List Value) (s : ByteArray) (w : World) (h : Bld B b bs w) (hlen : bs.length + s.size ≤ 140737488355328) (hBw : B ≤ w.heap.size) :
    Calls Try.prog 96 #[.pointer (some ⟨b, 0, none⟩), .string s] w fun e w' => e = .returned (.tuple #[.int .i64 s.size, .nilIface]) ∧ Bld B b (bs ++ Lib.strCells s) w' ∧ Below B w w' ∧ Others w w' := by
  obtain ⟨i0, hi, hz0, hz1, hz2⟩ := info_parts infoByte
  go_enter Try.func96, Try.ntmps96
  go_wp2_with fail
  refine (copyCheck_calls2 B b bs w h).mono ?_
  rintro e w1 ⟨rfl, ⟨hB, v, hbk, hown, hne⟩, hb1, ho1⟩
  have HO1 := Aside0.mk ho1
  clear ho1
  have hsz := hb1.size
  have c0 : w1.cell? ⟨b, 0, none⟩ = some (.pointer (some ⟨b, 0, none⟩)) := by rw [Lib.cell_of_heap hbk]; rfl
  have c1 : w1.cell? ⟨b, 1, none⟩ = some v := by rw [Lib.cell_of_heap hbk]; rfl
  have hlt : b < w1.heap.size := blk_lt hbk
  go_wp2_with (at_builtin; refine Lib.wpList_append_own_string _ rfl _ _ 106 9 rfl B 5 i0 Try.underlying106 Try.underlying9 hi hz0 hz1 hz2 _ _ _ rfl hown s rfl ?c3 ?c4 ?c5 ?_)
  case c3 => unfold maxLen; omega
  case c4 => omega
  case c5 => omega
  intro v' w2 hown' hgrow _
  have hb2 : w2.heap[b]? = some (.cells #[.pointer (some ⟨b, 0, none⟩), v] 108 (0, 0)) := (hgrow.block b hlt (fun e => hne e.symm)).trans hbk
  have d0 : w2.cell? ⟨b, 0, none⟩ = some (.pointer (some ⟨b, 0, none⟩)) := by rw [Lib.cell_of_heap hb2]; rfl
  have d1 : w2.cell? ⟨b, 1, none⟩ = some v := by rw [Lib.cell_of_heap hb2]; rfl
  have f1 : w2.frozen? ⟨b, 1, none⟩ = false := Lib.frozen_of_heap hb2 1
  have hb3 : Below B w w2 := hb1.grown hgrow (by omega) (fun k hk => (hown.lt k hk).1)
  have hput := fun v'' (e : v'' = v') => Lib.BuilderAt.put (T := 108) (e := 5) hB hb2 (bs' := bs ++ Lib.strCells s) (v' := v'') (by rw [List.length_append, Lib.strCells_length, e]; exact hown') (by decide)
  have HO2 : Aside0 (Others w1 w2) := ⟨fun g cs T fz hg h1 h2 => (hgrow.block g (blk_lt hg) (fun e => by
    obtain ⟨cells, hc⟩ := own_typed hown g e.symm
    rw [hg] at hc
    injection hc with hc
    injection hc with _ hc
    exact h1 hc)).trans hg⟩
  have HO3 := Aside0.mk ((HO1.out.trans HO2.out).trans (Others.set (i := 1) (v := v') hb2))
  clear HO1 HO2
  obtain ⟨ao, cap, rfl⟩ := own_slice hown'
  clear hown' hgrow hown
  have HP := Aside0.mk (hput _ rfl)
  clear hput
  go_wp2
  go_ret2
  exact ⟨rfl, .inr HP.out, hb3.setCell (p := ⟨b, 1, none⟩) hB _, HO3.out⟩
end Go.Proofs.Ytgjclhhjigflkac.C

/- The walk of vint.Put: the bytes of a word, seven bits each, in an array of ten. -/
namespace Go.Proofs.Ytgjclhhjigflkac.C
open Go.RowKit Go.Proofs.YtgjclhhjigflkacW.PrintWords Go.Proofs.YtgjclhhjigflkacW.PrintLast Go.Proofs.YtgjclhhjigflkacW.PrintMore
set_option linter.unusedVariables false
set_option linter.unusedSimpArgs false
/-- a word's bytes, with room for k more -/
def vb : Nat → Nat → List Int
  | 0, n => [(n : Int)]
  | k + 1, n => if n < 128 then [(n : Int)] else ((n % 128 + 128 : Nat) : Int) :: vb k (n / 128)
def zigw (a0 : Int) : Int := wrap64 (Go.bits .xor .u64 (IntKind.u64.wrap ((IntKind.u64.wrap (a0)) * 2)) (IntKind.u64.wrap (a0 / 9223372036854775808)))
def vint_Put.f (a0 : Int) : Option ByteArray := some (strOfNums (vb 9 (IntKind.u64.wrap (zigw a0)).toNat))
theorem vb_step (k m : Nat) (h : 128 ≤ m) : vb (k + 1) m = ((m % 128 + 128 : Nat) : Int) :: vb k (m / 128) := by rw [vb, if_neg (by omega)]
theorem vb_last (k m : Nat) (h : m < 128) : vb k m = [(m : Int)] := by cases k with | zero => rfl | succ k => rw [vb, if_pos h]
theorem vb_pow (k m : Nat) (h : m * 128 ^ k < 18446744073709551616) (hk : k ≤ 9) (hm : 128 ≤ m) : k ≤ 8 := by
  rcases Nat.lt_or_ge k 9 with h9 | h9
  · omega
  · obtain rfl : k = 9 := by omega
    simp at h
    omega
theorem vb_down (k m : Nat) (h : m * 128 ^ k < 18446744073709551616) : m / 128 * 128 ^ (k + 1) < 18446744073709551616 := by
  refine Nat.lt_of_le_of_lt ?_ h
  rw [Nat.pow_succ, Nat.mul_comm (128 ^ k), ← Nat.mul_assoc]
  exact Nat.mul_le_mul_right _ (Nat.div_mul_le_self m 128)
theorem byte_or (m : Nat) : Go.bits .or .u8 (((m : Int)) % 256) 128 = ((m % 128 + 128 : Nat) : Int) := by
  have h := u8_or_nat (m % 256) 128 (Nat.mod_lt _ (by decide)) (by decide)
  have e : ((m % 256 : Nat) : Int) = (m : Int) % 256 := by omega
  rw [e] at h
  have h2 : (m % 256) ||| 128 = m % 128 + 128 := by
    apply Nat.eq_of_testBit_eq
    intro i
    rw [Nat.testBit_or, show m % 128 + 128 = 2 ^ 7 * 1 + m % 2 ^ 7 by omega, Nat.testBit_two_pow_mul_add 1 (Nat.mod_lt _ (by decide)), show m % 256 = m % 2 ^ 8 from rfl, show (128 : Nat) = 2 ^ 7 from rfl, Nat.testBit_two_pow, Nat.testBit_mod_two_pow, Nat.testBit_mod_two_pow]
    by_cases h7 : i < 7
    · rw [if_pos h7]
      simp [h7, show i < 8 by omega, show ¬ 7 = i by omega]
    · rw [if_neg h7]
      by_cases h8 : i = 7
      · subst h8; simp
      · simp [show ¬ i < 8 by omega, show ¬ 7 = i by omega]
        cases hj : i - 7 with
        | zero => omega
        | succ j => simp [Nat.testBit_succ]
  rw [h2] at h
  exact h
/-- the array while it is filled: the first bytes are p -/
def Filled (cur : Array Value) (p : List Int) : Prop := cur.size = 10 ∧ cur.toList.take p.length = nums .u8 p ∧ p.length ≤ 10
theorem filled_set {cur : Array Value} {p : List Int} (h : Filled cur p) (hp : p.length ≤ 9) (x : Int) : Filled (cur.setIfInBounds p.length (.int .u8 x)) (p ++ [x]) := by
  obtain ⟨h1, h2, h3⟩ := h
  refine ⟨by simp [h1], ?_, by simp; omega⟩
  rw [Array.toList_setIfInBounds, List.length_append, List.length_singleton, nums_append, ← h2]
  have hsz : cur.toList.length = 10 := by rw [Array.length_toList]; exact h1
  have hl : p.length < cur.toList.length := by omega
  rw [List.take_succ_eq_append_getElem (by rw [List.length_set]; exact hl), List.getElem_set_self, List.take_set_of_le (Nat.le_refl _)]
  rfl
theorem filled_cell {w : World} {g : Nat} {cur : Array Value} {p : List Int} (h : Filled cur p) (hp : p.length ≤ 9) (hc : w.heap[g]? = some (.cells cur 172 (0, 0))) : ∃ v, w.cell? ⟨g, p.length, none⟩ = some v := by
  rw [blk_cell hc]
  exact ⟨_, Array.getElem?_eq_getElem (by rw [h.1]; omega)⟩
theorem run_cut10 (g n : Nat) (hn : n ≤ 10) (k : Int) (hk : k = (n : Int)) (W : World) : (Instr.sliceAt 172 (.pointer (some ⟨g, 0, none⟩)) none (some (.int .i64 k)) none).run Try.prog W = .ok (.slice (some ⟨g, 0, none⟩) n 10) W := by
  subst hk
  have hl : Try.prog.arrayLen 172 = 10 := by kernel_rfl
  have he : Try.prog.elem 172 = 5 := by kernel_rfl
  have hu : Try.prog.underlying 172 = some (.array (Try.prog.arrayLen 172) (Try.prog.elem 172)) := by rw [hl, he]; exact Try.underlying172
  have hs : (sizeOf 5).run Try.prog W = .ok 1 W := by kernel_rfl
  rw [run_sliceAt_array_h (P := Try.prog) W 172 ⟨g, 0, none⟩ hu .i64 (n : Int) (by omega) (by rw [hl]; omega), he, hs, hl]
  simp [slicedAt, sliced, Result.andThen, Addr.add]
theorem filled_string {w : World} {g : Nat} {cur : Array Value} {p : List Int} (h : Filled cur p) (hc : w.heap[g]? = some (.cells cur 172 (0, 0))) (n : Nat) (hn : p.length = n) : (convert 106 9 (.slice (some ⟨g, 0, none⟩) n 10)).run Try.prog w = .ok (.string (strOfNums p)) w := by
  refine run_convert_bytes_arg w 106 5 Try.underlying106 Try.underlying5 g 0 n 10 p hn (fun i hi => ?_) 9 Try.underlying9
  obtain ⟨h1, h2, h3⟩ := h
  rw [Nat.zero_add, blk_cell hc, ← Array.getElem?_toList]
  have : (cur.toList.take p.length)[i]? = (nums .u8 p)[i]? := by rw [h2]
  rw [List.getElem?_take, if_pos (by omega)] at this
  rw [this]
  simp [nums, List.getElem?_eq_getElem (show i < p.length by omega), List.getD_eq_getElem?_getD]
set_option maxHeartbeats 1000000 in
set_option maxRecDepth 100000 in
theorem vint_Put.calls (a0 : Int) (r : ByteArray) (w : World) (h : vint_Put.f a0 = some r) :
    Calls Try.prog 97 #[.int .i64 a0] w fun e w' => e = .returned (.string r) ∧ Below w.heap.size w w' := by
  obtain ⟨z, hz⟩ : ∃ z, z = zigw a0 := ⟨_, rfl⟩
  have hz2 : 0 ≤ IntKind.u64.wrap z ∧ IntKind.u64.wrap z < 18446744073709551616 := by rw [IntKind.wrap_u64]; omega
  obtain ⟨m0, hm0⟩ := Int.eq_ofNat_of_zero_le hz2.1
  have H : strOfNums (vb 9 m0) = r := by
    have h2 : strOfNums (vb 9 (IntKind.u64.wrap (zigw a0)).toNat) = r := Option.some.inj h
    rw [← hz, hm0] at h2
    exact h2
  clear h
  have H := Aside0.mk H
  have Hm : m0 < 18446744073709551616 := by omega
  have Hz := Aside0.mk (show IntKind.u64.wrap (zigw a0) = (m0 : Int) by rw [← hz]; exact hm0)
  clear hz hz2 hm0
  go_enter Try.func97, Try.ntmps97
  go_wp2
  go_loopw [4, 5] (fun v4 v5 wr => ∃ (m : Nat) (p : List Int) (cur : Array Value), v4 = .int .u64 (m : Int) ∧ v5 = .int .i64 (p.length : Int) ∧ p.length ≤ 9 ∧ Aside0 (m * 128 ^ p.length < 18446744073709551616) ∧ Aside0 (vb 9 m0 = p ++ vb (9 - p.length) m) ∧ Aside0 (Filled cur p) ∧ Aside0 (wr.heap[w.heap.size]? = some (.cells cur 172 (0, 0))) ∧ Aside0 (Below w.heap.size w wr) ∧ w.heap.size < wr.heap.size) (fun v4 v5 _ => 9 - (intOf v5).toNat)
  case atStart => exact ⟨m0, [], _, (by rw [← Hz.out]; rfl), rfl, by decide, ⟨by simpa using Hm⟩, ⟨rfl⟩, ⟨rfl, rfl, by decide⟩, ⟨blk_new _ _⟩, ⟨(Below.refl _ _).alloc (Nat.le_refl _) _⟩, by simp⟩
  case round =>
    obtain ⟨m, p, cur, rfl, rfl, hp, HP, HV, HF, HC, HB, hsz⟩ := hrel
    have hfz : wr.frozen? ⟨w.heap.size, p.length, none⟩ = false := blk_frozen HC.out _
    obtain ⟨v, hcell⟩ := filled_cell HF.out hp HC.out
    by_cases hm : 128 ≤ m
    · have hk := vb_pow _ _ HP.out hp hm
      have hset := filled_set HF.out hp ((m % 128 + 128 : Nat) : Int)
      have HS := Aside0.mk hset
      clear hset
      go_wp2
      refine ⟨⟨m / 128, p ++ [((m % 128 + 128 : Nat) : Int)], _, by rw [Int.natCast_ediv]; rfl, by simp, by simp; omega, ⟨by have := vb_down _ _ HP.out; simpa using this⟩, ⟨?_⟩, HS, ⟨?_⟩, ⟨below_set HB.out (Nat.le_refl _)⟩, by simpa using hsz⟩, by simp [intOf]; omega⟩
      · rw [HV.out, show 9 - p.length = (9 - (p ++ [((m % 128 + 128 : Nat) : Int)]).length) + 1 by simp; omega, vb_step _ _ hm, List.append_assoc]
        rfl
      · rw [byte_or]
        exact blk_set HC.out _ _
    · have hcut := run_cut10 w.heap.size (p.length + 1) (by omega) ((p.length : Int) + 1) (by omega)
      have hstr := filled_string (filled_set HF.out hp (m : Int)) (blk_set HC.out p.length (.int .u8 (m : Int))) (p.length + 1) (by simp)
      go_wp2
      go_ret
      refine ⟨?_, below_set HB.out (Nat.le_refl _)⟩
      have e : strOfNums (p ++ [(m : Int)]) = r := by rw [← H.out, HV.out, vb_last _ _ (by omega)]
      show Ending.returned (.string (strOfNums (p ++ [(m : Int)]))) = _
      rw [e]
end Go.Proofs.Ytgjclhhjigflkac.C

/-
  DERIVED: THE SHELF's CONTRACTS AT THIS DUMP, IN PLAIN WORDS (tools/lay-plain.mjs out of 'TryShelf.lean', which tools/lay-shelf.mjs wrote): THE SAME DECLARATIONS UNDER THE SAME NAMES: 'import', 'namespace', 'open', 'def', 'theorem' AND NOTHING ELSE: no command of the shelf's: FOR A HAND-IN. Each laying: the table of numbers ('.._ren') and one theorem, a field a fact of the dump's own or the kernel's comparison; each contract: ONE APPLICATION.
-/
namespace Go.Proofs
open Go.Shelf
def Try.lays169_ren : Go.Shelf.Ren := ⟨fun | 169 => 63 | n => n, fun | 70 => 105 | 9 => 9 | 0 => 0 | 72 => 108 | 37 => 106 | 127 => 157 | 3 => 3 | 5 => 5 | n => n, fun | n => n⟩
theorem Try.lays169 : Go.Proofs.Lays.n169 Try.prog Try.lays169_ren := {
  mixed := by kernel_rfl
  f169 := Try.func63.trans (congrArg some (by kernel_rfl))
  t0 := Try.underlying0
  a0 := Try.isAgg0
  z0 := Try.sizeOf0
  v0 := Try.zeroValue0
  t3 := Try.underlying3
  a3 := Try.isAgg3
  z3 := Try.sizeOf3
  v3 := Try.zeroValue3
  t9 := Try.underlying9
  a9 := Try.isAgg9
  z9 := Try.sizeOf9
  v9 := Try.zeroValue9
  t37 := Try.underlying106
  a37 := Try.isAgg106
  z37 := Try.sizeOf106
  v37 := Try.zeroValue106
  t70 := Try.underlying105
  a70 := Try.isAgg105
  z70 := Try.sizeOf105
  v70 := Try.zeroValue105
  t72 := Try.underlying108
  a72 := Try.isAgg108
  z72 := Try.sizeOf108
  v72 := Try.zeroValue108
  t127 := Try.underlying157
  a127 := Try.isAgg157
  z127 := Try.sizeOf157
  v127 := Try.zeroValue157 }
theorem Try.Builder_Extra_169 : Builder.Extra Try.prog Try.lays169_ren := {
  sizeBuilder := by kernel_rfl
  liesBuilder := by kernel_rfl
  t5 := Try.underlying5
  a5 := Try.isAgg5
  z5 := Try.sizeOf5
  v5 := Try.zeroValue5
  infoByte := by kernel_rfl
  cellsByte := by kernel_rfl
  sizeByte := by kernel_rfl
  neB5 := by decide }
open Go.RowKit in
/-- (*strings.Builder).String: "String returns the accumulated string.": OF A BUILDER THAT HOLDS AT LEAST ONE BYTE. ✋ THE MODEL FREEZES THOSE BYTES IN THE BUFFER (unsafe.String): a later write INTO them ends the model's run without an answer; a later append BEHIND them goes on. The statement's order of evaluation is drawn: one draw. (LAID: no walk: one application.) -/
theorem Try.Builder_String (B b : Nat) (l : List UInt8) (w : World) (h : Lib.IsBuilder 108 5 B b (Lib.byteCells l) w) (h0 : l ≠ []) :
    Calls Try.prog 63 #[.pointer (some ⟨b, 0, none⟩)] w fun e w' => e = .returned (.string ⟨l.toArray⟩) ∧ Below B w w' := Any.Builder_String Try.lays169 Try.Builder_Extra_169 B b l w h h0
open Go.RowKit in
/-- (*strings.Builder).String OF A BUILDER THAT HOLDS NO BYTE: the empty string. (Its buffer is nil, or a row of which it has taken nothing yet; where that row has NO capacity the model lays one new block for unsafe.SliceData's 'some address'.) One draw. (LAID: no walk: one application.) -/
theorem Try.Builder_String_empty (B b : Nat) (w : World) (h : Lib.IsBuilder 108 5 B b [] w) (hBw : B ≤ w.heap.size) :
    Calls Try.prog 63 #[.pointer (some ⟨b, 0, none⟩)] w fun e w' => e = .returned (.string ⟨#[]⟩) ∧ Below B w w' := Any.Builder_String_empty Try.lays169 Try.Builder_Extra_169 B b w h hBw
open Go.RowKit in
/-- (*strings.Builder).String: "String returns the accumulated string.": WHATEVER THE BUILDER HOLDS. (LAID: no walk: one application.) -/
theorem Try.Builder_String_any (B b : Nat) (l : List UInt8) (w : World) (h : Lib.IsBuilder 108 5 B b (Lib.byteCells l) w) (hBw : B ≤ w.heap.size) :
    Calls Try.prog 63 #[.pointer (some ⟨b, 0, none⟩)] w fun e w' => e = .returned (.string ⟨l.toArray⟩) ∧ Below B w w' := Any.Builder_String_any Try.lays169 Try.Builder_Extra_169 B b l w h hBw
open Go.RowKit in
/-- (*strings.Builder).String: "String returns the accumulated string.": OF A BUILDER THAT HOLDS AT LEAST ONE BYTE. ✋ THE MODEL FREEZES THOSE BYTES IN THE BUFFER (unsafe.String): a later write INTO them ends the model's run without an answer; a later append BEHIND them goes on. The statement's order of evaluation is drawn: one draw. THE FORM '_f': IT SAYS BESIDES THAT THE BUILDER IS A BUILDER STILL ('Lib.IsBuilderF', the same bytes): SO IT CAN BE WRITTEN ON: 'b.WriteString(b.String()[:k])'. (LAID: no walk: one application.) -/
theorem Try.Builder_String_f (B b : Nat) (l : List UInt8) (w : World) (h : Lib.IsBuilderF 108 5 B b (Lib.byteCells l) w) (h0 : l ≠ []) :
    Calls Try.prog 63 #[.pointer (some ⟨b, 0, none⟩)] w fun e w' => e = .returned (.string ⟨l.toArray⟩) ∧ (Lib.IsBuilderF 108 5 B b (Lib.byteCells l) w' ∧ Below B w w') := Any.Builder_String_f Try.lays169 Try.Builder_Extra_169 B b l w h h0
open Go.RowKit in
/-- (*strings.Builder).String OF A BUILDER THAT HOLDS NO BYTE: the empty string; THE FORM '_f': a builder still. (LAID: no walk: one application.) -/
theorem Try.Builder_String_empty_f (B b : Nat) (w : World) (h : Lib.IsBuilderF 108 5 B b [] w) (hBw : B ≤ w.heap.size) :
    Calls Try.prog 63 #[.pointer (some ⟨b, 0, none⟩)] w fun e w' => e = .returned (.string ⟨#[]⟩) ∧ (Lib.IsBuilderF 108 5 B b [] w' ∧ Below B w w') := Any.Builder_String_empty_f Try.lays169 Try.Builder_Extra_169 B b w h hBw
open Go.RowKit in
/-- (*strings.Builder).String: "String returns the accumulated string.": WHATEVER THE BUILDER HOLDS; THE FORM '_f': OF A BUILDER THAT MAY HAVE BEEN READ BEFORE; AND IT IS A BUILDER STILL, holding the same bytes: it can be written on. (LAID: no walk: one application.) -/
theorem Try.Builder_String_any_f (B b : Nat) (l : List UInt8) (w : World) (h : Lib.IsBuilderF 108 5 B b (Lib.byteCells l) w) (hBw : B ≤ w.heap.size) :
    Calls Try.prog 63 #[.pointer (some ⟨b, 0, none⟩)] w fun e w' => e = .returned (.string ⟨l.toArray⟩) ∧ (Lib.IsBuilderF 108 5 B b (Lib.byteCells l) w' ∧ Below B w w') := Any.Builder_String_any_f Try.lays169 Try.Builder_Extra_169 B b l w h hBw
open Go.RowKit in
/-- (*strings.Builder).String: "String returns the accumulated string.": OF A BUILDER THAT HOLDS AT LEAST ONE BYTE. ✋ THE MODEL FREEZES THOSE BYTES IN THE BUFFER (unsafe.String): a later write INTO them ends the model's run without an answer; a later append BEHIND them goes on. The statement's order of evaluation is drawn: one draw. THE FORM '_k': OVER 'Lib.IsBuilderF' (a builder that 'String()' may have read), AND WITH THE FRAME THAT REACHES ABOVE THE BUILDER: 'Lib.OthersKept': every block that is not b and is no row of uint8's stands as it stood: the iterator of a range among them. (LAID: no walk: one application.) -/
theorem Try.Builder_String_k (B b : Nat) (l : List UInt8) (w : World) (h : Lib.IsBuilderF 108 5 B b (Lib.byteCells l) w) (h0 : l ≠ []) :
    Calls Try.prog 63 #[.pointer (some ⟨b, 0, none⟩)] w fun e w' => e = .returned (.string ⟨l.toArray⟩) ∧ (Lib.IsBuilderF 108 5 B b (Lib.byteCells l) w' ∧ Below B w w' ∧ Lib.OthersKept 5 (some b) w w') := Any.Builder_String_k Try.lays169 Try.Builder_Extra_169 B b l w h h0
open Go.RowKit in
/-- (*strings.Builder).String OF A BUILDER THAT HOLDS NO BYTE: the empty string; THE FORM '_k': OVER 'Lib.IsBuilderF' (a builder that 'String()' may have read), AND WITH THE FRAME THAT REACHES ABOVE THE BUILDER: 'Lib.OthersKept': every block that is not b and is no row of uint8's stands as it stood: the iterator of a range among them. (LAID: no walk: one application.) -/
theorem Try.Builder_String_empty_k (B b : Nat) (w : World) (h : Lib.IsBuilderF 108 5 B b [] w) (hBw : B ≤ w.heap.size) :
    Calls Try.prog 63 #[.pointer (some ⟨b, 0, none⟩)] w fun e w' => e = .returned (.string ⟨#[]⟩) ∧ (Lib.IsBuilderF 108 5 B b [] w' ∧ Below B w w' ∧ Lib.OthersKept 5 (some b) w w') := Any.Builder_String_empty_k Try.lays169 Try.Builder_Extra_169 B b w h hBw
open Go.RowKit in
/-- (*strings.Builder).String: "String returns the accumulated string.": WHATEVER THE BUILDER HOLDS; THE FORM '_k': OVER 'Lib.IsBuilderF' (a builder that 'String()' may have read), AND WITH THE FRAME THAT REACHES ABOVE THE BUILDER: 'Lib.OthersKept': every block that is not b and is no row of uint8's stands as it stood: the iterator of a range among them. (LAID: no walk: one application.) -/
theorem Try.Builder_String_any_k (B b : Nat) (l : List UInt8) (w : World) (h : Lib.IsBuilderF 108 5 B b (Lib.byteCells l) w) (hBw : B ≤ w.heap.size) :
    Calls Try.prog 63 #[.pointer (some ⟨b, 0, none⟩)] w fun e w' => e = .returned (.string ⟨l.toArray⟩) ∧ (Lib.IsBuilderF 108 5 B b (Lib.byteCells l) w' ∧ Below B w w' ∧ Lib.OthersKept 5 (some b) w w') := Any.Builder_String_any_k Try.lays169 Try.Builder_Extra_169 B b l w h hBw
def Try.lays212_ren : Go.Shelf.Ren := ⟨fun | 212 => 127 | 263 => 149 | 264 => 150 | n => n, fun | 46 => 169 | 51 => 188 | 146 => 189 | 53 => 173 | 148 => 191 | n => n, fun | n => n⟩
theorem Try.lays212 : Go.Proofs.Lays.n212 Try.prog Try.lays212_ren := {
  mixed := by kernel_rfl
  f212 := Try.func127.trans (congrArg some (by kernel_rfl))
  f263 := Try.func149.trans (congrArg some (by kernel_rfl))
  f264 := Try.func150.trans (congrArg some (by kernel_rfl))
  t46 := Try.underlying169
  a46 := Try.isAgg169
  z46 := Try.sizeOf169
  v46 := Try.zeroValue169
  t51 := Try.underlying188
  a51 := Try.isAgg188
  z51 := Try.sizeOf188
  v51 := Try.zeroValue188
  t53 := Try.underlying173
  a53 := Try.isAgg173
  z53 := Try.sizeOf173
  v53 := Try.zeroValue173
  t146 := Try.underlying189
  a146 := Try.isAgg189
  z146 := Try.sizeOf189
  v146 := Try.zeroValue189
  t148 := Try.underlying191
  a148 := Try.isAgg191
  z148 := Try.sizeOf191
  v148 := Try.zeroValue191 }
open Go.RowKit Go.Lib in
/-- math/bits.Mul: "Mul returns the full-width product of x and y": on a machine of 64 bits: Mul64's. (LAID: no walk: one application.) -/
theorem Try.bits_Mul (x y : Nat) (hx : x < 18446744073709551616) (hy : y < 18446744073709551616) (w : World) :
    Calls Try.prog 127 #[.int .u64 x, .int .u64 y] w fun e w' => e = .returned (.tuple #[.int .u64 ((x * y / 18446744073709551616 : Nat) : Int), .int .u64 ((x * y % 18446744073709551616 : Nat) : Int)]) ∧ w' = w := Any.bits_Mul Try.lays212 x y hx hy w
def Try.lays108_ren : Go.Shelf.Ren := ⟨fun | 108 => 116 | n => n, fun | 28 => 43 | 3 => 3 | 0 => 0 | 4 => 4 | n => n, fun | n => n⟩
theorem Try.lays108 : Go.Proofs.Lays.n108 Try.prog Try.lays108_ren := {
  mixed := by kernel_rfl
  f108 := Try.func116.trans (congrArg some (by kernel_rfl))
  t0 := Try.underlying0
  a0 := Try.isAgg0
  z0 := Try.sizeOf0
  v0 := Try.zeroValue0
  t3 := Try.underlying3
  a3 := Try.isAgg3
  z3 := Try.sizeOf3
  v3 := Try.zeroValue3
  t4 := Try.underlying4
  a4 := Try.isAgg4
  z4 := Try.sizeOf4
  v4 := Try.zeroValue4
  t28 := Try.underlying43
  a28 := Try.isAgg43
  z28 := Try.sizeOf43
  v28 := Try.zeroValue43 }
open Go.Lib in
/-- slices.Index at []int: "Index returns the index of the first occurrence of v in s, or -1 if not present.": IT RETURNS 'Lib.idxOf (the elements) v'; the world is as it was. 'zs': what the cells behind the slice's address hold (its spare capacity too, if you have it); 'zs.take n': its elements. (LAID: no walk: one application.) -/
theorem Try.slices_Index_int (b off n c : Nat) (zs : List Int) (x : Int) (w : World) (hz : n ≤ zs.length) (hbig : n ≤ 9223372036854775807) (hc : ∀ j, j < zs.length → w.cell? ⟨b, off + j, none⟩ = some (.int .i64 (zs.getD j 0))) :
    Calls Try.prog 116 #[.slice (some ⟨b, off, none⟩) n c, .int .i64 x] w fun e w' => e = .returned (.int .i64 (Lib.idxOf (zs.take n) x)) ∧ w' = w := Any.slices_Index_int Try.lays108 b off n c zs x w hz hbig hc
open Go.Lib in
/-- The same at a slice of length 0, a nil one too: no cell is known, none is asked for. (LAID: no walk: one application.) -/
theorem Try.slices_Index_int_empty (a : Option Addr) (c : Nat) (x : Int) (w : World) :
    Calls Try.prog 116 #[.slice a 0 c, .int .i64 x] w fun e w' => e = .returned (.int .i64 (Lib.idxOf [] x)) ∧ w' = w := Any.slices_Index_int_empty Try.lays108 a c x w
def Try.lays107_ren : Go.Shelf.Ren := ⟨fun | 107 => 77 | 108 => 116 | n => n, fun | 28 => 43 | 3 => 3 | 4 => 4 | 0 => 0 | n => n, fun | n => n⟩
theorem Try.lays107 : Go.Proofs.Lays.n107 Try.prog Try.lays107_ren := {
  mixed := by kernel_rfl
  f107 := Try.func77.trans (congrArg some (by kernel_rfl))
  f108 := Try.func116.trans (congrArg some (by kernel_rfl))
  t0 := Try.underlying0
  a0 := Try.isAgg0
  z0 := Try.sizeOf0
  v0 := Try.zeroValue0
  t3 := Try.underlying3
  a3 := Try.isAgg3
  z3 := Try.sizeOf3
  v3 := Try.zeroValue3
  t4 := Try.underlying4
  a4 := Try.isAgg4
  z4 := Try.sizeOf4
  v4 := Try.zeroValue4
  t28 := Try.underlying43
  a28 := Try.isAgg43
  z28 := Try.sizeOf43
  v28 := Try.zeroValue43 }
open Go.Lib in
/-- slices.Contains at []int: "Contains reports whether v is present in s.": IT RETURNS 'elements.contains v'; the world is as it was. ITS CALLEE slices.Index IS MET BY ITS OWN CONTRACT OFF THE SHELF (lay that first): no loop is walked here. (LAID: no walk: one application.) -/
theorem Try.slices_Contains_int (b off n c : Nat) (zs : List Int) (x : Int) (w : World) (hz : n ≤ zs.length) (hbig : n ≤ 9223372036854775807) (hc : ∀ j, j < zs.length → w.cell? ⟨b, off + j, none⟩ = some (.int .i64 (zs.getD j 0))) :
    Calls Try.prog 77 #[.slice (some ⟨b, off, none⟩) n c, .int .i64 x] w fun e w' => e = .returned (.bool ((zs.take n).contains x)) ∧ w' = w := Any.slices_Contains_int Try.lays107 b off n c zs x w hz hbig hc
open Go.Lib in
/-- The same at a slice of length 0, a nil one too. (LAID: no walk: one application.) -/
theorem Try.slices_Contains_int_empty (a : Option Addr) (c : Nat) (x : Int) (w : World) :
    Calls Try.prog 77 #[.slice a 0 c, .int .i64 x] w fun e w' => e = .returned (.bool false) ∧ w' = w := Any.slices_Contains_int_empty Try.lays107 a c x w
end Go.Proofs

/- A number's bytes; a strings.Builder that is laid anew, and behind other calls. -/
namespace Go.Proofs.Ytgjclhhjigflkac.C
open Go.RowKit Go.Proofs.Ytgjclhhjigflkac.MyWords Go.Proofs.YtgjclhhjigflkacW.PrintWords Go.Proofs.YtgjclhhjigflkacW.PrintLast Go.Proofs.YtgjclhhjigflkacW.PrintMore
set_option linter.unusedVariables false
set_option linter.unusedSimpArgs false
def vputB (a : Int) : ByteArray := strOfNums (vb 9 (IntKind.u64.wrap (zigw a)).toNat)
theorem vb_length (k : Nat) : ∀ n, (vb k n).length ≤ k + 1 := by
  induction k with
  | zero => intro n; simp [vb]
  | succ k ih =>
    intro n
    rw [vb]
    split
    · simp
    · have := ih (n / 128)
      simp only [List.length_cons]
      omega
theorem vputB_size (a : Int) : (vputB a).size ≤ 10 := by
  unfold vputB
  rw [strOfNums_size]
  exact vb_length 9 _
/-- the bytes of numbers, one behind the other -/
def vputs (l : List Int) : List UInt8 := l.flatMap fun a => (vputB a).data.toList
theorem vputs_snoc (l : List Int) (a : Int) : vputs (l ++ [a]) = vputs l ++ (vputB a).data.toList := by simp [vputs]
theorem vputs_length (l : List Int) : (vputs l).length ≤ 10 * l.length := by
  induction l with
  | nil => simp [vputs]
  | cons a l ih =>
    have h : vputs (a :: l) = (vputB a).data.toList ++ vputs l := by simp [vputs]
    rw [h, List.length_append, data_length, List.length_cons]
    have := vputB_size a
    omega
theorem bld_new (w : World) : Bld w.heap.size w.heap.size (Lib.byteCells []) (w.alloc (.cells #[.pointer none, .slice none 0 0] 108)) := Lib.fresh_isBuilder _ _ w
theorem take_rd (l : List Int) (k : Nat) (h : k < l.length) : l.take (k + 1) = l.take k ++ [rd l (k : Int)] := by
  rw [List.take_succ_eq_append_getElem h]
  simp [rd, List.getD_eq_getElem?_getD, List.getElem?_eq_getElem h]
theorem bld_below {B b : Nat} {bs : List Value} {w w1 : World} (h : Bld B b bs w) (hb : Below w.heap.size w w1) : Bld B b bs w1 := by
  have go : ∀ p, Lib.BuilderAt 108 5 B b p bs w → Lib.BuilderAt 108 5 B b p bs w1 := by
    rintro p ⟨hB, v, hk, ho, hn⟩
    exact ⟨hB, v, blk_below hk hb, pw_own_below ho hb, hn⟩
  rcases h with h | h
  · exact .inl (go _ h)
  · exact .inr (go _ h)
end Go.Proofs.Ytgjclhhjigflkac.C

/- Numbers as few bytes, plain: zigzag, groups of seven bits, and what bytes begin with. No program here. -/
namespace Go.Proofs.Ytgjclhhjigflkac.Vi
set_option linter.unusedVariables false
set_option linter.unusedSimpArgs false
open Go.RowKit Go.Proofs.Ytgjclhhjigflkac.C Go.Proofs.YtgjclhhjigflkacW.PrintWords Go.Proofs.YtgjclhhjigflkacW.PrintLast Go.Proofs.YtgjclhhjigflkacW.PrintMore
def wf64 (x : Int) : Prop := -9223372036854775808 ≤ x ∧ x ≤ 9223372036854775807
def zz (n : Int) : Nat := if 0 ≤ n then (2 * n).toNat else (-2 * n - 1).toNat
def uz (m : Nat) : Int := if m % 2 = 0 then ((m / 2 : Nat) : Int) else -((m / 2 : Nat) : Int) - 1
theorem zz_lt (n : Int) (h : wf64 n) : zz n < 18446744073709551616 := by unfold zz; unfold wf64 at h; split <;> omega
theorem zz_uz (m : Nat) : zz (uz m) = m := by unfold uz zz; split <;> split <;> omega
theorem uz_wf (m : Nat) (h : m < 18446744073709551616) : wf64 (uz m) := by unfold uz wf64; split <;> omega
theorem uw (n : Int) (h0 : 0 ≤ n) (h1 : n < 18446744073709551616) : IntKind.u64.wrap n = n := by rw [IntKind.wrap_u64]; omega
theorem xor_ones (x : Nat) (h : x < 18446744073709551616) : x ^^^ 18446744073709551615 = 18446744073709551615 - x := by
  have e := BitVec.xor_allOnes (x := BitVec.ofNat 64 x)
  have e2 := congrArg BitVec.toNat e
  rw [BitVec.toNat_xor, BitVec.toNat_not, BitVec.toNat_ofNat, BitVec.toNat_allOnes, Nat.mod_eq_of_lt (by omega)] at e2
  exact e2
theorem u64_xor_ones (x : Nat) (h : x < 18446744073709551616) : Go.bits .xor .u64 (x : Int) 18446744073709551615 = ((18446744073709551615 - x : Nat) : Int) := by
  have := bits_xor_u64_nat x 18446744073709551615 h (by decide)
  rw [xor_ones x h] at this
  exact this
theorem u64_xor_zero (x : Nat) (h : x < 18446744073709551616) : Go.bits .xor .u64 (x : Int) 0 = (x : Int) := by
  have := bits_xor_u64_nat x 0 h (by decide)
  rw [Nat.xor_zero] at this
  exact this
theorem zigw_zz (n : Int) (h : wf64 n) : IntKind.u64.wrap (zigw n) = (zz n : Int) := by
  unfold wf64 at h
  unfold zigw
  by_cases h0 : 0 ≤ n
  · have e1 : n / 9223372036854775808 = 0 := by omega
    have e2 : IntKind.u64.wrap (IntKind.u64.wrap n * 2) = (((2 * n).toNat : Nat) : Int) := by rw [uw n h0 (by omega), uw _ (by omega) (by omega)]; omega
    have e3 : IntKind.u64.wrap 0 = 0 := by decide
    rw [e1, e2, e3, u64_xor_zero _ (by omega)]
    rw [IntKind.wrap_u64]
    unfold zz wrap64
    rw [if_pos h0]
    omega
  · have e1 : n / 9223372036854775808 = -1 := by omega
    have e3 : IntKind.u64.wrap (-1) = 18446744073709551615 := by decide
    have e2 : IntKind.u64.wrap (IntKind.u64.wrap n * 2) = (((18446744073709551616 + 2 * n).toNat : Nat) : Int) := by rw [IntKind.wrap_u64, IntKind.wrap_u64]; omega
    rw [e1, e2, e3, u64_xor_ones _ (by omega)]
    rw [IntKind.wrap_u64]
    unfold zz wrap64
    rw [if_neg h0]
    omega
theorem u64_one (x : Nat) (h : x < 18446744073709551616) : Go.bits .and .u64 (x : Int) 1 = ((x % 2 : Nat) : Int) := by
  have := u64_and_nat x 1 h (by decide)
  rw [Nat.and_one_is_mod] at this
  exact this
/-- the number of a word -/
theorem zag_uz (m : Nat) (h : m < 18446744073709551616) (a : Int) (ha : IntKind.u64.wrap a = (m : Int)) : wrap64 (Go.bits .xor .u64 ((IntKind.u64.wrap (a)) / 2) (IntKind.u64.wrap (-(Go.bits .and .u64 (IntKind.u64.wrap (a)) 1)))) = uz m := by
  rw [ha, u64_one m h]
  have e1 : (m : Int) / 2 = ((m / 2 : Nat) : Int) := by omega
  rw [e1]
  unfold uz
  rcases Nat.mod_two_eq_zero_or_one m with e | e
  · rw [e]
    have e3 : IntKind.u64.wrap (-((0 : Nat) : Int)) = 0 := by decide
    rw [e3, u64_xor_zero _ (by omega), if_pos rfl]
    unfold wrap64
    omega
  · rw [e]
    have e3 : IntKind.u64.wrap (-((1 : Nat) : Int)) = 18446744073709551615 := by decide
    rw [e3, u64_xor_ones _ (by omega), if_neg (by decide)]
    unfold wrap64
    omega
theorem wrap_wrap (M : Nat) (h : M < 18446744073709551616) : IntKind.u64.wrap (wrap64 (M : Int)) = (M : Int) := by
  rw [IntKind.wrap_u64]; unfold wrap64; omega
/-! bytes -/
def vbu : Nat → Nat → List UInt8
  | 0, n => [UInt8.ofNat n]
  | k + 1, n => if n < 128 then [UInt8.ofNat n] else UInt8.ofNat (n % 128 + 128) :: vbu k (n / 128)
def dec : List UInt8 → Nat
  | [] => 0
  | c :: s => c.toNat % 128 + 128 * dec s
theorem dec_append (s t : List UInt8) : dec (s ++ t) = dec s + 128 ^ s.length * dec t := by
  induction s with
  | nil => simp [dec]
  | cons c s ih =>
    rw [List.cons_append, dec, ih, dec, List.length_cons, Nat.pow_succ, Nat.mul_add, Nat.mul_comm (128 ^ s.length) 128, Nat.mul_assoc, Nat.add_assoc]
theorem dec_lt (s : List UInt8) : dec s < 128 ^ s.length := by
  induction s with
  | nil => simp [dec]
  | cons c s ih =>
    rw [dec, List.length_cons, Nat.pow_succ]
    have : c.toNat % 128 < 128 := Nat.mod_lt _ (by decide)
    omega
theorem u8n (n : Nat) (h : n < 256) : (UInt8.ofNat n).toNat = n := by rw [UInt8.toNat_ofNat']; omega
theorem vbu_len (k : Nat) : ∀ n, n < 128 ^ (k + 1) → 1 ≤ (vbu k n).length ∧ (vbu k n).length ≤ k + 1 ∧ n < 128 ^ (vbu k n).length ∧ ((vbu k n).length = 1 ∨ 128 ^ ((vbu k n).length - 1) ≤ n) := by
  induction k with
  | zero => intro n h; rw [vbu]; exact ⟨by simp, by simp, by simpa using h, .inl rfl⟩
  | succ k ih =>
    intro n h
    rw [vbu]
    split
    · rename_i hn
      exact ⟨by simp, by simp, by simpa using hn, .inl rfl⟩
    · rename_i hn
      obtain ⟨h1, h2, h3, h4⟩ := ih (n / 128) (by rw [Nat.pow_succ] at h; exact Nat.div_lt_of_lt_mul (by rw [Nat.mul_comm]; exact h))
      rw [List.length_cons]
      refine ⟨by omega, by omega, ?_, .inr ?_⟩
      · rw [Nat.pow_succ]
        omega
      · rw [Nat.add_sub_cancel]
        rcases h4 with h4 | h4
        · rw [h4]; simp; omega
        · obtain ⟨L, hL⟩ : ∃ L, (vbu k (n / 128)).length = L + 1 := ⟨_, (Nat.sub_add_cancel h1).symm⟩
          rw [hL] at h4 ⊢
          rw [Nat.add_sub_cancel] at h4
          rw [Nat.pow_succ]
          omega
/-- bytes that go on, but the last one -/
theorem canon (k : Nat) : ∀ (done : List UInt8) (b : UInt8), (∀ c ∈ done, 128 ≤ c.toNat) → b.toNat < 128 → done.length ≤ k → (done = [] ∨ b ≠ 0) → vbu k (dec (done ++ [b])) = done ++ [b] := by
  induction k with
  | zero =>
    intro done b h1 h2 h3 h4
    obtain rfl : done = [] := List.length_eq_zero_iff.1 (by omega)
    simp only [List.nil_append, dec, vbu]
    congr 1
    apply UInt8.toNat_inj.1
    rw [u8n _ (by omega)]
    omega
  | succ k ih =>
    intro done b h1 h2 h3 h4
    cases done with
    | nil =>
      simp only [List.nil_append, dec]
      rw [vbu, if_pos (by omega)]
      congr 1
      apply UInt8.toNat_inj.1
      rw [u8n _ (by omega)]
      omega
    | cons c done =>
      have hb : b ≠ 0 := h4.resolve_left (by simp)
      have hb' : 1 ≤ b.toNat := by
        rcases Nat.eq_zero_or_pos b.toNat with h | h
        · exact absurd (UInt8.toNat_inj.1 (by rw [h]; rfl)) hb
        · exact h
      have hc : 128 ≤ c.toNat := h1 c (by simp)
      have hc2 := c.toNat_lt
      have hd : 1 ≤ dec (done ++ [b]) := by
        rw [dec_append]
        have : 1 ≤ 128 ^ done.length * dec [b] := Nat.mul_pos (Nat.pow_pos (by decide)) (by simp only [dec]; omega)
        omega
      rw [List.cons_append, dec, vbu, if_neg (by omega)]
      have e1 : (c.toNat % 128 + 128 * dec (done ++ [b])) / 128 = dec (done ++ [b]) := by omega
      have e2 : (c.toNat % 128 + 128 * dec (done ++ [b])) % 128 + 128 = c.toNat := by omega
      rw [e1, e2, ih done b (fun x hx => h1 x (by simp [hx])) h2 (by simpa using h3) (.inr hb)]
      congr 1
      apply UInt8.toNat_inj.1
      rw [u8n _ (by omega)]
/-! what bytes begin with -/
def takeS : List UInt8 → List UInt8 → Int × Int × Int
  | _, [] => (0, 0, 20)
  | done, b :: s =>
    if 10 ≤ done.length then (0, 0, 20)
    else if 128 ≤ b.toNat then takeS (done ++ [b]) s
    else if (done = [] ∨ b ≠ 0) ∧ dec (done ++ [b]) < 18446744073709551616 then (uz (dec (done ++ [b])), (done.length : Int) + 1, 0) else (0, 0, 20)
theorem p64 : (128 : Nat) ^ (9 + 1) = 64 * 18446744073709551616 := by decide
theorem takeS_ok (s : List UInt8) : ∀ (done : List UInt8), (∀ c ∈ done, 128 ≤ c.toNat) → ∀ n k, takeS done s = (n, k, 0) →
    wf64 n ∧ (done.length : Int) < k ∧ k ≤ 10 ∧ k ≤ ((done ++ s).length : Int) ∧ vbu 9 (zz n) = (done ++ s).take k.toNat := by
  induction s with
  | nil => intro done h n k e; rw [takeS] at e; simp at e
  | cons b s ih =>
    intro done h n k e
    rw [takeS] at e
    split at e
    · simp at e
    · rename_i hl
      split at e
      · rename_i hb
        obtain ⟨h1, h2, h3, h4, h5⟩ := ih (done ++ [b]) (by intro c hc; rcases List.mem_append.1 hc with hc | hc; exact h c hc; simp at hc; subst hc; exact hb) n k e
        have ea : done ++ [b] ++ s = done ++ b :: s := by simp
        rw [ea] at h4 h5
        exact ⟨h1, by simp at h2; omega, h3, h4, h5⟩
      · rename_i hb
        split at e
        · rename_i hc
          simp only [Prod.mk.injEq] at e
          obtain ⟨rfl, rfl, _⟩ := e
          refine ⟨uz_wf _ hc.2, by omega, by omega, by simp; omega, ?_⟩
          rw [zz_uz, canon 9 done b h (by omega) (by omega) hc.1, show ((done.length : Int) + 1).toNat = (done ++ [b]).length from by rw [List.length_append]; simp; try omega, show done ++ b :: s = (done ++ [b]) ++ s by simp, List.take_left' rfl]
        · simp at e
end Go.Proofs.Ytgjclhhjigflkac.Vi

/- Reading tables from bytes, plain: what the readers (the program's and the document's) compute. -/
namespace Go.Proofs.Ytgjclhhjigflkac.Sc
open Go Go.RowKit Go.Proofs.Ytgjclhhjigflkac.C Go.Proofs.Ytgjclhhjigflkac.Hand Go.Proofs.Ytgjclhhjigflkac.Vi Go.Proofs.YtgjclhhjigflkacW.PrintWords
set_option linter.unusedVariables false
set_option linter.unusedSimpArgs false
/-- how far bytes were read; bad: they are none -/
structure RS where
  at_ : Nat
  bad : Bool
def tk (s : ByteArray) (p : Nat) : Int × Int × Int := takeS [] (s.data.toList.drop p)
def failN (s : ByteArray) (m : Int) (x : RS) : Bool := x.bad || (decide ((tk s x.at_).2.2 ≠ 0) || (decide ((tk s x.at_).1 < 0) || decide ((tk s x.at_).1 > m)))
def num1 (s : ByteArray) (m : Int) (x : RS) : Int × RS := if failN s m x = true then (0, ⟨x.at_, true⟩) else ((tk s x.at_).1, ⟨x.at_ + (tk s x.at_).2.1.toNat, false⟩)
def failT (s : ByteArray) (r : Int × RS) : Bool := r.2.bad || decide (r.1 > (s.size : Int) - (r.2.at_ : Int))
def nm1 (s : ByteArray) (x : RS) : ByteArray × RS := if failT s (num1 s 16 x) = true then (⟨#[]⟩, ⟨(num1 s 16 x).2.at_, true⟩) else (s.extract (num1 s 16 x).2.at_ ((num1 s 16 x).2.at_ + (num1 s 16 x).1.toNat), ⟨(num1 s 16 x).2.at_ + (num1 s 16 x).1.toNat, false⟩)
def timesN {σ : Type} (bad : σ → Bool) (f : σ → σ) : Nat → σ → σ
  | 0, x => x
  | n + 1, x => timesN bad f n (if bad x = true then x else f x)
def col1 (s : ByteArray) (p : RS × List Col) : RS × List Col := ((num1 s 1 (num1 s 2 (nm1 s p.1).2).2).2, p.2 ++ [⟨(nm1 s p.1).1, (num1 s 2 (nm1 s p.1).2).1, (num1 s 1 (num1 s 2 (nm1 s p.1).2).2).1 == 1⟩])
def int1 (s : ByteArray) (p : RS × List Int) : RS × List Int := ((num1 s 8 p.1).2, p.2 ++ [(num1 s 8 p.1).1])
def ints1 (s : ByteArray) (x : RS) : RS × List Int := timesN (·.1.bad) (int1 s) (num1 s 8 x).1.toNat ((num1 s 8 x).2, [])
def prj1 (s : ByteArray) (p : RS × List Prj) : RS × List Prj := ((num1 s 8 (ints1 s (nm1 s p.1).2).1).2, p.2 ++ [⟨(nm1 s p.1).1, (ints1 s (nm1 s p.1).2).2, (num1 s 8 (ints1 s (nm1 s p.1).2).1).1⟩])
def cols1 (s : ByteArray) (x : RS) : RS × List Col := timesN (·.1.bad) (col1 s) (num1 s 8 x).1.toNat ((num1 s 8 x).2, [])
def prjs1 (s : ByteArray) (x : RS) : RS × List Prj := timesN (·.1.bad) (prj1 s) (num1 s 6 x).1.toNat ((num1 s 6 x).2, [])
def tab1 (s : ByteArray) (x : RS) : Tab × RS := (⟨(nm1 s x).1, (cols1 s (nm1 s x).2).2, (prjs1 s (cols1 s (nm1 s x).2).1).2⟩, (prjs1 s (cols1 s (nm1 s x).2).1).1)
def tabS (s : ByteArray) (p : RS × List Tab) : RS × List Tab := ((tab1 s p.1).2, p.2 ++ [(tab1 s p.1).1])
def tabs1 (s : ByteArray) (x : RS) : RS × List Tab := timesN (·.1.bad) (tabS s) (num1 s 8 x).1.toNat ((num1 s 8 x).2, [])
def takeP (s : ByteArray) : List Tab × Int × Int := if ((tabs1 s ⟨0, false⟩).1.bad || !checkP (tabs1 s ⟨0, false⟩).2) = true then ([], 0, 20) else ((tabs1 s ⟨0, false⟩).2, ((tabs1 s ⟨0, false⟩).1.at_ : Int), 0)
/-! bounds -/
theorem tk_ok (s : ByteArray) (p : Nat) (h : (tk s p).2.2 = 0) : ∃ u : Nat, (tk s p).2.1 = (u : Int) ∧ 1 ≤ u ∧ p + u ≤ s.size := by
  obtain ⟨n, k, e⟩ : ∃ n k, tk s p = (n, k, 0) := ⟨(tk s p).1, (tk s p).2.1, by rw [← h]⟩
  obtain ⟨_, h1, _, h2, _⟩ := takeS_ok _ [] (fun c hc => by simp at hc) n k e
  rw [List.nil_append, List.length_drop, data_length] at h2
  rw [List.length_nil] at h1
  rw [e]
  exact ⟨k.toNat, by show k = _; omega, by omega, by omega⟩
theorem num1_at (s : ByteArray) (m : Int) (x : RS) (hx : x.at_ ≤ s.size) : (num1 s m x).2.at_ ≤ s.size := by
  unfold num1
  split
  · exact hx
  · rename_i h
    unfold failN at h
    simp only [Bool.or_eq_true, decide_eq_true_eq, not_or, Decidable.not_not] at h
    obtain ⟨u, hu, _, h2⟩ := tk_ok s x.at_ h.2.1
    show x.at_ + (tk s x.at_).2.1.toNat ≤ s.size
    rw [hu]
    omega
theorem num1_range (s : ByteArray) (m : Int) (hm : 0 ≤ m) (x : RS) : 0 ≤ (num1 s m x).1 ∧ (num1 s m x).1 ≤ m := by
  unfold num1
  split
  · exact ⟨Int.le_refl _, hm⟩
  · rename_i h
    unfold failN at h
    simp only [Bool.or_eq_true, decide_eq_true_eq, not_or, Decidable.not_not] at h
    show 0 ≤ (tk s x.at_).1 ∧ (tk s x.at_).1 ≤ m
    omega
theorem nm1_size (s : ByteArray) (x : RS) : (nm1 s x).1.size ≤ 16 := by
  have h2 := num1_range s 16 (by decide) x
  unfold nm1
  split
  · show (0 : Nat) ≤ 16
    omega
  · show (s.extract _ _).size ≤ 16
    rw [ByteArray.size_extract]
    omega
theorem timesN_inv {σ : Type} {bad : σ → Bool} {f : σ → σ} {I : σ → Prop} (hf : ∀ x, I x → I (f x)) : ∀ n x, I x → I (timesN bad f n x)
  | 0, x, h => h
  | n + 1, x, h => by
    rw [timesN]
    refine timesN_inv hf n _ ?_
    split
    · exact h
    · exact hf x h
theorem timesN_len {α τ : Type} {bad : τ × List α → Bool} {f : τ × List α → τ × List α} (hf : ∀ x, (f x).2.length = x.2.length + 1) : ∀ n x, (timesN bad f n x).2.length ≤ x.2.length + n
  | 0, x => Nat.le_refl _
  | n + 1, x => by
    rw [timesN]
    refine Nat.le_trans (timesN_len hf n _) ?_
    split
    · omega
    · rw [hf]; omega
theorem ints1_len (s : ByteArray) (x : RS) : (ints1 s x).2.length ≤ 8 := by
  have h := timesN_len (bad := fun p : RS × List Int => p.1.bad) (f := int1 s) (fun p => by simp [int1]) (num1 s 8 x).1.toNat ((num1 s 8 x).2, [])
  have h2 := num1_range s 8 (by decide) x
  have h3 : (ints1 s x).2.length ≤ 0 + (num1 s 8 x).1.toNat := h
  omega
theorem cols1_len (s : ByteArray) (x : RS) : (cols1 s x).2.length ≤ 8 := by
  have h : (cols1 s x).2.length ≤ 0 + (num1 s 8 x).1.toNat := timesN_len (bad := fun p : RS × List Col => p.1.bad) (f := col1 s) (fun p => by simp [col1]) (num1 s 8 x).1.toNat ((num1 s 8 x).2, [])
  have h2 := num1_range s 8 (by decide) x
  omega
theorem prjs1_len (s : ByteArray) (x : RS) : (prjs1 s x).2.length ≤ 6 := by
  have h : (prjs1 s x).2.length ≤ 0 + (num1 s 6 x).1.toNat := timesN_len (bad := fun p : RS × List Prj => p.1.bad) (f := prj1 s) (fun p => by simp [prj1]) (num1 s 6 x).1.toNat ((num1 s 6 x).2, [])
  have h2 := num1_range s 6 (by decide) x
  omega
theorem tabs1_len (s : ByteArray) (x : RS) : (tabs1 s x).2.length ≤ 8 := by
  have h : (tabs1 s x).2.length ≤ 0 + (num1 s 8 x).1.toNat := timesN_len (bad := fun p : RS × List Tab => p.1.bad) (f := tabS s) (fun p => by simp [tabS]) (num1 s 8 x).1.toNat ((num1 s 8 x).2, [])
  have h2 := num1_range s 8 (by decide) x
  omega
theorem cols1_small (s : ByteArray) (x : RS) : ∀ c ∈ (cols1 s x).2, c.f0.size ≤ 16 :=
  timesN_inv (I := fun p : RS × List Col => ∀ c ∈ p.2, c.f0.size ≤ 16) (fun p hp c hc => by
    rcases List.mem_append.1 hc with hc | hc
    · exact hp c hc
    · rw [List.mem_singleton] at hc
      subst hc
      exact nm1_size s p.1) _ _ (fun c hc => by simp at hc)
theorem prjs1_small (s : ByteArray) (x : RS) : ∀ c ∈ (prjs1 s x).2, c.f0.size ≤ 16 ∧ c.f1.length ≤ 8 :=
  timesN_inv (I := fun p : RS × List Prj => ∀ c ∈ p.2, c.f0.size ≤ 16 ∧ c.f1.length ≤ 8) (fun p hp c hc => by
    rcases List.mem_append.1 hc with hc | hc
    · exact hp c hc
    · rw [List.mem_singleton] at hc
      subst hc
      exact ⟨nm1_size s p.1, ints1_len s _⟩) _ _ (fun c hc => by simp at hc)
theorem tab1_GT (s : ByteArray) (x : RS) : GT (tab1 s x).1 := by
  have h1 := nm1_size s x
  have h2 := cols1_len s (nm1 s x).2
  have h3 := prjs1_len s (cols1 s (nm1 s x).2).1
  refine ⟨?_, ?_, ?_, fun c hc => ?_, fun c hc => ?_⟩
  · show (nm1 s x).1.size ≤ _; omega
  · show (cols1 s _).2.length ≤ _; omega
  · show (prjs1 s _).2.length ≤ _; omega
  · have := cols1_small s _ c hc; omega
  · have := prjs1_small s _ c hc; omega
theorem tabs1_GT (s : ByteArray) (x : RS) : ∀ t ∈ (tabs1 s x).2, GT t :=
  timesN_inv (I := fun p : RS × List Tab => ∀ t ∈ p.2, GT t) (fun p hp t ht => by
    rcases List.mem_append.1 ht with ht | ht
    · exact hp t ht
    · rw [List.mem_singleton] at ht
      subst ht
      exact tab1_GT s p.1) _ _ (fun t ht => by simp at ht)
end Go.Proofs.Ytgjclhhjigflkac.Sc
