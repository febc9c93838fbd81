/- The walk of cover.Choose. (Written by genchoose.py.) -/
import Derived.Test.YtgjclhhjigflkabCvBest2
namespace Go.Proofs.Ytgjclhhjigflkab.Sc
open Go Go.RowKit Go.Proofs.Ytgjclhhjigflkab.C Go.Proofs.Ytgjclhhjigflkab.MyWords Go.Proofs.Ytgjclhhjigflkab.Hand Go.Proofs.YtgjclhhjigflkabW.PrintWords Go.Proofs.YtgjclhhjigflkabW.PrintLast Go.Proofs.YtgjclhhjigflkabW.PrintMore
set_option linter.unusedVariables false
set_option linter.unusedSimpArgs false
abbrev TV : Nat := 68
theorem size_V : (Try.prog.info? TV).map (·.size) = some 2 := by kernel_rfl
theorem reps1 {α : Type} {R : α → List Value → Prop} {sz : Nat} {x : α} {c : List Value} (h : R x c) (hc : c.length = sz) : Reps R sz [x] c := by
  have := Reps.snoc (Reps.none R sz) h hc
  simpa using this
theorem v_one (a b : Value) (ha : a.oneCell' = true) (hb : b.oneCell' = true) : (#[a, b] : Array Value).all (·.oneCell') = true := by simp [ha, hb]
theorem choose_fn {w : World} {t : Tab} {At : Option Addr} {ct : Nat} {Bt : Option Addr} {dt : Nat} (H : TA w t At ct Bt dt) (p col : Int) (b b12 : Nat) (hb : w.heap[b]? = some (.cells #[.string t.f0, .slice At t.f1.length ct, .slice Bt t.f2.length dt] TT (0, 0))) (hb12 : w.heap[b12]? = some (.cells #[.int .i64 col] 3 (0, 0))) :
    Calls Try.prog 81 #[.int .i64 p, .pointer (some ⟨b, 0, none⟩), .pointer (some ⟨b12, 0, none⟩)] w fun e w' => e = .returned (.bool (decide (0 ≤ placeP t p col))) ∧ Below w.heap.size w w' := by
  have HB := Aside0.mk hb
  have hc9 : w.cell? ⟨b12, 0, none⟩ = some (.int .i64 col) := (cell_of_row w b12 0 _ _ _ hb12).trans rfl
  have HT := Aside0.mk H
  clear hb hb12 H
  go_enter Try.func81, Try.ntmps81
  go_wp2_with (first | ((with_reducible refine gate_dst (N := 5) rfl ?_); refine wpList_load_row rfl TT (.tmp 1) rfl b rfl TT #[.string t.f0, .slice At t.f1.length ct, .slice Bt t.f2.length dt] (0, 0) _ HB.out Try.underlying63 rfl size_T ?_))
  refine (place_calls HT.out p col).mono ?_
  rintro e w2 ⟨rfl, hb2⟩
  go_wp2_with fail
  go_ret
  exact ⟨rfl, hb2⟩
theorem froms_none (t : Tab) (need S : List Int) (k : Nat) (h : fromsP t need S k = none) : ∀ d, fromsP t need S (k + d) = none
  | 0 => h
  | d + 1 => by
    show fromsP t need S ((k + d) + 1) = none
    rw [fromsP, froms_none t need S k h d]
theorem check_one {t : Tab} (h : checkP [t] = true) : mayP t = true := by
  unfold checkP at h
  simp only [Bool.and_eq_true] at h
  simpa using h.1.1
theorem may_one {t : Tab} (h : mayP t = true) : ∀ q ∈ t.f2, 1 ≤ q.f1.length := by
  intro q hq
  unfold mayP at h
  simp only [Bool.and_eq_true] at h
  have h1 := List.all_eq_true.1 h.1.1.1.1.1 q hq
  unfold projP at h1
  simp only [Bool.and_eq_true] at h1
  exact of_decide_eq_true h1.1.1.1.1.2
/-- what Choose leaves -/
def ChPost (w : World) (r : Int × Int × List Int) (e : Ending) (w' : World) : Prop := ∃ v, e = .returned (.tuple #[.agg #[.int .i64 r.2.1, v], .int .i64 r.1]) ∧ Kd.R (Kd.int .i64) 3 w' w.heap.size (fun k => w.heap.size ≤ k) v r.2.2 ∧ Below w.heap.size w w'
theorem froms_succ {t : Tab} {need S : List Int} {k : Nat} {L : List Int} {x : Int} (h : fromsP t need S k = some L) (h2 : fromP t need S k = some x) : fromsP t need S (k + 1) = some (L ++ [x]) := by
  rw [fromsP, h]
  simp only [h2]
theorem froms_bad {t : Tab} {need S : List Int} {k : Nat} {L : List Int} (h : fromsP t need S k = some L) (h2 : fromP t need S k = none) : fromsP t need S (k + 1) = none := by
  rw [fromsP, h]
  simp only [h2]
theorem from_no {t : Tab} {need S : List Int} {k : Nat} (h : ¬ (k : Int) ∈ need) : fromP t need S k = some (-1) := by unfold fromP; rw [if_neg h]
theorem from_bad {t : Tab} {need S : List Int} {k : Nat} {r : Int} (h : (k : Int) ∈ need) (hr : idxF (fun p => decide (0 ≤ placeP t p k)) S 0 = r) (h0 : r < 0) : fromP t need S k = none := by unfold fromP; rw [if_pos h, hr, if_pos h0]
theorem from_yes {t : Tab} {need S : List Int} {k : Nat} {r : Int} (h : (k : Int) ∈ need) (hr : idxF (fun p => decide (0 ≤ placeP t p k)) S 0 = r) (h0 : ¬ r < 0) : fromP t need S k = some (S.getD r.toNat 0) := by unfold fromP; rw [if_pos h, hr, if_neg h0]
theorem froms_len {t : Tab} {need S : List Int} : ∀ {k : Nat} {L : List Int}, fromsP t need S k = some L → L.length = k
  | 0, L, h => by
    rw [fromsP] at h
    injection h with h
    subst h
    rfl
  | k + 1, L, h => by
    rw [fromsP] at h
    cases hk : fromsP t need S k with
    | none => rw [hk] at h; cases h
    | some l =>
      rw [hk] at h
      simp only at h
      cases hf : fromP t need S k with
      | none => rw [hf] at h; cases h
      | some x =>
        rw [hf] at h
        injection h with h
        rw [← h, List.length_append, froms_len hk]
        rfl
set_option maxHeartbeats 2000000 in
set_option maxRecDepth 100000 in
theorem choose_arg {w : World} {t : Tab} {At : Option Addr} {ct : Nat} {Bt : Option Addr} {dt : Nat} (H : TA w t At ct Bt dt) (need : List Int) (An : Option Addr) (cn : Nat) (hn : Kd.C (Kd.int .i64) w An need.length need) (hcn : need.length ≤ cn) (hnl : need.length ≤ 1000000)
    (tested : List Int) (As : Option Addr) (cs : Nat) (hs : Kd.C (Kd.int .i64) w As tested.length tested) (hcs : tested.length ≤ cs) (hsl : tested.length ≤ 1000000) (us : List ByteArray) (Au : Option Addr) (cu : Nat) (hu : Kd.C Kd.string w Au us.length us) (hul : us.length ≤ 1000000) (hck0 : ¬ (checkP [t] = true ∧ colsIn t need = true ∧ colsIn t tested = true)) :
    Calls Try.prog 32 #[.agg #[.string t.f0, .slice At t.f1.length ct, .slice Bt t.f2.length dt], .slice An need.length cn, .slice As tested.length cs, .slice Au us.length cu] w (ChPost w (chooseP t need tested us)) := by
  have HT := Aside0.mk H
  have HN := Aside0.mk hn
  have HS := Aside0.mk hs
  have HU := Aside0.mk hu
  clear H hn hs hu
  have HCH : Aside0 (chooseP t need tested us = (1, 0, [])) := ⟨by unfold chooseP; rw [if_neg hck0]⟩
  cases hck : checkP [t] with
  | false =>
  have HCK := Aside0.mk (chkE_no hck)
  clear hck hck0
  go_enter Try.func32, Try.ntmps32
  go_wp2_with (first | ((with_reducible refine gate_dst (N := 4) rfl ?_); refine box_event rfl (N := 4) rfl (cs := #[.string t.f0, .slice At t.f1.length ct, .slice Bt t.f2.length dt]) (t := TT) ?hr ?_; (case hr => first | (go_simp; done) | (go_simp; rfl)); intro b4 hg4 w1 hb4 hB4; have HX4 := Aside0.mk hb4; have HB4 := Aside0.mk hB4; clear hg4 hb4 hB4) | ((with_reducible refine gate_dst (N := 8) rfl ?_); refine box_event rfl (N := 8) rfl (cs := #[.int .i64 0, .slice none 0 0]) (t := TV) ?hr ?_; (case hr => first | (go_simp; done) | (go_simp; rfl)); intro b8 hg8 w2 hb8 hB8; have HX8 := Aside0.mk hb8; have HX42 := Aside0.mk (blk_below HX4.out hB8); have HB2 := Aside0.mk (below_step HB4.out hB8); have HG8 := Aside0.mk (show w.heap.size ≤ b8 by rw [hg8]; exact HB4.out.size); clear hg8 hb8 hB8) | ((with_reducible refine gate_dst (N := 15) rfl ?_); refine wpList_load_row rfl TT (.tmp 4) rfl b4 rfl TT #[.string t.f0, .slice At t.f1.length ct, .slice Bt t.f2.length dt] (0, 0) _ HX42.out Try.underlying63 rfl size_T ?_) | ((with_reducible refine gate_dst (N := 16) rfl ?_); refine C_lit kT TT rfl [t] [.string t.f0, .slice At t.f1.length ct, .slice Bt t.f2.length dt] ?hr (reps1 (k63_mk _ t HT.out.ct (Kd.C_below HT.out.c HB2.out) HT.out.dt (Kd.C_below HT.out.p HB2.out)) rfl) (by simp) ?_; (case hr => first | (go_simp; done) | (go_simp; rfl)); intro A1 w3 hC3 hB3; have HC3 := Aside0.mk hC3; have HX43 := Aside0.mk (blk_below HX42.out hB3); have HX83 := Aside0.mk (blk_below HX8.out hB3); have HB3 := Aside0.mk (below_step HB2.out hB3); clear hC3 hB3))
  refine (check_calls [t] A1 1 _ HC3.out (Nat.le_refl _) (by simp) (fun x hx => by rw [List.mem_singleton] at hx; subst hx; exact HT.out.g)).mono ?_
  rintro e w4 ⟨rfl, hb4⟩
  rw [HCK.out]
  have HX44 := Aside0.mk (blk_below HX43.out hb4)
  have HX84 := Aside0.mk (blk_below HX83.out hb4)
  have HB44 := Aside0.mk (below_step HB3.out hb4)
  clear hb4
  go_wp2_with (first | ((with_reducible refine gate_ (.store TV (.tmp 8) (.tmp 31)) rfl ?_); refine row_store_event rfl TV (.tmp 8) (.tmp 31) rfl b8 #[.int .i64 0, .slice none 0 0] rfl rfl TV _ HX84.out size_V rfl (v_one _ _ rfl rfl) ?_; intro wz hs; have HZ := Aside0.mk hs; clear hs))
  refine bodyPost_ret (results_ct rfl _ _ b8 TV #[.int .i64 0, .slice none 0 0] (0, 0) _ rfl HZ.out.at_ Try.underlying68 rfl size_V) rfl ?_
  rw [HCH.out]
  exact ⟨_, rfl, Kd.R_nil _ _ _ _ _, HZ.out.below HB44.out HG8.out⟩
  | true =>
  have HCK := Aside0.mk (chkE_yes hck)
  cases hc1 : colsIn t need with
  | false =>
  have HCN := Aside0.mk hc1
  clear hck hc1 hck0
  go_enter Try.func32, Try.ntmps32
  go_wp2_with (first | ((with_reducible refine gate_dst (N := 4) rfl ?_); refine box_event rfl (N := 4) rfl (cs := #[.string t.f0, .slice At t.f1.length ct, .slice Bt t.f2.length dt]) (t := TT) ?hr ?_; (case hr => first | (go_simp; done) | (go_simp; rfl)); intro b4 hg4 w1 hb4 hB4; have HX4 := Aside0.mk hb4; have HB4 := Aside0.mk hB4; clear hg4 hb4 hB4) | ((with_reducible refine gate_dst (N := 8) rfl ?_); refine box_event rfl (N := 8) rfl (cs := #[.int .i64 0, .slice none 0 0]) (t := TV) ?hr ?_; (case hr => first | (go_simp; done) | (go_simp; rfl)); intro b8 hg8 w2 hb8 hB8; have HX8 := Aside0.mk hb8; have HX42 := Aside0.mk (blk_below HX4.out hB8); have HB2 := Aside0.mk (below_step HB4.out hB8); have HG8 := Aside0.mk (show w.heap.size ≤ b8 by rw [hg8]; exact HB4.out.size); clear hg8 hb8 hB8) | ((with_reducible refine gate_dst (N := 15) rfl ?_); refine wpList_load_row rfl TT (.tmp 4) rfl b4 rfl TT #[.string t.f0, .slice At t.f1.length ct, .slice Bt t.f2.length dt] (0, 0) _ HX42.out Try.underlying63 rfl size_T ?_) | ((with_reducible refine gate_dst (N := 16) rfl ?_); refine C_lit kT TT rfl [t] [.string t.f0, .slice At t.f1.length ct, .slice Bt t.f2.length dt] ?hr (reps1 (k63_mk _ t HT.out.ct (Kd.C_below HT.out.c HB2.out) HT.out.dt (Kd.C_below HT.out.p HB2.out)) rfl) (by simp) ?_; (case hr => first | (go_simp; done) | (go_simp; rfl)); intro A1 w3 hC3 hB3; have HC3 := Aside0.mk hC3; have HX43 := Aside0.mk (blk_below HX42.out hB3); have HX83 := Aside0.mk (blk_below HX8.out hB3); have HB3 := Aside0.mk (below_step HB2.out hB3); clear hC3 hB3))
  refine (check_calls [t] A1 1 _ HC3.out (Nat.le_refl _) (by simp) (fun x hx => by rw [List.mem_singleton] at hx; subst hx; exact HT.out.g)).mono ?_
  rintro e w4 ⟨rfl, hb4⟩
  rw [HCK.out]
  have HX44 := Aside0.mk (blk_below HX43.out hb4)
  have HX84 := Aside0.mk (blk_below HX83.out hb4)
  have HB44 := Aside0.mk (below_step HB3.out hb4)
  clear hb4
  go_wp2_with (first | ((with_reducible refine gate_dst (N := 20) rfl ?_); refine gate_guard (by rfl) ?_; dsimp only; refine wpList_load_row rfl TT (.tmp 4) rfl b4 rfl TT #[.string t.f0, .slice At t.f1.length ct, .slice Bt t.f2.length dt] (0, 0) _ HX44.out Try.underlying63 rfl size_T ?_))
  refine (columns_calls t At ct Bt dt need An cn _ (Kd.C_below HN.out HB44.out) hcn hnl).mono ?_
  rintro e w5 ⟨rfl, hb4⟩
  rw [HCN.out]
  have HX45 := Aside0.mk (blk_below HX44.out hb4)
  have HX85 := Aside0.mk (blk_below HX84.out hb4)
  have HB45 := Aside0.mk (below_step HB44.out hb4)
  clear hb4
  go_wp2_with (first | ((with_reducible refine gate_ (.store TV (.tmp 8) (.tmp 31)) rfl ?_); refine row_store_event rfl TV (.tmp 8) (.tmp 31) rfl b8 #[.int .i64 0, .slice none 0 0] rfl rfl TV _ HX85.out size_V rfl (v_one _ _ rfl rfl) ?_; intro wz hs; have HZ := Aside0.mk hs; clear hs))
  refine bodyPost_ret (results_ct rfl _ _ b8 TV #[.int .i64 0, .slice none 0 0] (0, 0) _ rfl HZ.out.at_ Try.underlying68 rfl size_V) rfl ?_
  rw [HCH.out]
  exact ⟨_, rfl, Kd.R_nil _ _ _ _ _, HZ.out.below HB45.out HG8.out⟩
  | true =>
  have HCN := Aside0.mk hc1
  cases hc2 : colsIn t tested with
  | false =>
  have HCS := Aside0.mk hc2
  clear hck hc1 hc2 hck0
  go_enter Try.func32, Try.ntmps32
  go_wp2_with (first | ((with_reducible refine gate_dst (N := 4) rfl ?_); refine box_event rfl (N := 4) rfl (cs := #[.string t.f0, .slice At t.f1.length ct, .slice Bt t.f2.length dt]) (t := TT) ?hr ?_; (case hr => first | (go_simp; done) | (go_simp; rfl)); intro b4 hg4 w1 hb4 hB4; have HX4 := Aside0.mk hb4; have HB4 := Aside0.mk hB4; clear hg4 hb4 hB4) | ((with_reducible refine gate_dst (N := 8) rfl ?_); refine box_event rfl (N := 8) rfl (cs := #[.int .i64 0, .slice none 0 0]) (t := TV) ?hr ?_; (case hr => first | (go_simp; done) | (go_simp; rfl)); intro b8 hg8 w2 hb8 hB8; have HX8 := Aside0.mk hb8; have HX42 := Aside0.mk (blk_below HX4.out hB8); have HB2 := Aside0.mk (below_step HB4.out hB8); have HG8 := Aside0.mk (show w.heap.size ≤ b8 by rw [hg8]; exact HB4.out.size); clear hg8 hb8 hB8) | ((with_reducible refine gate_dst (N := 15) rfl ?_); refine wpList_load_row rfl TT (.tmp 4) rfl b4 rfl TT #[.string t.f0, .slice At t.f1.length ct, .slice Bt t.f2.length dt] (0, 0) _ HX42.out Try.underlying63 rfl size_T ?_) | ((with_reducible refine gate_dst (N := 16) rfl ?_); refine C_lit kT TT rfl [t] [.string t.f0, .slice At t.f1.length ct, .slice Bt t.f2.length dt] ?hr (reps1 (k63_mk _ t HT.out.ct (Kd.C_below HT.out.c HB2.out) HT.out.dt (Kd.C_below HT.out.p HB2.out)) rfl) (by simp) ?_; (case hr => first | (go_simp; done) | (go_simp; rfl)); intro A1 w3 hC3 hB3; have HC3 := Aside0.mk hC3; have HX43 := Aside0.mk (blk_below HX42.out hB3); have HX83 := Aside0.mk (blk_below HX8.out hB3); have HB3 := Aside0.mk (below_step HB2.out hB3); clear hC3 hB3))
  refine (check_calls [t] A1 1 _ HC3.out (Nat.le_refl _) (by simp) (fun x hx => by rw [List.mem_singleton] at hx; subst hx; exact HT.out.g)).mono ?_
  rintro e w4 ⟨rfl, hb4⟩
  rw [HCK.out]
  have HX44 := Aside0.mk (blk_below HX43.out hb4)
  have HX84 := Aside0.mk (blk_below HX83.out hb4)
  have HB44 := Aside0.mk (below_step HB3.out hb4)
  clear hb4
  go_wp2_with (first | ((with_reducible refine gate_dst (N := 20) rfl ?_); refine gate_guard (by rfl) ?_; dsimp only; refine wpList_load_row rfl TT (.tmp 4) rfl b4 rfl TT #[.string t.f0, .slice At t.f1.length ct, .slice Bt t.f2.length dt] (0, 0) _ HX44.out Try.underlying63 rfl size_T ?_))
  refine (columns_calls t At ct Bt dt need An cn _ (Kd.C_below HN.out HB44.out) hcn hnl).mono ?_
  rintro e w5 ⟨rfl, hb4⟩
  rw [HCN.out]
  have HX45 := Aside0.mk (blk_below HX44.out hb4)
  have HX85 := Aside0.mk (blk_below HX84.out hb4)
  have HB45 := Aside0.mk (below_step HB44.out hb4)
  clear hb4
  go_wp2_with (first | ((with_reducible refine gate_dst (N := 26) rfl ?_); refine gate_guard (by rfl) ?_; dsimp only; refine wpList_load_row rfl TT (.tmp 4) rfl b4 rfl TT #[.string t.f0, .slice At t.f1.length ct, .slice Bt t.f2.length dt] (0, 0) _ HX45.out Try.underlying63 rfl size_T ?_))
  refine (columns_calls t At ct Bt dt tested As cs _ (Kd.C_below HS.out HB45.out) hcs hsl).mono ?_
  rintro e w6 ⟨rfl, hb4⟩
  rw [HCS.out]
  have HX46 := Aside0.mk (blk_below HX45.out hb4)
  have HX86 := Aside0.mk (blk_below HX85.out hb4)
  have HB46 := Aside0.mk (below_step HB45.out hb4)
  clear hb4
  go_wp2_with (first | ((with_reducible refine gate_ (.store TV (.tmp 8) (.tmp 31)) rfl ?_); refine row_store_event rfl TV (.tmp 8) (.tmp 31) rfl b8 #[.int .i64 0, .slice none 0 0] rfl rfl TV _ HX86.out size_V rfl (v_one _ _ rfl rfl) ?_; intro wz hs; have HZ := Aside0.mk hs; clear hs))
  refine bodyPost_ret (results_ct rfl _ _ b8 TV #[.int .i64 0, .slice none 0 0] (0, 0) _ rfl HZ.out.at_ Try.underlying68 rfl size_V) rfl ?_
  rw [HCH.out]
  exact ⟨_, rfl, Kd.R_nil _ _ _ _ _, HZ.out.below HB46.out HG8.out⟩
  | true => exact absurd ⟨hck, hc1, hc2⟩ hck0
set_option maxHeartbeats 2000000 in
set_option maxRecDepth 100000 in
theorem choose_used {w : World} {t : Tab} {At : Option Addr} {ct : Nat} {Bt : Option Addr} {dt : Nat} (H : TA w t At ct Bt dt) (need : List Int) (An : Option Addr) (cn : Nat) (hn : Kd.C (Kd.int .i64) w An need.length need) (hcn : need.length ≤ cn) (hnl : need.length ≤ 1000000)
    (tested : List Int) (As : Option Addr) (cs : Nat) (hs : Kd.C (Kd.int .i64) w As tested.length tested) (hcs : tested.length ≤ cs) (hsl : tested.length ≤ 1000000) (us : List ByteArray) (Au : Option Addr) (cu : Nat) (hu : Kd.C Kd.string w Au us.length us) (hul : us.length ≤ 1000000) (hck0 : checkP [t] = true ∧ colsIn t need = true ∧ colsIn t tested = true) (hz : 0 < (usedP t us).length) :
    Calls Try.prog 32 #[.agg #[.string t.f0, .slice At t.f1.length ct, .slice Bt t.f2.length dt], .slice An need.length cn, .slice As tested.length cs, .slice Au us.length cu] w (ChPost w (chooseP t need tested us)) := by
  have HT := Aside0.mk H
  have HN := Aside0.mk hn
  have HS := Aside0.mk hs
  have HU := Aside0.mk hu
  clear H hn hs hu
  obtain ⟨hck, hc1, hc2⟩ := hck0
  have HCK := Aside0.mk (chkE_yes hck)
  have HONE := Aside0.mk (may_one (check_one hck))
  have HCN := Aside0.mk hc1
  have HCS := Aside0.mk hc2
  have hch : chooseP t need tested us = (match fromsP t need (someP t need tested us) t.f1.length with
    | none => (320, 0, [])
    | some l => (0, (someP t need tested us).getD 0 0, l)) := by unfold chooseP; rw [if_pos ⟨hck, hc1, hc2⟩]; rfl
  have HCH := Aside0.mk hch
  clear hck hc1 hc2 hch
  go_enter Try.func32, Try.ntmps32
  go_wp2_with (first | ((with_reducible refine gate_dst (N := 4) rfl ?_); refine box_event rfl (N := 4) rfl (cs := #[.string t.f0, .slice At t.f1.length ct, .slice Bt t.f2.length dt]) (t := TT) ?hr ?_; (case hr => first | (go_simp; done) | (go_simp; rfl)); intro b4 hg4 w1 hb4 hB4; have HX4 := Aside0.mk hb4; have HB4 := Aside0.mk hB4; clear hg4 hb4 hB4) | ((with_reducible refine gate_dst (N := 8) rfl ?_); refine box_event rfl (N := 8) rfl (cs := #[.int .i64 0, .slice none 0 0]) (t := TV) ?hr ?_; (case hr => first | (go_simp; done) | (go_simp; rfl)); intro b8 hg8 w2 hb8 hB8; have HX8 := Aside0.mk hb8; have HX42 := Aside0.mk (blk_below HX4.out hB8); have HB2 := Aside0.mk (below_step HB4.out hB8); have HG8 := Aside0.mk (show w.heap.size ≤ b8 by rw [hg8]; exact HB4.out.size); clear hg8 hb8 hB8) | ((with_reducible refine gate_dst (N := 15) rfl ?_); refine wpList_load_row rfl TT (.tmp 4) rfl b4 rfl TT #[.string t.f0, .slice At t.f1.length ct, .slice Bt t.f2.length dt] (0, 0) _ HX42.out Try.underlying63 rfl size_T ?_) | ((with_reducible refine gate_dst (N := 16) rfl ?_); refine C_lit kT TT rfl [t] [.string t.f0, .slice At t.f1.length ct, .slice Bt t.f2.length dt] ?hr (reps1 (k63_mk _ t HT.out.ct (Kd.C_below HT.out.c HB2.out) HT.out.dt (Kd.C_below HT.out.p HB2.out)) rfl) (by simp) ?_; (case hr => first | (go_simp; done) | (go_simp; rfl)); intro A1 w3 hC3 hB3; have HC3 := Aside0.mk hC3; have HX43 := Aside0.mk (blk_below HX42.out hB3); have HX83 := Aside0.mk (blk_below HX8.out hB3); have HB3 := Aside0.mk (below_step HB2.out hB3); clear hC3 hB3))
  refine (check_calls [t] A1 1 _ HC3.out (Nat.le_refl _) (by simp) (fun x hx => by rw [List.mem_singleton] at hx; subst hx; exact HT.out.g)).mono ?_
  rintro e w4 ⟨rfl, hb4⟩
  rw [HCK.out]
  have HX44 := Aside0.mk (blk_below HX43.out hb4)
  have HX84 := Aside0.mk (blk_below HX83.out hb4)
  have HB44 := Aside0.mk (below_step HB3.out hb4)
  clear hb4
  go_wp2_with (first | ((with_reducible refine gate_dst (N := 20) rfl ?_); refine gate_guard (by rfl) ?_; dsimp only; refine wpList_load_row rfl TT (.tmp 4) rfl b4 rfl TT #[.string t.f0, .slice At t.f1.length ct, .slice Bt t.f2.length dt] (0, 0) _ HX44.out Try.underlying63 rfl size_T ?_))
  refine (columns_calls t At ct Bt dt need An cn _ (Kd.C_below HN.out HB44.out) hcn hnl).mono ?_
  rintro e w5 ⟨rfl, hb4⟩
  rw [HCN.out]
  have HX45 := Aside0.mk (blk_below HX44.out hb4)
  have HX85 := Aside0.mk (blk_below HX84.out hb4)
  have HB45 := Aside0.mk (below_step HB44.out hb4)
  clear hb4
  go_wp2_with (first | ((with_reducible refine gate_dst (N := 26) rfl ?_); refine gate_guard (by rfl) ?_; dsimp only; refine wpList_load_row rfl TT (.tmp 4) rfl b4 rfl TT #[.string t.f0, .slice At t.f1.length ct, .slice Bt t.f2.length dt] (0, 0) _ HX45.out Try.underlying63 rfl size_T ?_))
  refine (columns_calls t At ct Bt dt tested As cs _ (Kd.C_below HS.out HB45.out) hcs hsl).mono ?_
  rintro e w6 ⟨rfl, hb4⟩
  rw [HCS.out]
  have HX46 := Aside0.mk (blk_below HX45.out hb4)
  have HX86 := Aside0.mk (blk_below HX85.out hb4)
  have HB46 := Aside0.mk (below_step HB45.out hb4)
  clear hb4
  go_wp2_with (first | ((with_reducible refine gate_dst (N := 32) rfl ?_); refine wpList_load_row rfl TT (.tmp 4) rfl b4 rfl TT #[.string t.f0, .slice At t.f1.length ct, .slice Bt t.f2.length dt] (0, 0) _ HX46.out Try.underlying63 rfl size_T ?_))
  refine (used_calls (HT.out.below HB46.out) us Au cu (Kd.C_below HU.out HB46.out) hul).mono ?_
  rintro e w7 ⟨v7, rfl, hr7, hb7⟩
  obtain ⟨A7, c7, rfl⟩ := Kd.R_slice hr7
  have HR7 := Aside0.mk (Kd.R_reads' hr7)
  have HX47 := Aside0.mk (blk_below HX46.out hb7)
  have HX87 := Aside0.mk (blk_below HX86.out hb7)
  have HB47 := Aside0.mk (below_step HB46.out hb7)
  have hule := used_le t us
  clear hr7 hb7
  have HSM : Aside0 (someP t need tested us = usedP t us) := ⟨by unfold someP; rw [if_neg (by omega)]⟩
  obtain ⟨S, hS⟩ : ∃ S, usedP t us = S := ⟨_, rfl⟩
  rw [hS] at HSM HR7 hule hz ⊢
  have z1 : ((S.length : Nat) : Int) ≠ 0 := by omega
  have z2 : (((S.length : Nat) : Int) == 0) = false := beq_eq_false_iff_ne.2 (by omega)
  have z3 : (S.length == 0) = false := beq_eq_false_iff_ne.2 (by omega)
  clear hS
  go_upto_region 6 with fail
  obtain ⟨w9, rfl⟩ : ∃ w9, w9 = w7 := ⟨_, rfl⟩
  have HC9 := Aside0.mk HR7.out.2.2
  have hle9 := HR7.out.2.1
  have HX49 := HX47
  have HX89 := HX87
  have HB49 := HB47
  clear HX47 HX87 HB47 HR7 z1 z2 z3
  obtain ⟨a0, hA0, hx0⟩ := Kd.at_int HC9.out (0 : Int) (by omega) (by first | omega | simp)
  subst hA0
  have hx0' : w9.cell? a0 = some (.int .i64 (rd (S) 0)) := by
    have e0 : a0.add (Int.toNat 0) = a0 := by unfold Addr.add; simp
    rwa [e0] at hx0
  obtain ⟨s0, hs0⟩ : ∃ s, rd (S) 0 = s := ⟨_, rfl⟩
  rw [hs0] at hx0'
  have HS0 := Aside0.mk hs0
  have htl := HT.out.g.c
  clear hx0 hs0
  go_wp2_with (first | ((with_reducible refine gate_dst (N := 11) rfl ?_); refine box_event rfl (N := 11) rfl (cs := #[.int .i64 0, .slice none 0 0]) (t := TV) ?hr ?_; (case hr => first | (go_simp; done) | (go_simp; rfl)); intro b11 hg11 w10 hb11 hB11; have HX11 := Aside0.mk hb11; have HB11 := Aside0.mk hB11; have HG11 := Aside0.mk (show w9.heap.size ≤ b11 by rw [hg11]; exact Nat.le_refl _); clear hg11 hb11 hB11) | ((with_reducible refine gate_ (.store TV (.tmp 11) (.tmp 46)) rfl ?_); refine row_store_event rfl TV (.tmp 11) (.tmp 46) rfl b11 #[.int .i64 s0, .slice none 0 0] rfl rfl TV _ HX11.out size_V rfl (v_one _ _ rfl rfl) ?_; intro w11 hrs; have HX111 := Aside0.mk hrs.at_; have HB911 := Aside0.mk (hrs.below HB11.out HG11.out); have hc41 : w11.cell? ⟨b4, 1, none⟩ = some (.slice At t.f1.length ct) := (cell_of_row w11 b4 1 _ _ _ (blk_below HX49.out (hrs.below HB11.out HG11.out))).trans rfl; clear hrs hx0' HX11 HB11))
  go_loopw [50] (fun v50 wr => ∃ k : Nat, v50 = .int .i64 (k : Int) ∧ k ≤ t.f1.length ∧ ∃ L AL cL, fromsP t need (S) k = some L ∧ Aside0 (Kd.R (Kd.int .i64) 3 wr w9.heap.size (fun k => w9.heap.size ≤ k) (.slice AL L.length cL) L) ∧ Aside0 (wr.heap[b11]? = some (.cells #[.int .i64 s0, .slice AL L.length cL] TV (0, 0))) ∧ Aside0 (Below w9.heap.size w9 wr)) (fun v50 _ => t.f1.length - (intOf v50).toNat)
  case atStart => exact ⟨0, rfl, Nat.zero_le _, [], none, 0, rfl, ⟨Kd.R_nil _ _ _ _ _⟩, HX111, HB911⟩
  case round =>
    clear hc41 HX111 HB911
    obtain ⟨k, rfl, hk, L, AL, cL, hL, HR, HXr, HB⟩ := hrel
    have hLl := Nat.le_of_eq (froms_len hL)
    by_cases hkl : k < t.f1.length
    · have HTr := Aside0.mk (HT.out.below (below_step HB49.out HB.out))
      have HNr := Aside0.mk (Kd.C_below HN.out (below_step HB49.out HB.out))
      have HCr := Aside0.mk (Kd.C_below HC9.out HB.out)
      have HX4r := Aside0.mk (blk_below HX49.out HB.out)
      have HX8r := Aside0.mk (blk_below HX89.out HB.out)
      have hLm : L.length ≤ 1000000 := by have := HT.out.g.c; omega
      have HLK := Aside0.mk hL
      clear hL
      go_wp2_with (first | ((with_reducible refine gate_dst (N := 12) rfl ?_); refine box_event rfl (N := 12) rfl (cs := #[.int .i64 0]) (t := 3) ?hr ?_; (case hr => first | (go_simp; done) | (go_simp; rfl)); intro b12 hg12 w12 hb12 hB12; have HX12 := Aside0.mk hb12; have HB12 := Aside0.mk hB12; have HG12 := Aside0.mk hg12; have hc12 : w12.cell? ⟨b12, 0, none⟩ = some (.int .i64 0) := (cell_of_row w12 b12 0 _ _ _ hb12).trans rfl; have hf12 := frozen_of_row w12 b12 0 _ _ hb12; clear hg12 hb12 hB12))
      obtain ⟨w13, hw13⟩ : ∃ w13, w13 = w12.setCell ⟨b12, 0, none⟩ (.int .i64 (k : Int)) := ⟨_, rfl⟩
      rw [← hw13]
      have hset := cellSet_mk (i := 0) (v := Value.int .i64 (k : Int)) HX12.out
      rw [← hw13] at hset
      have HX13 : Aside0 (w13.heap[b12]? = some (.cells #[.int .i64 (k : Int)] 3 (0, 0))) := ⟨hset.at_⟩
      have HB13 : Aside0 (Below wr.heap.size wr w13) := ⟨hset.below HB12.out (by have := HG12.out; omega)⟩
      clear hset hw13 hc12 hf12 HX12 HB12 HG12
      obtain ⟨kk, hkk⟩ := (has_ev need hnl (k : Int)).rounds
      have hL := HLK.out
      by_cases hin : (k : Int) ∈ need
      · rw [decide_eq_true hin] at hkk
        have HKK := Aside0.mk hkk
        have HIN := Aside0.mk hin
        obtain ⟨r, hr⟩ : ∃ r, idxF (fun p => decide (0 ≤ placeP t p k)) (S) 0 = r := ⟨_, rfl⟩
        have HRR := Aside0.mk hr
        clear hkk hin hr hL
        refine (slices_Contains_int_int.calls kk An cn need (k : Int) true _ (Kd.C_below HNr.out HB13.out) hcn HKK.out).mono ?_
        rintro e w14 ⟨rfl, hd14⟩
        have HB14 := Aside0.mk (below_step HB13.out hd14.below)
        have HX14 := Aside0.mk (blk_below HX13.out hd14.below)
        clear hd14
        go_wp2_with fail
        refine (index_int (.func (.func 81) #[] #[.pointer (some ⟨b4, 0, none⟩), .pointer (some ⟨b12, 0, none⟩)]) (fun p => decide (0 ≤ placeP t p k)) (some a0) c7 (S) r w14 (Kd.C_below HCr.out HB14.out) hle9 (by first | omega | simp) (fun i hi w15 hb => CallsV.of Try.func81 (by kernel_rfl) rfl (choose_fn (HTr.out.below (below_step HB14.out hb)) _ (k : Int) b4 b12 (blk_below (blk_below HX4r.out HB14.out) hb) (blk_below HX14.out hb))) HRR.out).mono ?_
        rintro e w15 ⟨rfl, hb15⟩
        have HB15 := Aside0.mk (below_step HB14.out hb15)
        clear hb15 HX14 HX13 HB13
        by_cases h0 : r < 0
        · have g0 : decide (r < 0) = true := decide_eq_true h0
          have hbad := froms_none t need (S) (k + 1) (froms_bad HLK.out (from_bad HIN.out HRR.out h0)) (t.f1.length - (k + 1))
          rw [show k + 1 + (t.f1.length - (k + 1)) = t.f1.length by omega] at hbad
          have hres := HCH.out
          rw [HSM.out, hbad] at hres
          have HRES := Aside0.mk hres
          have HX815 := Aside0.mk (blk_below HX8r.out HB15.out)
          have HB915 := Aside0.mk (below_step HB49.out (below_step HB.out HB15.out))
          clear hbad hres
          go_wp2_with (first | ((with_reducible refine gate_ (.store TV (.tmp 8) (.tmp 61)) rfl ?_); refine row_store_event rfl TV (.tmp 8) (.tmp 61) rfl b8 #[.int .i64 0, .slice none 0 0] rfl rfl TV _ HX815.out size_V rfl (v_one _ _ rfl rfl) ?_; intro wz hs; have HZ := Aside0.mk hs; clear hs))
          refine bodyPost_ret (results_ct rfl _ _ b8 TV #[.int .i64 0, .slice none 0 0] (0, 0) _ rfl HZ.out.at_ Try.underlying68 rfl size_V) rfl ?_
          rw [HRES.out]
          exact ⟨_, rfl, Kd.R_nil _ _ _ _ _, HZ.out.below HB915.out HG8.out⟩
        · have g0 : decide (r < 0) = false := decide_eq_false h0
          have hrl : 0 ≤ r ∧ r < (S).length := by
            rcases idxF_range (fun p => decide (0 ≤ placeP t p k)) (S) 0 with ⟨h1, _⟩ | ⟨i, hi, h1, _⟩
            · rw [HRR.out] at h1; omega
            · rw [HRR.out] at h1; omega
          obtain ⟨a1, hA1, hx1⟩ := Kd.at_int (Kd.C_below HCr.out HB15.out) r hrl.1 hrl.2
          injection hA1 with hA1
          subst hA1
          have hrr0 := hrl.1
          have hrr1 := hrl.2
          have hfr := from_yes HIN.out HRR.out h0
          have HFR := Aside0.mk hfr
          have e2 : rd (S) r = (S).getD r.toNat 0 := rfl
          rw [e2] at hx1
          obtain ⟨x, hx⟩ : ∃ x, (S).getD r.toNat 0 = x := ⟨_, rfl⟩
          rw [hx] at hx1 HFR
          clear h0 hrl e2 hfr hx
          have HXq := Aside0.mk (blk_below HXr.out HB15.out)
          have HRq := Aside0.mk (Kd.R_below HR.out HB15.out)
          have HBq := Aside0.mk (below_step HB.out HB15.out)
          have hc111 : w15.cell? ⟨b11, 1, none⟩ = some (.slice AL L.length cL) := (cell_of_row w15 b11 1 _ _ _ HXq.out).trans rfl
          have hL := HLK.out
          go_wp2_with (first | ((with_reducible refine gate_builtin (b := .append) (xs := #[.tmp 67, .tmp 69]) rfl ?_); at_builtin; refine Kd.R_append (Kd.int .i64) (w0 := w9) w9.heap.size rfl (.tmp 67) (.tmp 69) 33 3 (.int .i64 0) 8 rfl Try.underlying33 (by kernel_rfl) rfl (by decide) (by decide) _ L (x) [.int .i64 (x)] (fun k => w9.heap.size ≤ k) (fun _ => False) rfl rfl rfl (fun _ hk => hk.elim) (fun _ hk => Nat.le_trans HBq.out.size hk) HRq.out HBq.out HBq.out.size (by omega) ?_; intro v20 w20 hR20 hB20 hG20 hA20; obtain ⟨A20, c20, rfl⟩ := Kd.R_slice hR20; have hx1120 : w20.heap[b11]? = some (.cells #[.int .i64 s0, .slice AL L.length cL] TV (0, 0)) := blk_grown HXq.out hG20 (Kd.R_ne HRq.out HXq.out (by decide)); have HX20 := Aside0.mk hx1120; have hf20 := frozen_of_row w20 b11 1 _ _ hx1120; have hc20 : w20.cell? ⟨b11, 1, none⟩ = some (.slice AL L.length cL) := (cell_of_row w20 b11 1 _ _ _ hx1120).trans rfl; have HR20 := Aside0.mk hR20; have HB20 := Aside0.mk hB20; clear hR20 hB20 hG20 hA20 hx1120))
          have hset := cellSet_mk (i := 1) (v := Value.slice A20 (L.length + 1) c20) HX20.out
          have HSET := Aside0.mk hset
          clear hset
          have hlx : (L ++ [x]).length = L.length + 1 := by simp
          have hR20 := HR20.out
          rw [hlx] at hR20
          refine ⟨⟨k + 1, by simp, by omega, L ++ [x], A20, c20, froms_succ hL HFR.out, ⟨by rw [hlx]; exact Kd.R_set hR20 HX20.out (by intro q hq; simp [Kd.int, Kd.scalar] at hq; subst hq; decide) 1 _⟩, ⟨by rw [hlx]; exact HSET.out.at_⟩, ⟨HSET.out.below HB20.out (by have := HG11.out; omega)⟩⟩, by simp [intOf]; omega⟩
      · rw [decide_eq_false hin] at hkk
        have HKK := Aside0.mk hkk
        have HFR := Aside0.mk (from_no (t := t) (S := S) hin)
        clear hkk hin
        refine (slices_Contains_int_int.calls kk An cn need (k : Int) false _ (Kd.C_below HNr.out HB13.out) hcn HKK.out).mono ?_
        rintro e w14 ⟨rfl, hd14⟩
        have HB14 := Aside0.mk (below_step HB13.out hd14.below)
        have HXq := Aside0.mk (blk_below HXr.out HB14.out)
        have HRq := Aside0.mk (Kd.R_below HR.out HB14.out)
        have HBq := Aside0.mk (below_step HB.out HB14.out)
        have hc111 : w14.cell? ⟨b11, 1, none⟩ = some (.slice AL L.length cL) := (cell_of_row w14 b11 1 _ _ _ HXq.out).trans rfl
        clear hd14
        go_wp2_with (first | ((with_reducible refine gate_builtin (b := .append) (xs := #[.tmp 67, .tmp 69]) rfl ?_); at_builtin; refine Kd.R_append (Kd.int .i64) (w0 := w9) w9.heap.size rfl (.tmp 67) (.tmp 69) 33 3 (.int .i64 0) 8 rfl Try.underlying33 (by kernel_rfl) rfl (by decide) (by decide) _ L (-1) [.int .i64 (-1)] (fun k => w9.heap.size ≤ k) (fun _ => False) rfl rfl rfl (fun _ hk => hk.elim) (fun _ hk => Nat.le_trans HBq.out.size hk) HRq.out HBq.out HBq.out.size (by omega) ?_; intro v20 w20 hR20 hB20 hG20 hA20; obtain ⟨A20, c20, rfl⟩ := Kd.R_slice hR20; have hx1120 : w20.heap[b11]? = some (.cells #[.int .i64 s0, .slice AL L.length cL] TV (0, 0)) := blk_grown HXq.out hG20 (Kd.R_ne HRq.out HXq.out (by decide)); have HX20 := Aside0.mk hx1120; have hf20 := frozen_of_row w20 b11 1 _ _ hx1120; have hc20 : w20.cell? ⟨b11, 1, none⟩ = some (.slice AL L.length cL) := (cell_of_row w20 b11 1 _ _ _ hx1120).trans rfl; have HR20 := Aside0.mk hR20; have HB20 := Aside0.mk hB20; clear hR20 hB20 hG20 hA20 hx1120))
        have hset := cellSet_mk (i := 1) (v := Value.slice A20 (L.length + 1) c20) HX20.out
        have HSET := Aside0.mk hset
        clear hset
        have hlx : (L ++ [-1]).length = L.length + 1 := by simp
        have hR20 := HR20.out
        rw [hlx] at hR20
        refine ⟨⟨k + 1, by simp, by omega, L ++ [-1], A20, c20, froms_succ hL HFR.out, ⟨by rw [hlx]; exact Kd.R_set hR20 HX20.out (by intro q hq; simp [Kd.int, Kd.scalar] at hq; subst hq; decide) 1 _⟩, ⟨by rw [hlx]; exact HSET.out.at_⟩, ⟨HSET.out.below HB20.out (by have := HG11.out; omega)⟩⟩, by simp [intOf]; omega⟩
    · obtain rfl : k = t.f1.length := by omega
      have hres := HCH.out
      rw [HSM.out, hL] at hres
      have HRES := Aside0.mk hres
      have HX8r := Aside0.mk (blk_below HX89.out HB.out)
      have HB9r := Aside0.mk (below_step HB49.out HB.out)
      clear hres
      go_wp2_with (first | ((with_reducible refine gate_dst (N := 73) rfl ?_); refine wpList_load_row rfl TV (.tmp 11) rfl b11 rfl TV #[.int .i64 s0, .slice AL L.length cL] (0, 0) _ HXr.out Try.underlying68 rfl size_V ?_) | ((with_reducible refine gate_ (.store TV (.tmp 8) (.tmp 73)) rfl ?_); refine row_store_event rfl TV (.tmp 8) (.tmp 73) rfl b8 #[.int .i64 s0, .slice AL L.length cL] rfl rfl TV _ HX8r.out size_V rfl (v_one _ _ rfl rfl) ?_; intro wz hs; have HZ := Aside0.mk hs; clear hs))
      refine bodyPost_ret (results_ct rfl _ _ b8 TV #[.int .i64 s0, .slice AL L.length cL] (0, 0) _ rfl HZ.out.at_ Try.underlying68 rfl size_V) rfl ?_
      rw [HRES.out]
      have e0 : (S).getD 0 0 = s0 := HS0.out
      refine ⟨.slice AL L.length cL, ?_, ?_, HZ.out.below HB9r.out HG8.out⟩
      · show Ending.returned _ = Ending.returned (.tuple #[.agg #[.int .i64 ((S).getD 0 0), _], .int .i64 0])
        rw [e0]
        rfl
      · exact Kd.R_lower (Kd.R_mono (Kd.R_step (w1 := wz) (Kd.R_types HR.out HX8r.out (by intro q hq; simp [Kd.int, Kd.scalar] at hq; subst hq; decide)) (fun j hj _ => HZ.out.other j hj.2)) (fun j hj => Nat.le_trans HB49.out.size hj.1)) HB49.out.size
set_option maxHeartbeats 2000000 in
set_option maxRecDepth 100000 in
theorem choose_best {w : World} {t : Tab} {At : Option Addr} {ct : Nat} {Bt : Option Addr} {dt : Nat} (H : TA w t At ct Bt dt) (need : List Int) (An : Option Addr) (cn : Nat) (hn : Kd.C (Kd.int .i64) w An need.length need) (hcn : need.length ≤ cn) (hnl : need.length ≤ 1000000)
    (tested : List Int) (As : Option Addr) (cs : Nat) (hs : Kd.C (Kd.int .i64) w As tested.length tested) (hcs : tested.length ≤ cs) (hsl : tested.length ≤ 1000000) (us : List ByteArray) (Au : Option Addr) (cu : Nat) (hu : Kd.C Kd.string w Au us.length us) (hul : us.length ≤ 1000000) (hck0 : checkP [t] = true ∧ colsIn t need = true ∧ colsIn t tested = true) (hz : (usedP t us).length = 0) :
    Calls Try.prog 32 #[.agg #[.string t.f0, .slice At t.f1.length ct, .slice Bt t.f2.length dt], .slice An need.length cn, .slice As tested.length cs, .slice Au us.length cu] w (ChPost w (chooseP t need tested us)) := by
  have HT := Aside0.mk H
  have HN := Aside0.mk hn
  have HS := Aside0.mk hs
  have HU := Aside0.mk hu
  clear H hn hs hu
  obtain ⟨hck, hc1, hc2⟩ := hck0
  have HCK := Aside0.mk (chkE_yes hck)
  have HONE := Aside0.mk (may_one (check_one hck))
  have HCN := Aside0.mk hc1
  have HCS := Aside0.mk hc2
  have hch : chooseP t need tested us = (match fromsP t need (someP t need tested us) t.f1.length with
    | none => (320, 0, [])
    | some l => (0, (someP t need tested us).getD 0 0, l)) := by unfold chooseP; rw [if_pos ⟨hck, hc1, hc2⟩]; rfl
  have HCH := Aside0.mk hch
  clear hck hc1 hc2 hch
  go_enter Try.func32, Try.ntmps32
  go_wp2_with (first | ((with_reducible refine gate_dst (N := 4) rfl ?_); refine box_event rfl (N := 4) rfl (cs := #[.string t.f0, .slice At t.f1.length ct, .slice Bt t.f2.length dt]) (t := TT) ?hr ?_; (case hr => first | (go_simp; done) | (go_simp; rfl)); intro b4 hg4 w1 hb4 hB4; have HX4 := Aside0.mk hb4; have HB4 := Aside0.mk hB4; clear hg4 hb4 hB4) | ((with_reducible refine gate_dst (N := 8) rfl ?_); refine box_event rfl (N := 8) rfl (cs := #[.int .i64 0, .slice none 0 0]) (t := TV) ?hr ?_; (case hr => first | (go_simp; done) | (go_simp; rfl)); intro b8 hg8 w2 hb8 hB8; have HX8 := Aside0.mk hb8; have HX42 := Aside0.mk (blk_below HX4.out hB8); have HB2 := Aside0.mk (below_step HB4.out hB8); have HG8 := Aside0.mk (show w.heap.size ≤ b8 by rw [hg8]; exact HB4.out.size); clear hg8 hb8 hB8) | ((with_reducible refine gate_dst (N := 15) rfl ?_); refine wpList_load_row rfl TT (.tmp 4) rfl b4 rfl TT #[.string t.f0, .slice At t.f1.length ct, .slice Bt t.f2.length dt] (0, 0) _ HX42.out Try.underlying63 rfl size_T ?_) | ((with_reducible refine gate_dst (N := 16) rfl ?_); refine C_lit kT TT rfl [t] [.string t.f0, .slice At t.f1.length ct, .slice Bt t.f2.length dt] ?hr (reps1 (k63_mk _ t HT.out.ct (Kd.C_below HT.out.c HB2.out) HT.out.dt (Kd.C_below HT.out.p HB2.out)) rfl) (by simp) ?_; (case hr => first | (go_simp; done) | (go_simp; rfl)); intro A1 w3 hC3 hB3; have HC3 := Aside0.mk hC3; have HX43 := Aside0.mk (blk_below HX42.out hB3); have HX83 := Aside0.mk (blk_below HX8.out hB3); have HB3 := Aside0.mk (below_step HB2.out hB3); clear hC3 hB3))
  refine (check_calls [t] A1 1 _ HC3.out (Nat.le_refl _) (by simp) (fun x hx => by rw [List.mem_singleton] at hx; subst hx; exact HT.out.g)).mono ?_
  rintro e w4 ⟨rfl, hb4⟩
  rw [HCK.out]
  have HX44 := Aside0.mk (blk_below HX43.out hb4)
  have HX84 := Aside0.mk (blk_below HX83.out hb4)
  have HB44 := Aside0.mk (below_step HB3.out hb4)
  clear hb4
  go_wp2_with (first | ((with_reducible refine gate_dst (N := 20) rfl ?_); refine gate_guard (by rfl) ?_; dsimp only; refine wpList_load_row rfl TT (.tmp 4) rfl b4 rfl TT #[.string t.f0, .slice At t.f1.length ct, .slice Bt t.f2.length dt] (0, 0) _ HX44.out Try.underlying63 rfl size_T ?_))
  refine (columns_calls t At ct Bt dt need An cn _ (Kd.C_below HN.out HB44.out) hcn hnl).mono ?_
  rintro e w5 ⟨rfl, hb4⟩
  rw [HCN.out]
  have HX45 := Aside0.mk (blk_below HX44.out hb4)
  have HX85 := Aside0.mk (blk_below HX84.out hb4)
  have HB45 := Aside0.mk (below_step HB44.out hb4)
  clear hb4
  go_wp2_with (first | ((with_reducible refine gate_dst (N := 26) rfl ?_); refine gate_guard (by rfl) ?_; dsimp only; refine wpList_load_row rfl TT (.tmp 4) rfl b4 rfl TT #[.string t.f0, .slice At t.f1.length ct, .slice Bt t.f2.length dt] (0, 0) _ HX45.out Try.underlying63 rfl size_T ?_))
  refine (columns_calls t At ct Bt dt tested As cs _ (Kd.C_below HS.out HB45.out) hcs hsl).mono ?_
  rintro e w6 ⟨rfl, hb4⟩
  rw [HCS.out]
  have HX46 := Aside0.mk (blk_below HX45.out hb4)
  have HX86 := Aside0.mk (blk_below HX85.out hb4)
  have HB46 := Aside0.mk (below_step HB45.out hb4)
  clear hb4
  go_wp2_with (first | ((with_reducible refine gate_dst (N := 32) rfl ?_); refine wpList_load_row rfl TT (.tmp 4) rfl b4 rfl TT #[.string t.f0, .slice At t.f1.length ct, .slice Bt t.f2.length dt] (0, 0) _ HX46.out Try.underlying63 rfl size_T ?_))
  refine (used_calls (HT.out.below HB46.out) us Au cu (Kd.C_below HU.out HB46.out) hul).mono ?_
  rintro e w7 ⟨v7, rfl, hr7, hb7⟩
  obtain ⟨A7, c7, rfl⟩ := Kd.R_slice hr7
  have HR7 := Aside0.mk (Kd.R_reads' hr7)
  have HX47 := Aside0.mk (blk_below HX46.out hb7)
  have HX87 := Aside0.mk (blk_below HX86.out hb7)
  have HB47 := Aside0.mk (below_step HB46.out hb7)
  have hule := used_le t us
  clear hr7 hb7
  have hsm : someP t need tested us = [bestP t need tested] := by unfold someP; rw [if_pos hz]
  have z1 : (((usedP t us).length : Nat) : Int) = 0 := by omega
  obtain ⟨bb, hbb⟩ : ∃ bb, bestP t need tested = bb := ⟨_, rfl⟩
  rw [hbb] at hsm
  have HBB := Aside0.mk hbb
  have HSM := Aside0.mk hsm
  clear hbb hsm
  go_wp2_with (first | ((with_reducible refine gate_dst (N := 38) rfl ?_); refine wpList_load_row rfl TT (.tmp 4) rfl b4 rfl TT #[.string t.f0, .slice At t.f1.length ct, .slice Bt t.f2.length dt] (0, 0) _ HX47.out Try.underlying63 rfl size_T ?_))
  refine (best_calls (HT.out.below HB47.out) HONE.out need An cn (Kd.C_below HN.out HB47.out) hcn hnl tested As cs (Kd.C_below HS.out HB47.out) hcs hsl).mono ?_
  rintro e w8 ⟨rfl, hb8⟩
  rw [HBB.out]
  have HX48 := Aside0.mk (blk_below HX47.out hb8)
  have HX88 := Aside0.mk (blk_below HX87.out hb8)
  have HB48 := Aside0.mk (below_step HB47.out hb8)
  clear hb8 z1 hule hz
  go_upto_region 6 with (first | ((with_reducible refine gate_dst (N := 42) rfl ?_); refine C_lit (Kd.int .i64) 3 rfl [bb] [.int .i64 bb] ?hr (reps1 rfl rfl) (by simp) ?_; (case hr => first | (go_simp; done) | (go_simp; rfl)); intro A9 w9 hC9 hB9; have HC9 := Aside0.mk hC9; have HX49 := Aside0.mk (blk_below HX48.out hB9); have HX89 := Aside0.mk (blk_below HX88.out hB9); have HB49 := Aside0.mk (below_step HB48.out hB9); clear hC9 hB9))
  have hle9 : [bb].length ≤ 1 := Nat.le_refl _
  obtain ⟨a0, hA0, hx0⟩ := Kd.at_int HC9.out (0 : Int) (by omega) (by first | omega | simp)
  subst hA0
  have hx0' : w9.cell? a0 = some (.int .i64 (rd ([bb]) 0)) := by
    have e0 : a0.add (Int.toNat 0) = a0 := by unfold Addr.add; simp
    rwa [e0] at hx0
  obtain ⟨s0, hs0⟩ : ∃ s, rd ([bb]) 0 = s := ⟨_, rfl⟩
  rw [hs0] at hx0'
  have HS0 := Aside0.mk hs0
  have htl := HT.out.g.c
  clear hx0 hs0
  go_wp2_with (first | ((with_reducible refine gate_dst (N := 11) rfl ?_); refine box_event rfl (N := 11) rfl (cs := #[.int .i64 0, .slice none 0 0]) (t := TV) ?hr ?_; (case hr => first | (go_simp; done) | (go_simp; rfl)); intro b11 hg11 w10 hb11 hB11; have HX11 := Aside0.mk hb11; have HB11 := Aside0.mk hB11; have HG11 := Aside0.mk (show w9.heap.size ≤ b11 by rw [hg11]; exact Nat.le_refl _); clear hg11 hb11 hB11) | ((with_reducible refine gate_ (.store TV (.tmp 11) (.tmp 46)) rfl ?_); refine row_store_event rfl TV (.tmp 11) (.tmp 46) rfl b11 #[.int .i64 s0, .slice none 0 0] rfl rfl TV _ HX11.out size_V rfl (v_one _ _ rfl rfl) ?_; intro w11 hrs; have HX111 := Aside0.mk hrs.at_; have HB911 := Aside0.mk (hrs.below HB11.out HG11.out); have hc41 : w11.cell? ⟨b4, 1, none⟩ = some (.slice At t.f1.length ct) := (cell_of_row w11 b4 1 _ _ _ (blk_below HX49.out (hrs.below HB11.out HG11.out))).trans rfl; clear hrs hx0' HX11 HB11))
  go_loopw [50] (fun v50 wr => ∃ k : Nat, v50 = .int .i64 (k : Int) ∧ k ≤ t.f1.length ∧ ∃ L AL cL, fromsP t need ([bb]) k = some L ∧ Aside0 (Kd.R (Kd.int .i64) 3 wr w9.heap.size (fun k => w9.heap.size ≤ k) (.slice AL L.length cL) L) ∧ Aside0 (wr.heap[b11]? = some (.cells #[.int .i64 s0, .slice AL L.length cL] TV (0, 0))) ∧ Aside0 (Below w9.heap.size w9 wr)) (fun v50 _ => t.f1.length - (intOf v50).toNat)
  case atStart => exact ⟨0, rfl, Nat.zero_le _, [], none, 0, rfl, ⟨Kd.R_nil _ _ _ _ _⟩, HX111, HB911⟩
  case round =>
    clear hc41 HX111 HB911
    obtain ⟨k, rfl, hk, L, AL, cL, hL, HR, HXr, HB⟩ := hrel
    have hLl := Nat.le_of_eq (froms_len hL)
    by_cases hkl : k < t.f1.length
    · have HTr := Aside0.mk (HT.out.below (below_step HB49.out HB.out))
      have HNr := Aside0.mk (Kd.C_below HN.out (below_step HB49.out HB.out))
      have HCr := Aside0.mk (Kd.C_below HC9.out HB.out)
      have HX4r := Aside0.mk (blk_below HX49.out HB.out)
      have HX8r := Aside0.mk (blk_below HX89.out HB.out)
      have hLm : L.length ≤ 1000000 := by have := HT.out.g.c; omega
      have HLK := Aside0.mk hL
      clear hL
      go_wp2_with (first | ((with_reducible refine gate_dst (N := 12) rfl ?_); refine box_event rfl (N := 12) rfl (cs := #[.int .i64 0]) (t := 3) ?hr ?_; (case hr => first | (go_simp; done) | (go_simp; rfl)); intro b12 hg12 w12 hb12 hB12; have HX12 := Aside0.mk hb12; have HB12 := Aside0.mk hB12; have HG12 := Aside0.mk hg12; have hc12 : w12.cell? ⟨b12, 0, none⟩ = some (.int .i64 0) := (cell_of_row w12 b12 0 _ _ _ hb12).trans rfl; have hf12 := frozen_of_row w12 b12 0 _ _ hb12; clear hg12 hb12 hB12))
      obtain ⟨w13, hw13⟩ : ∃ w13, w13 = w12.setCell ⟨b12, 0, none⟩ (.int .i64 (k : Int)) := ⟨_, rfl⟩
      rw [← hw13]
      have hset := cellSet_mk (i := 0) (v := Value.int .i64 (k : Int)) HX12.out
      rw [← hw13] at hset
      have HX13 : Aside0 (w13.heap[b12]? = some (.cells #[.int .i64 (k : Int)] 3 (0, 0))) := ⟨hset.at_⟩
      have HB13 : Aside0 (Below wr.heap.size wr w13) := ⟨hset.below HB12.out (by have := HG12.out; omega)⟩
      clear hset hw13 hc12 hf12 HX12 HB12 HG12
      obtain ⟨kk, hkk⟩ := (has_ev need hnl (k : Int)).rounds
      have hL := HLK.out
      by_cases hin : (k : Int) ∈ need
      · rw [decide_eq_true hin] at hkk
        have HKK := Aside0.mk hkk
        have HIN := Aside0.mk hin
        obtain ⟨r, hr⟩ : ∃ r, idxF (fun p => decide (0 ≤ placeP t p k)) ([bb]) 0 = r := ⟨_, rfl⟩
        have HRR := Aside0.mk hr
        clear hkk hin hr hL
        refine (slices_Contains_int_int.calls kk An cn need (k : Int) true _ (Kd.C_below HNr.out HB13.out) hcn HKK.out).mono ?_
        rintro e w14 ⟨rfl, hd14⟩
        have HB14 := Aside0.mk (below_step HB13.out hd14.below)
        have HX14 := Aside0.mk (blk_below HX13.out hd14.below)
        clear hd14
        go_wp2_with fail
        refine (index_int (.func (.func 81) #[] #[.pointer (some ⟨b4, 0, none⟩), .pointer (some ⟨b12, 0, none⟩)]) (fun p => decide (0 ≤ placeP t p k)) (some a0) 1 ([bb]) r w14 (Kd.C_below HCr.out HB14.out) hle9 (by first | omega | simp) (fun i hi w15 hb => CallsV.of Try.func81 (by kernel_rfl) rfl (choose_fn (HTr.out.below (below_step HB14.out hb)) _ (k : Int) b4 b12 (blk_below (blk_below HX4r.out HB14.out) hb) (blk_below HX14.out hb))) HRR.out).mono ?_
        rintro e w15 ⟨rfl, hb15⟩
        have HB15 := Aside0.mk (below_step HB14.out hb15)
        clear hb15 HX14 HX13 HB13
        by_cases h0 : r < 0
        · have g0 : decide (r < 0) = true := decide_eq_true h0
          have hbad := froms_none t need ([bb]) (k + 1) (froms_bad HLK.out (from_bad HIN.out HRR.out h0)) (t.f1.length - (k + 1))
          rw [show k + 1 + (t.f1.length - (k + 1)) = t.f1.length by omega] at hbad
          have hres := HCH.out
          rw [HSM.out, hbad] at hres
          have HRES := Aside0.mk hres
          have HX815 := Aside0.mk (blk_below HX8r.out HB15.out)
          have HB915 := Aside0.mk (below_step HB49.out (below_step HB.out HB15.out))
          clear hbad hres
          go_wp2_with (first | ((with_reducible refine gate_ (.store TV (.tmp 8) (.tmp 61)) rfl ?_); refine row_store_event rfl TV (.tmp 8) (.tmp 61) rfl b8 #[.int .i64 0, .slice none 0 0] rfl rfl TV _ HX815.out size_V rfl (v_one _ _ rfl rfl) ?_; intro wz hs; have HZ := Aside0.mk hs; clear hs))
          refine bodyPost_ret (results_ct rfl _ _ b8 TV #[.int .i64 0, .slice none 0 0] (0, 0) _ rfl HZ.out.at_ Try.underlying68 rfl size_V) rfl ?_
          rw [HRES.out]
          exact ⟨_, rfl, Kd.R_nil _ _ _ _ _, HZ.out.below HB915.out HG8.out⟩
        · have g0 : decide (r < 0) = false := decide_eq_false h0
          have hrl : 0 ≤ r ∧ r < ([bb]).length := by
            rcases idxF_range (fun p => decide (0 ≤ placeP t p k)) ([bb]) 0 with ⟨h1, _⟩ | ⟨i, hi, h1, _⟩
            · rw [HRR.out] at h1; omega
            · rw [HRR.out] at h1; omega
          obtain ⟨a1, hA1, hx1⟩ := Kd.at_int (Kd.C_below HCr.out HB15.out) r hrl.1 hrl.2
          injection hA1 with hA1
          subst hA1
          have hrr0 := hrl.1
          have hrr1 := hrl.2
          have hfr := from_yes HIN.out HRR.out h0
          have HFR := Aside0.mk hfr
          have e2 : rd ([bb]) r = ([bb]).getD r.toNat 0 := rfl
          rw [e2] at hx1
          obtain ⟨x, hx⟩ : ∃ x, ([bb]).getD r.toNat 0 = x := ⟨_, rfl⟩
          rw [hx] at hx1 HFR
          clear h0 hrl e2 hfr hx
          have HXq := Aside0.mk (blk_below HXr.out HB15.out)
          have HRq := Aside0.mk (Kd.R_below HR.out HB15.out)
          have HBq := Aside0.mk (below_step HB.out HB15.out)
          have hc111 : w15.cell? ⟨b11, 1, none⟩ = some (.slice AL L.length cL) := (cell_of_row w15 b11 1 _ _ _ HXq.out).trans rfl
          have hL := HLK.out
          go_wp2_with (first | ((with_reducible refine gate_builtin (b := .append) (xs := #[.tmp 67, .tmp 69]) rfl ?_); at_builtin; refine Kd.R_append (Kd.int .i64) (w0 := w9) w9.heap.size rfl (.tmp 67) (.tmp 69) 33 3 (.int .i64 0) 8 rfl Try.underlying33 (by kernel_rfl) rfl (by decide) (by decide) _ L (x) [.int .i64 (x)] (fun k => w9.heap.size ≤ k) (fun _ => False) rfl rfl rfl (fun _ hk => hk.elim) (fun _ hk => Nat.le_trans HBq.out.size hk) HRq.out HBq.out HBq.out.size (by omega) ?_; intro v20 w20 hR20 hB20 hG20 hA20; obtain ⟨A20, c20, rfl⟩ := Kd.R_slice hR20; have hx1120 : w20.heap[b11]? = some (.cells #[.int .i64 s0, .slice AL L.length cL] TV (0, 0)) := blk_grown HXq.out hG20 (Kd.R_ne HRq.out HXq.out (by decide)); have HX20 := Aside0.mk hx1120; have hf20 := frozen_of_row w20 b11 1 _ _ hx1120; have hc20 : w20.cell? ⟨b11, 1, none⟩ = some (.slice AL L.length cL) := (cell_of_row w20 b11 1 _ _ _ hx1120).trans rfl; have HR20 := Aside0.mk hR20; have HB20 := Aside0.mk hB20; clear hR20 hB20 hG20 hA20 hx1120))
          have hset := cellSet_mk (i := 1) (v := Value.slice A20 (L.length + 1) c20) HX20.out
          have HSET := Aside0.mk hset
          clear hset
          have hlx : (L ++ [x]).length = L.length + 1 := by simp
          have hR20 := HR20.out
          rw [hlx] at hR20
          refine ⟨⟨k + 1, by simp, by omega, L ++ [x], A20, c20, froms_succ hL HFR.out, ⟨by rw [hlx]; exact Kd.R_set hR20 HX20.out (by intro q hq; simp [Kd.int, Kd.scalar] at hq; subst hq; decide) 1 _⟩, ⟨by rw [hlx]; exact HSET.out.at_⟩, ⟨HSET.out.below HB20.out (by have := HG11.out; omega)⟩⟩, by simp [intOf]; omega⟩
      · rw [decide_eq_false hin] at hkk
        have HKK := Aside0.mk hkk
        have HFR := Aside0.mk (from_no (t := t) (S := [bb]) hin)
        clear hkk hin
        refine (slices_Contains_int_int.calls kk An cn need (k : Int) false _ (Kd.C_below HNr.out HB13.out) hcn HKK.out).mono ?_
        rintro e w14 ⟨rfl, hd14⟩
        have HB14 := Aside0.mk (below_step HB13.out hd14.below)
        have HXq := Aside0.mk (blk_below HXr.out HB14.out)
        have HRq := Aside0.mk (Kd.R_below HR.out HB14.out)
        have HBq := Aside0.mk (below_step HB.out HB14.out)
        have hc111 : w14.cell? ⟨b11, 1, none⟩ = some (.slice AL L.length cL) := (cell_of_row w14 b11 1 _ _ _ HXq.out).trans rfl
        clear hd14
        go_wp2_with (first | ((with_reducible refine gate_builtin (b := .append) (xs := #[.tmp 67, .tmp 69]) rfl ?_); at_builtin; refine Kd.R_append (Kd.int .i64) (w0 := w9) w9.heap.size rfl (.tmp 67) (.tmp 69) 33 3 (.int .i64 0) 8 rfl Try.underlying33 (by kernel_rfl) rfl (by decide) (by decide) _ L (-1) [.int .i64 (-1)] (fun k => w9.heap.size ≤ k) (fun _ => False) rfl rfl rfl (fun _ hk => hk.elim) (fun _ hk => Nat.le_trans HBq.out.size hk) HRq.out HBq.out HBq.out.size (by omega) ?_; intro v20 w20 hR20 hB20 hG20 hA20; obtain ⟨A20, c20, rfl⟩ := Kd.R_slice hR20; have hx1120 : w20.heap[b11]? = some (.cells #[.int .i64 s0, .slice AL L.length cL] TV (0, 0)) := blk_grown HXq.out hG20 (Kd.R_ne HRq.out HXq.out (by decide)); have HX20 := Aside0.mk hx1120; have hf20 := frozen_of_row w20 b11 1 _ _ hx1120; have hc20 : w20.cell? ⟨b11, 1, none⟩ = some (.slice AL L.length cL) := (cell_of_row w20 b11 1 _ _ _ hx1120).trans rfl; have HR20 := Aside0.mk hR20; have HB20 := Aside0.mk hB20; clear hR20 hB20 hG20 hA20 hx1120))
        have hset := cellSet_mk (i := 1) (v := Value.slice A20 (L.length + 1) c20) HX20.out
        have HSET := Aside0.mk hset
        clear hset
        have hlx : (L ++ [-1]).length = L.length + 1 := by simp
        have hR20 := HR20.out
        rw [hlx] at hR20
        refine ⟨⟨k + 1, by simp, by omega, L ++ [-1], A20, c20, froms_succ hL HFR.out, ⟨by rw [hlx]; exact Kd.R_set hR20 HX20.out (by intro q hq; simp [Kd.int, Kd.scalar] at hq; subst hq; decide) 1 _⟩, ⟨by rw [hlx]; exact HSET.out.at_⟩, ⟨HSET.out.below HB20.out (by have := HG11.out; omega)⟩⟩, by simp [intOf]; omega⟩
    · obtain rfl : k = t.f1.length := by omega
      have hres := HCH.out
      rw [HSM.out, hL] at hres
      have HRES := Aside0.mk hres
      have HX8r := Aside0.mk (blk_below HX89.out HB.out)
      have HB9r := Aside0.mk (below_step HB49.out HB.out)
      clear hres
      go_wp2_with (first | ((with_reducible refine gate_dst (N := 73) rfl ?_); refine wpList_load_row rfl TV (.tmp 11) rfl b11 rfl TV #[.int .i64 s0, .slice AL L.length cL] (0, 0) _ HXr.out Try.underlying68 rfl size_V ?_) | ((with_reducible refine gate_ (.store TV (.tmp 8) (.tmp 73)) rfl ?_); refine row_store_event rfl TV (.tmp 8) (.tmp 73) rfl b8 #[.int .i64 s0, .slice AL L.length cL] rfl rfl TV _ HX8r.out size_V rfl (v_one _ _ rfl rfl) ?_; intro wz hs; have HZ := Aside0.mk hs; clear hs))
      refine bodyPost_ret (results_ct rfl _ _ b8 TV #[.int .i64 s0, .slice AL L.length cL] (0, 0) _ rfl HZ.out.at_ Try.underlying68 rfl size_V) rfl ?_
      rw [HRES.out]
      have e0 : ([bb]).getD 0 0 = s0 := HS0.out
      refine ⟨.slice AL L.length cL, ?_, ?_, HZ.out.below HB9r.out HG8.out⟩
      · show Ending.returned _ = Ending.returned (.tuple #[.agg #[.int .i64 (([bb]).getD 0 0), _], .int .i64 0])
        rw [e0]
        rfl
      · exact Kd.R_lower (Kd.R_mono (Kd.R_step (w1 := wz) (Kd.R_types HR.out HX8r.out (by intro q hq; simp [Kd.int, Kd.scalar] at hq; subst hq; decide)) (fun j hj _ => HZ.out.other j hj.2)) (fun j hj => Nat.le_trans HB49.out.size hj.1)) HB49.out.size
theorem choose_calls {w : World} {t : Tab} {At : Option Addr} {ct : Nat} {Bt : Option Addr} {dt : Nat} (H : TA w t At ct Bt dt) (need : List Int) (An : Option Addr) (cn : Nat) (hn : Kd.C (Kd.int .i64) w An need.length need) (hcn : need.length ≤ cn) (hnl : need.length ≤ 1000000)
    (tested : List Int) (As : Option Addr) (cs : Nat) (hs : Kd.C (Kd.int .i64) w As tested.length tested) (hcs : tested.length ≤ cs) (hsl : tested.length ≤ 1000000) (us : List ByteArray) (Au : Option Addr) (cu : Nat) (hu : Kd.C Kd.string w Au us.length us) (hul : us.length ≤ 1000000) :
    Calls Try.prog 32 #[.agg #[.string t.f0, .slice At t.f1.length ct, .slice Bt t.f2.length dt], .slice An need.length cn, .slice As tested.length cs, .slice Au us.length cu] w (ChPost w (chooseP t need tested us)) := by
  have HT := Aside0.mk H
  have HN := Aside0.mk hn
  have HS := Aside0.mk hs
  have HU := Aside0.mk hu
  clear H hn hs hu
  by_cases h1 : checkP [t] = true ∧ colsIn t need = true ∧ colsIn t tested = true
  · by_cases h2 : 0 < (usedP t us).length
    · exact choose_used HT.out need An cn HN.out hcn hnl tested As cs HS.out hcs hsl us Au cu HU.out hul h1 h2
    · exact choose_best HT.out need An cn HN.out hcn hnl tested As cs HS.out hcs hsl us Au cu HU.out hul h1 (by omega)
  · exact choose_arg HT.out need An cn HN.out hcn hnl tested As cs HS.out hcs hsl us Au cu HU.out hul h1
end Go.Proofs.Ytgjclhhjigflkab.Sc
