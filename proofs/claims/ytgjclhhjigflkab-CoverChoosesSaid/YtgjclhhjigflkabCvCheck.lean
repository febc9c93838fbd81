/- The walk of cover.Check. (Written by genccheck.py.) -/
import Derived.Test.YtgjclhhjigflkabCvChoose2
namespace Go.Proofs.Ytgjclhhjigflkab.Sc
open Go Go.RowKit Go.Proofs.Ytgjclhhjigflkab.C Go.Proofs.Ytgjclhhjigflkab.MyWords Go.Proofs.Ytgjclhhjigflkab.Hand Go.Proofs.YtgjclhhjigflkabW.PrintWords Go.Proofs.YtgjclhhjigflkabW.PrintLast Go.Proofs.YtgjclhhjigflkabW.PrintMore
set_option linter.unusedVariables false
set_option linter.unusedSimpArgs false
def okAt (t : Tab) (need F : List Int) (k : Nat) : Bool := if (k : Int) ∈ need then decide (0 ≤ placeP t (F.getD k 0) k) else decide (F.getD k 0 = -1)
def mayCov (t : Tab) (need : List Int) (m : Int) (F : List Int) : Bool := decide (0 ≤ m ∧ m < t.f2.length) && decide (F.length = t.f1.length) && colsIn t need && (List.range F.length).all (okAt t need F)
def covE (t : Tab) (need : List Int) (m : Int) (F : List Int) : Int := if mayCov t need m F = true then 0 else 1
theorem covE_no {t : Tab} {need : List Int} {m : Int} {F : List Int} (h : mayCov t need m F = false) : covE t need m F = 1 := by unfold covE; rw [if_neg (by rw [h]; decide)]
theorem covE_yes {t : Tab} {need : List Int} {m : Int} {F : List Int} (h : mayCov t need m F = true) : covE t need m F = 0 := by unfold covE; rw [if_pos h]
set_option maxHeartbeats 2000000 in
set_option maxRecDepth 100000 in
theorem ccheck_calls {w : World} {t : Tab} {At : Option Addr} {ct : Nat} {Bt : Option Addr} {dt : Nat} (H : TA w t At ct Bt dt) (need : List Int) (An : Option Addr) (cn : Nat) (hn : Kd.C (Kd.int .i64) w An need.length need) (hcn : need.length ≤ cn) (hnl : need.length ≤ 1000000)
    (m : Int) (F : List Int) (Af : Option Addr) (cf : Nat) (hf : Kd.C (Kd.int .i64) w Af F.length F) (hfl : F.length ≤ 1000000) :
    Calls Try.prog 36 #[.agg #[.string t.f0, .slice At t.f1.length ct, .slice Bt t.f2.length dt], .slice An need.length cn, .agg #[.int .i64 m, .slice Af F.length cf]] w fun e w' => e = .returned (.int .i64 (covE t need m F)) ∧ Below w.heap.size w w' := by
  have HT := Aside0.mk H
  have HN := Aside0.mk hn
  have HF := Aside0.mk hf
  clear H hn hf
  by_cases h1 : m < 0
  · have HNO : Aside0 (covE t need m F = 1) := ⟨covE_no (by unfold mayCov; rw [decide_eq_false (by omega)]; rfl)⟩
    have g1 : decide (m < 0) = true := decide_eq_true h1
    go_enter Try.func36, Try.ntmps36
    go_wp2_with (first | ((with_reducible refine gate_dst (N := 3) rfl ?_); refine box_event rfl (N := 3) rfl (cs := #[.string t.f0, .slice At t.f1.length ct, .slice Bt t.f2.length dt]) (t := TT) ?hr ?_; (case hr => first | (go_simp; done) | (go_simp; rfl)); intro b3 hg3 w1 hb3 hB3; have HX3 := Aside0.mk hb3; have HB3 := Aside0.mk hB3; clear hg3 hb3 hB3) | ((with_reducible refine gate_dst (N := 5) rfl ?_); refine box_event rfl (N := 5) rfl (cs := #[.int .i64 m, .slice Af F.length cf]) (t := TV) ?hr ?_; (case hr => first | (go_simp; done) | (go_simp; rfl)); intro b5 hg5 w2 hb5 hB5; have HX5 := Aside0.mk hb5; have HX32 := Aside0.mk (blk_below HX3.out hB5); have HB5 := Aside0.mk (below_step HB3.out hB5); have hc50 : w2.cell? ⟨b5, 0, none⟩ = some (.int .i64 m) := (cell_of_row w2 b5 0 _ _ _ hb5).trans rfl; have hc51 : w2.cell? ⟨b5, 1, none⟩ = some (.slice Af F.length cf) := (cell_of_row w2 b5 1 _ _ _ hb5).trans rfl; have hc31 : w2.cell? ⟨b3, 1, none⟩ = some (.slice At t.f1.length ct) := (cell_of_row w2 b3 1 _ _ _ (blk_below HX3.out hB5)).trans rfl; have hc32 : w2.cell? ⟨b3, 2, none⟩ = some (.slice Bt t.f2.length dt) := (cell_of_row w2 b3 2 _ _ _ (blk_below HX3.out hB5)).trans rfl; clear hg5 hb5 hB5))
    go_ret
    exact ⟨by rw [HNO.out]; rfl, HB5.out⟩
  by_cases h2 : (t.f2.length : Int) ≤ m
  · have HNO : Aside0 (covE t need m F = 1) := ⟨covE_no (by unfold mayCov; rw [decide_eq_false (by omega)]; rfl)⟩
    have g1 : decide (m < 0) = false := decide_eq_false h1
    have g2 : decide ((t.f2.length : Int) ≤ m) = true := decide_eq_true h2
    go_enter Try.func36, Try.ntmps36
    go_wp2_with (first | ((with_reducible refine gate_dst (N := 3) rfl ?_); refine box_event rfl (N := 3) rfl (cs := #[.string t.f0, .slice At t.f1.length ct, .slice Bt t.f2.length dt]) (t := TT) ?hr ?_; (case hr => first | (go_simp; done) | (go_simp; rfl)); intro b3 hg3 w1 hb3 hB3; have HX3 := Aside0.mk hb3; have HB3 := Aside0.mk hB3; clear hg3 hb3 hB3) | ((with_reducible refine gate_dst (N := 5) rfl ?_); refine box_event rfl (N := 5) rfl (cs := #[.int .i64 m, .slice Af F.length cf]) (t := TV) ?hr ?_; (case hr => first | (go_simp; done) | (go_simp; rfl)); intro b5 hg5 w2 hb5 hB5; have HX5 := Aside0.mk hb5; have HX32 := Aside0.mk (blk_below HX3.out hB5); have HB5 := Aside0.mk (below_step HB3.out hB5); have hc50 : w2.cell? ⟨b5, 0, none⟩ = some (.int .i64 m) := (cell_of_row w2 b5 0 _ _ _ hb5).trans rfl; have hc51 : w2.cell? ⟨b5, 1, none⟩ = some (.slice Af F.length cf) := (cell_of_row w2 b5 1 _ _ _ hb5).trans rfl; have hc31 : w2.cell? ⟨b3, 1, none⟩ = some (.slice At t.f1.length ct) := (cell_of_row w2 b3 1 _ _ _ (blk_below HX3.out hB5)).trans rfl; have hc32 : w2.cell? ⟨b3, 2, none⟩ = some (.slice Bt t.f2.length dt) := (cell_of_row w2 b3 2 _ _ _ (blk_below HX3.out hB5)).trans rfl; clear hg5 hb5 hB5))
    go_ret
    exact ⟨by rw [HNO.out]; rfl, HB5.out⟩
  have g1 : decide (m < 0) = false := decide_eq_false h1
  have g2 : decide ((t.f2.length : Int) ≤ m) = false := decide_eq_false h2
  have g0 : decide (0 ≤ m ∧ m < t.f2.length) = true := decide_eq_true (by omega)
  by_cases h3 : F.length = t.f1.length
  rotate_left
  · have HNO : Aside0 (covE t need m F = 1) := ⟨covE_no (by unfold mayCov; rw [decide_eq_false h3, Bool.and_false]; rfl)⟩
    have g3 : (((F.length : Nat) : Int) != ((t.f1.length : Nat) : Int)) = true := bne_iff_ne.2 (by omega)
    have g4 : (F.length != t.f1.length) = true := bne_iff_ne.2 h3
    clear g0 h3
    go_enter Try.func36, Try.ntmps36
    go_wp2_with (first | ((with_reducible refine gate_dst (N := 3) rfl ?_); refine box_event rfl (N := 3) rfl (cs := #[.string t.f0, .slice At t.f1.length ct, .slice Bt t.f2.length dt]) (t := TT) ?hr ?_; (case hr => first | (go_simp; done) | (go_simp; rfl)); intro b3 hg3 w1 hb3 hB3; have HX3 := Aside0.mk hb3; have HB3 := Aside0.mk hB3; clear hg3 hb3 hB3) | ((with_reducible refine gate_dst (N := 5) rfl ?_); refine box_event rfl (N := 5) rfl (cs := #[.int .i64 m, .slice Af F.length cf]) (t := TV) ?hr ?_; (case hr => first | (go_simp; done) | (go_simp; rfl)); intro b5 hg5 w2 hb5 hB5; have HX5 := Aside0.mk hb5; have HX32 := Aside0.mk (blk_below HX3.out hB5); have HB5 := Aside0.mk (below_step HB3.out hB5); have hc50 : w2.cell? ⟨b5, 0, none⟩ = some (.int .i64 m) := (cell_of_row w2 b5 0 _ _ _ hb5).trans rfl; have hc51 : w2.cell? ⟨b5, 1, none⟩ = some (.slice Af F.length cf) := (cell_of_row w2 b5 1 _ _ _ hb5).trans rfl; have hc31 : w2.cell? ⟨b3, 1, none⟩ = some (.slice At t.f1.length ct) := (cell_of_row w2 b3 1 _ _ _ (blk_below HX3.out hB5)).trans rfl; have hc32 : w2.cell? ⟨b3, 2, none⟩ = some (.slice Bt t.f2.length dt) := (cell_of_row w2 b3 2 _ _ _ (blk_below HX3.out hB5)).trans rfl; clear hg5 hb5 hB5))
    go_ret
    exact ⟨by rw [HNO.out]; rfl, HB5.out⟩
  have g3 : (((F.length : Nat) : Int) != ((t.f1.length : Nat) : Int)) = false := bne_eq_false_iff_eq.2 (by omega)
  have g4 : (F.length != t.f1.length) = false := bne_eq_false_iff_eq.2 h3
  have H3 := Aside0.mk h3
  have G0 := Aside0.mk g0
  clear h3 g0
  cases h5 : colsIn t need with
  | false =>
    have HCN := Aside0.mk h5
    have HNO : Aside0 (covE t need m F = 1) := ⟨covE_no (by unfold mayCov; rw [h5, Bool.and_false]; rfl)⟩
    clear h5
    go_enter Try.func36, Try.ntmps36
    go_wp2_with (first | ((with_reducible refine gate_dst (N := 3) rfl ?_); refine box_event rfl (N := 3) rfl (cs := #[.string t.f0, .slice At t.f1.length ct, .slice Bt t.f2.length dt]) (t := TT) ?hr ?_; (case hr => first | (go_simp; done) | (go_simp; rfl)); intro b3 hg3 w1 hb3 hB3; have HX3 := Aside0.mk hb3; have HB3 := Aside0.mk hB3; clear hg3 hb3 hB3) | ((with_reducible refine gate_dst (N := 5) rfl ?_); refine box_event rfl (N := 5) rfl (cs := #[.int .i64 m, .slice Af F.length cf]) (t := TV) ?hr ?_; (case hr => first | (go_simp; done) | (go_simp; rfl)); intro b5 hg5 w2 hb5 hB5; have HX5 := Aside0.mk hb5; have HX32 := Aside0.mk (blk_below HX3.out hB5); have HB5 := Aside0.mk (below_step HB3.out hB5); have hc50 : w2.cell? ⟨b5, 0, none⟩ = some (.int .i64 m) := (cell_of_row w2 b5 0 _ _ _ hb5).trans rfl; have hc51 : w2.cell? ⟨b5, 1, none⟩ = some (.slice Af F.length cf) := (cell_of_row w2 b5 1 _ _ _ hb5).trans rfl; have hc31 : w2.cell? ⟨b3, 1, none⟩ = some (.slice At t.f1.length ct) := (cell_of_row w2 b3 1 _ _ _ (blk_below HX3.out hB5)).trans rfl; have hc32 : w2.cell? ⟨b3, 2, none⟩ = some (.slice Bt t.f2.length dt) := (cell_of_row w2 b3 2 _ _ _ (blk_below HX3.out hB5)).trans rfl; clear hg5 hb5 hB5) | ((with_reducible refine gate_dst (N := 30) rfl ?_); refine gate_guard (by rfl) ?_; dsimp only; refine wpList_load_row rfl TT (.tmp 3) rfl b3 rfl TT #[.string t.f0, .slice At t.f1.length ct, .slice Bt t.f2.length dt] (0, 0) _ HX32.out Try.underlying63 rfl size_T ?_))
    refine (columns_calls t At ct Bt dt need An cn _ (Kd.C_below HN.out HB5.out) hcn hnl).mono ?_
    rintro e w3 ⟨rfl, hb3⟩
    rw [HCN.out]
    have HX33 := Aside0.mk (blk_below HX32.out hb3)
    have HX53 := Aside0.mk (blk_below HX5.out hb3)
    have HB33 := Aside0.mk (below_step HB5.out hb3)
    clear hb3 hc50 hc51 hc31 hc32
    go_wp2_with fail
    go_ret
    exact ⟨by rw [HNO.out]; rfl, HB33.out⟩
  | true =>
    have HCN := Aside0.mk h5
    have hm : mayCov t need m F = (List.range F.length).all (okAt t need F) := by unfold mayCov; rw [h5, G0.out, decide_eq_true H3.out]; rfl
    have HM := Aside0.mk hm
    clear h5 hm
    go_enter Try.func36, Try.ntmps36
    go_wp2_with (first | ((with_reducible refine gate_dst (N := 3) rfl ?_); refine box_event rfl (N := 3) rfl (cs := #[.string t.f0, .slice At t.f1.length ct, .slice Bt t.f2.length dt]) (t := TT) ?hr ?_; (case hr => first | (go_simp; done) | (go_simp; rfl)); intro b3 hg3 w1 hb3 hB3; have HX3 := Aside0.mk hb3; have HB3 := Aside0.mk hB3; clear hg3 hb3 hB3) | ((with_reducible refine gate_dst (N := 5) rfl ?_); refine box_event rfl (N := 5) rfl (cs := #[.int .i64 m, .slice Af F.length cf]) (t := TV) ?hr ?_; (case hr => first | (go_simp; done) | (go_simp; rfl)); intro b5 hg5 w2 hb5 hB5; have HX5 := Aside0.mk hb5; have HX32 := Aside0.mk (blk_below HX3.out hB5); have HB5 := Aside0.mk (below_step HB3.out hB5); have hc50 : w2.cell? ⟨b5, 0, none⟩ = some (.int .i64 m) := (cell_of_row w2 b5 0 _ _ _ hb5).trans rfl; have hc51 : w2.cell? ⟨b5, 1, none⟩ = some (.slice Af F.length cf) := (cell_of_row w2 b5 1 _ _ _ hb5).trans rfl; have hc31 : w2.cell? ⟨b3, 1, none⟩ = some (.slice At t.f1.length ct) := (cell_of_row w2 b3 1 _ _ _ (blk_below HX3.out hB5)).trans rfl; have hc32 : w2.cell? ⟨b3, 2, none⟩ = some (.slice Bt t.f2.length dt) := (cell_of_row w2 b3 2 _ _ _ (blk_below HX3.out hB5)).trans rfl; clear hg5 hb5 hB5) | ((with_reducible refine gate_dst (N := 30) rfl ?_); refine gate_guard (by rfl) ?_; dsimp only; refine wpList_load_row rfl TT (.tmp 3) rfl b3 rfl TT #[.string t.f0, .slice At t.f1.length ct, .slice Bt t.f2.length dt] (0, 0) _ HX32.out Try.underlying63 rfl size_T ?_))
    refine (columns_calls t At ct Bt dt need An cn _ (Kd.C_below HN.out HB5.out) hcn hnl).mono ?_
    rintro e w3 ⟨rfl, hb3⟩
    rw [HCN.out]
    have HX33 := Aside0.mk (blk_below HX32.out hb3)
    have HX53 := Aside0.mk (blk_below HX5.out hb3)
    have HB33 := Aside0.mk (below_step HB5.out hb3)
    clear hb3 hc50 hc51 hc31 hc32
    have hc513 : w3.cell? ⟨b5, 1, none⟩ = some (.slice Af F.length cf) := (cell_of_row w3 b5 1 _ _ _ HX53.out).trans rfl
    go_wp2_with fail
    go_loopw [38] (fun v38 wr => ∃ k : Nat, v38 = .int .i64 (k : Int) ∧ k ≤ F.length ∧ Aside0 (∀ i, i < k → okAt t need F i = true) ∧ Aside0 (Below w3.heap.size w3 wr)) (fun v38 _ => F.length - (intOf v38).toNat)
    case atStart => exact ⟨0, rfl, Nat.zero_le _, ⟨fun i hi => absurd hi (by omega)⟩, ⟨Below.refl _ _⟩⟩
    case round =>
      clear hc513
      obtain ⟨k, rfl, hk, HI, HB⟩ := hrel
      by_cases hkl : k < F.length
      · have HNr := Aside0.mk (Kd.C_below HN.out (below_step HB33.out HB.out))
        have HX3r := Aside0.mk (blk_below HX33.out HB.out)
        have HTr := Aside0.mk (HT.out.below (below_step HB33.out HB.out))
        obtain ⟨ad, hA, hx⟩ := Kd.at_int (Kd.C_below HF.out (below_step HB33.out HB.out)) (k : Int) (by omega) (by omega)
        subst hA
        rw [Int.toNat_natCast] at hx
        have e0 : rd F (k : Int) = F.getD k 0 := by unfold rd; rw [Int.toNat_natCast]
        rw [e0] at hx
        obtain ⟨p, hp⟩ : ∃ p, F.getD k 0 = p := ⟨_, rfl⟩
        rw [hp] at hx
        have HPP := Aside0.mk hp
        clear e0 hp
        obtain ⟨kk, hkk⟩ := (has_ev need hnl (k : Int)).rounds
        by_cases hin : (k : Int) ∈ need
        · rw [decide_eq_true hin] at hkk
          have HKK := Aside0.mk hkk
          have hok : okAt t need F k = decide (0 ≤ placeP t p k) := by unfold okAt; rw [if_pos hin, HPP.out]
          have HOK := Aside0.mk hok
          clear hkk hin hok
          go_wp2_with fail
          refine (slices_Contains_int_int.calls kk An cn need (k : Int) true _ HNr.out hcn HKK.out).mono ?_
          rintro e w4 ⟨rfl, hd4⟩
          have HB4 := Aside0.mk (below_step HB.out hd4.below)
          have HX34 := Aside0.mk (blk_below HX3r.out hd4.below)
          have HT4 := Aside0.mk (HTr.out.below hd4.below)
          clear hd4 hx
          go_wp2_with (first | ((with_reducible refine gate_dst (N := 46) rfl ?_); refine wpList_load_row rfl TT (.tmp 3) rfl b3 rfl TT #[.string t.f0, .slice At t.f1.length ct, .slice Bt t.f2.length dt] (0, 0) _ HX34.out Try.underlying63 rfl size_T ?_))
          refine (place_calls HT4.out p (k : Int)).mono ?_
          rintro e w5 ⟨rfl, hb5⟩
          have HB55 := Aside0.mk (below_step HB4.out hb5)
          clear hb5
          obtain ⟨q, hq⟩ : ∃ q, placeP t p (k : Int) = q := ⟨_, rfl⟩
          rw [hq] at HOK ⊢
          clear hq
          by_cases h0 : q < 0
          · have q0 : decide (q < 0) = true := decide_eq_true h0
            have HNO : Aside0 (covE t need m F = 1) := ⟨covE_no (by rw [HM.out, List.all_eq_false]; exact ⟨k, List.mem_range.2 hkl, by rw [HOK.out, decide_eq_false (by omega)]; decide⟩)⟩
            go_wp2_with fail
            go_ret
            exact ⟨by rw [HNO.out]; rfl, below_step HB33.out HB55.out⟩
          · have q0 : decide (q < 0) = false := decide_eq_false h0
            go_wp2_with fail
            exact ⟨⟨k + 1, by simp, by omega, ⟨fun i hi => by
              by_cases e : i = k
              · subst e; rw [HOK.out]; exact decide_eq_true (by omega)
              · exact HI.out i (by omega)⟩, HB55⟩, by simp [intOf]; omega⟩
        · rw [decide_eq_false hin] at hkk
          have HKK := Aside0.mk hkk
          have hok : okAt t need F k = decide (p = -1) := by unfold okAt; rw [if_neg hin, HPP.out]
          have HOK := Aside0.mk hok
          clear hkk hin hok
          go_wp2_with fail
          refine (slices_Contains_int_int.calls kk An cn need (k : Int) false _ HNr.out hcn HKK.out).mono ?_
          rintro e w4 ⟨rfl, hd4⟩
          have HB4 := Aside0.mk (below_step HB.out hd4.below)
          clear hd4 hx
          by_cases h0 : p = -1
          · have q0 : (p != -1) = false := bne_eq_false_iff_eq.2 h0
            have HP1 := Aside0.mk h0
            clear h0
            go_wp2_with fail
            exact ⟨⟨k + 1, by simp, by omega, ⟨fun i hi => by
              by_cases e : i = k
              · subst e; rw [HOK.out]; exact decide_eq_true HP1.out
              · exact HI.out i (by omega)⟩, HB4⟩, by simp [intOf]; omega⟩
          · have q0 : (p != -1) = true := bne_iff_ne.2 h0
            have HNO : Aside0 (covE t need m F = 1) := ⟨covE_no (by rw [HM.out, List.all_eq_false]; exact ⟨k, List.mem_range.2 hkl, by rw [HOK.out, decide_eq_false h0]; decide⟩)⟩
            clear h0
            go_wp2_with fail
            go_ret
            exact ⟨by rw [HNO.out]; rfl, below_step HB33.out HB4.out⟩
      · obtain rfl : k = F.length := by omega
        have HY : Aside0 (covE t need m F = 0) := ⟨covE_yes (by rw [HM.out, List.all_eq_true]; exact fun i hi => HI.out i (List.mem_range.1 hi))⟩
        go_wp2_with fail
        go_ret
        exact ⟨by rw [HY.out]; rfl, below_step HB33.out HB.out⟩
end Go.Proofs.Ytgjclhhjigflkab.Sc
