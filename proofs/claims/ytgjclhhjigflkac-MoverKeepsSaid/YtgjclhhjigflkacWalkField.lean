/- The walks of the reference's Field and With. -/
import Derived.Test.YtgjclhhjigflkacWalkBits
namespace Go.Proofs.Ytgjclhhjigflkac.M
open Go.RowKit Go.Proofs.Ytgjclhhjigflkac.MyWords Go.Proofs.YtgjclhhjigflkacW.PrintWords Go.Proofs.YtgjclhhjigflkacW.PrintLast Go.Proofs.YtgjclhhjigflkacW.PrintMore
set_option linter.unusedVariables false
set_option linter.unusedSimpArgs false
/-- is place j told -/
def fieldIn (p w : Int) (j : Nat) : Bool := decide ((j : Int) < w ∧ 0 ≤ p ∧ p < 64 ∧ (j : Int) < 64 - p)
def fieldF (x p w : Int) (j : Nat) : Bool := fieldIn p w j && bitOf x (p.toNat + j)
set_option maxHeartbeats 4000000 in
set_option maxRecDepth 100000 in
theorem ref_Field.calls (a0 a1 a2 : Int) (w : World) :
    Calls Try.prog 108 #[.int .i64 a0, .int .i64 a1, .int .i64 a2] w fun e w' => e = .returned (.int .i64 (wordOf (fieldF a0 a1 a2))) ∧ Below w.heap.size w w' := by
  go_enter Try.func108, Try.ntmps108
  go_wp2_with (first | (go_at_call 143; refine (ref_Of.calls a0 _).mono ?_; rintro e w1 ⟨rfl, hb⟩; have hb1 := Aside0.mk hb; clear hb) | ((with_reducible refine gate_dst (N := 7) rfl ?_); refine alloc_event rfl (N := 7) rfl (run_alloc_bits _ rfl) ?_; intro g1 w2 hg1 hA1 hb2 hs2) | (refine row_store_event rfl _ (.tmp 7) (.tmp 11) rfl _ _ rfl rfl _ _ hA1.out (info_arr _) rfl (arr_one _) ?_; intro w3 h3) | ((with_reducible refine gate_dst (N := 12) rfl ?_); refine Kd.event_run rfl (run_build_bits _ rfl) ?_) | ((with_reducible refine gate_dst (N := 8) rfl ?_); refine alloc_event rfl (N := 8) rfl (run_alloc_bits _ rfl) ?_; intro g2 w4 hg2 hA2 hb4 hs4) | (refine row_store_event rfl _ (.tmp 8) (.tmp 12) rfl _ _ rfl rfl _ _ hA2.out (info_arr _) rfl (arr_one _) ?_; intro w5 h5; have hne := Aside0.mk (show g1 ≠ g2 by have := hg1.out; have := hg2.out; have := hs2.out; have := h3.size; omega); have hA5 := Aside0.mk (blk_other h5.other hne.out (blk_below h3.at_ hb4.out)); have hA6 := Aside0.mk h5.at_; have hlow := Aside0.mk (show w.heap.size ≤ g1 ∧ w.heap.size ≤ g2 by have := hb1.out.size; have := hg1.out; have := hg2.out; have := hs2.out; have := h3.size; omega); have hB5 := Aside0.mk (h5.below (below_step (h3.below (below_step hb1.out hb2.out) hlow.out.1) hb4.out) hlow.out.2); clear h5 h3 hA1 hA2 hb1 hb2 hs2 hb4 hs4 hg1 hg2))
  go_loopw [9] (fun v9 wr => ∃ (k : Nat) (f : Nat → Bool), v9 = .int .i64 (k : Int) ∧ k ≤ 64 ∧ Aside0 (∀ j, j < k → fieldIn a1 a2 j = true ∧ f j = fieldF a0 a1 a2 j) ∧ Aside0 (∀ j, k ≤ j → f j = false) ∧ Aside0 (wr.heap[g2]? = some (.cells (arr f) 182 (0, 0))) ∧ Aside0 (wr.heap[g1]? = some (.cells (arr (bitOf a0)) 182 (0, 0))) ∧ Aside0 (Below w.heap.size w wr)) (fun v9 _ => 64 - (intOf v9).toNat)
  case atStart => exact ⟨0, _, rfl, by omega, ⟨fun j hj => by omega⟩, ⟨fun _ _ => rfl⟩, hA6, hA5, hB5⟩
  case round =>
    obtain ⟨k, f, rfl, hk, HF, HZ, HC, HG, HB⟩ := hrel
    clear hA5 hA6 hB5
    by_cases hin : k < 64 ∧ (k : Int) < a2 ∧ 0 ≤ a1 ∧ a1 < 64 ∧ (k : Int) < 64 - a1
    · obtain ⟨h1, h2, h3, h4, h5⟩ := hin
      obtain ⟨p, rfl⟩ := Int.eq_ofNat_of_zero_le h3
      have hin2 : fieldIn (p : Int) a2 k = true := by unfold fieldIn; exact decide_eq_true ⟨h2, h3, h4, h5⟩
      have HIN := Aside0.mk hin2
      clear hin2
      obtain ⟨bk, hbk⟩ : ∃ b, bitOf a0 (p + k) = b := ⟨_, rfl⟩
      have hc1 := cell_arr HG.out (p + k) (by omega) bk hbk
      have hfz : wr.frozen? ⟨g2, k, none⟩ = false := blk_frozen HC.out _
      have hcell := cell_arr HC.out k (by omega) (f k) rfl
      have HBK := Aside0.mk hbk
      clear hbk
      go_wp2
      refine ⟨⟨k + 1, fun j => if j = k then bk else f j, by simp, by omega, ⟨fun j hj => ?_⟩, ⟨fun j hj => ?_⟩, ⟨?_⟩, ⟨blk_far HG.out hne.out _⟩, ⟨HB.out.setCell hlow.out.2 _⟩⟩, by simp [intOf]; omega⟩
      · by_cases e : j = k
        · subst e
          refine ⟨HIN.out, ?_⟩
          show (if j = j then bk else f j) = _
          rw [if_pos rfl, fieldF, HIN.out, Int.toNat_natCast, HBK.out, Bool.true_and]
        · simp only [if_neg e]
          exact HF.out j (by omega)
      · simp only [if_neg (show ¬ j = k by omega)]
        exact HZ.out j (by omega)
      · rw [← arr_set]
        exact blk_set HC.out _ _
    · have HE : Aside0 (wordOf f = wordOf (fieldF a0 a1 a2)) := ⟨wordOf_congr (fun j hj => by
        by_cases hjk : j < k
        · exact (HF.out j hjk).2
        · rw [HZ.out j (by omega)]
          have hn : fieldIn a1 a2 j = false := by unfold fieldIn; exact decide_eq_false (fun h => hin ⟨by omega, by omega, by omega, by omega, by omega⟩)
          unfold fieldF
          rw [hn]
          rfl)⟩
      go_wp2_with (first | (refine wpList_load_row rfl _ (.tmp 8) rfl _ rfl _ _ _ _ HC.out Try.underlying182 rfl (info_arr _) ?_) | (go_at_call 144; refine (ref_Word.calls _ _).mono ?_; rintro e w6 ⟨rfl, hb6⟩; have hb7 := Aside0.mk hb6; clear hb6))
      all_goals first | (exfalso; omega) | (go_ret; exact ⟨by rw [← HE.out]; rfl, below_step HB.out hb7.out⟩)
/-- is place j another one's -/
def withIn (p w : Int) (j : Nat) : Bool := decide (0 ≤ p ∧ p < 64 ∧ p ≤ (j : Int) ∧ (j : Int) - p < w ∧ (j : Int) < 64)
def withF (x p w v : Int) (j : Nat) : Bool := if withIn p w j then bitOf v (j - p.toNat) else bitOf x j
set_option maxHeartbeats 4000000 in
set_option maxRecDepth 100000 in
theorem ref_With.calls (a0 a1 a2 a3 : Int) (w : World) :
    Calls Try.prog 146 #[.int .i64 a0, .int .i64 a1, .int .i64 a2, .int .i64 a3] w fun e w' => e = .returned (.int .i64 (wordOf (withF a0 a1 a2 a3))) ∧ Below w.heap.size w w' := by
  go_enter Try.func146, Try.ntmps146
  go_wp2_with fail
  refine (ref_Of.calls a0 _).mono ?_
  rintro e w1 ⟨rfl, hb⟩
  have hb1 := Aside0.mk hb
  clear hb
  go_wp2_with fail
  refine (ref_Of.calls a3 _).mono ?_
  rintro e w2 ⟨rfl, hb⟩
  have hb2 := Aside0.mk (below_step hb1.out hb)
  clear hb hb1
  go_wp2_with (first | ((with_reducible refine gate_dst (N := 9) rfl ?_); refine alloc_event rfl (N := 9) rfl (run_alloc_bits _ rfl) ?_; intro g1 w3 hg1 hA1 hb3 hs3) | ((with_reducible refine gate_dst (N := 10) rfl ?_); refine alloc_event rfl (N := 10) rfl (run_alloc_bits _ rfl) ?_; intro g2 w4 hg2 hA2 hb4 hs4; have hA1' := Aside0.mk (blk_below hA1.out hb4.out); have hne := Aside0.mk (show g1 ≠ g2 by have := hg1.out; have := hg2.out; have := hs3.out; omega)) | (refine row_store_event rfl _ (.tmp 9) (.tmp 13) rfl _ _ rfl rfl _ _ hA1'.out (info_arr _) rfl (arr_one _) ?_; intro w5 h5; have hA2' := Aside0.mk (blk_other h5.other (Ne.symm hne.out) hA2.out)) | (refine row_store_event rfl _ (.tmp 10) (.tmp 15) rfl _ _ rfl rfl _ _ hA2'.out (info_arr _) rfl (arr_one _) ?_; intro w6 h6; have hA5 := Aside0.mk (blk_other h6.other hne.out h5.at_); have hA6 := Aside0.mk h6.at_; have hlow := Aside0.mk (show w.heap.size ≤ g1 ∧ w.heap.size ≤ g2 by have := hb2.out.size; have := hg1.out; have := hg2.out; have := hs3.out; omega); have hB5 := Aside0.mk (h6.below (h5.below (below_step (below_step hb2.out hb3.out) hb4.out) hlow.out.1) hlow.out.2); clear h6 h5 hA1 hA1' hA2' hA2 hb2 hb3 hs3 hb4 hs4 hg1 hg2))
  go_loopw [11] (fun v11 wr => ∃ (k : Nat) (f : Nat → Bool), v11 = .int .i64 (k : Int) ∧ k ≤ 64 ∧ Aside0 (k ≠ 0 → 0 ≤ a1 ∧ a1 < 64 ∧ (k : Int) ≤ a2 ∧ (k : Int) ≤ 64 - a1) ∧ Aside0 (∀ j, j < 64 → f j = if decide (0 ≤ a1 ∧ a1 < 64 ∧ a1 ≤ (j : Int) ∧ (j : Int) - a1 < k) then bitOf a3 (j - a1.toNat) else bitOf a0 j) ∧ Aside0 (wr.heap[g1]? = some (.cells (arr f) 182 (0, 0))) ∧ Aside0 (wr.heap[g2]? = some (.cells (arr (bitOf a3)) 182 (0, 0))) ∧ Aside0 (Below w.heap.size w wr)) (fun v11 _ => 64 - (intOf v11).toNat)
  case atStart =>
    refine ⟨0, _, rfl, by omega, ⟨fun h => absurd rfl h⟩, ⟨fun j hj => ?_⟩, hA5, hA6, hB5⟩
    rw [if_neg]
    simp only [decide_eq_true_eq]
    omega
  case round =>
    obtain ⟨k, f, rfl, hk, HK, HF, HC, HG, HB⟩ := hrel
    clear hA5 hA6 hB5
    by_cases hin : k < 64 ∧ (k : Int) < a2 ∧ 0 ≤ a1 ∧ a1 < 64 ∧ (k : Int) < 64 - a1
    · obtain ⟨h1, h2, h3, h4, h5⟩ := hin
      obtain ⟨p, rfl⟩ := Int.eq_ofNat_of_zero_le h3
      obtain ⟨bk, hbk⟩ : ∃ b, bitOf a3 k = b := ⟨_, rfl⟩
      have hc1 := cell_arr HG.out k (by omega) bk hbk
      have hfz : wr.frozen? ⟨g1, p + k, none⟩ = false := blk_frozen HC.out _
      have hcell := cell_arr HC.out (p + k) (by omega) (f (p + k)) rfl
      have HBK := Aside0.mk hbk
      clear hbk
      go_wp2
      refine ⟨⟨k + 1, fun j => if j = p + k then bk else f j, by simp, by omega, ⟨fun _ => by omega⟩, ⟨fun j hj => ?_⟩, ⟨?_⟩, ⟨blk_far HG.out (Ne.symm hne.out) _⟩, ⟨HB.out.setCell hlow.out.1 _⟩⟩, by simp [intOf]; omega⟩
      · by_cases e : j = p + k
        · subst e
          show (if p + k = p + k then bk else f (p + k)) = _
          rw [if_pos rfl, if_pos (decide_eq_true (by omega)), Int.toNat_natCast, Nat.add_sub_cancel_left, HBK.out]
        · simp only [if_neg e]
          rw [HF.out j hj]
          by_cases hd : 0 ≤ (p : Int) ∧ (p : Int) < 64 ∧ (p : Int) ≤ (j : Int) ∧ (j : Int) - p < k
          · rw [if_pos (decide_eq_true hd), if_pos (decide_eq_true (by omega))]
          · rw [if_neg (by simp only [decide_eq_true_eq]; exact hd), if_neg (by simp only [decide_eq_true_eq]; omega)]
      · rw [← arr_set]
        exact blk_set HC.out _ _
    · have HE : Aside0 (wordOf f = wordOf (withF a0 a1 a2 a3)) := ⟨wordOf_congr (fun j hj => by
        rw [HF.out j hj]
        unfold withF withIn
        have hk2 := HK.out
        by_cases hd : 0 ≤ a1 ∧ a1 < 64 ∧ a1 ≤ (j : Int) ∧ (j : Int) - a1 < k
        · rw [if_pos (decide_eq_true hd), if_pos (decide_eq_true (by have := hk2 (by omega); omega))]
        · rw [if_neg (by simp only [decide_eq_true_eq]; exact hd), if_neg (by simp only [decide_eq_true_eq]; omega)])⟩
      go_wp2_with (first | (refine wpList_load_row rfl _ (.tmp 9) rfl _ rfl _ _ _ _ HC.out Try.underlying182 rfl (info_arr _) ?_) | (go_at_call 144; refine (ref_Word.calls _ _).mono ?_; rintro e w6 ⟨rfl, hb6⟩; have hb7 := Aside0.mk hb6; clear hb6))
      all_goals first | (exfalso; omega) | (go_ret; exact ⟨by rw [← HE.out]; rfl, below_step HB.out hb7.out⟩)
end Go.Proofs.Ytgjclhhjigflkac.M
