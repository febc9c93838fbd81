/- The walk of cover.best, as a whole. -/
import Derived.Test.YtgjclhhjigflkabCvBest
namespace Go.Proofs.Ytgjclhhjigflkab.Sc
open Go Go.RowKit Go.Proofs.Ytgjclhhjigflkab.C Go.Proofs.Ytgjclhhjigflkab.MyWords Go.Proofs.Ytgjclhhjigflkab.Hand Go.Proofs.YtgjclhhjigflkabW.PrintWords Go.Proofs.YtgjclhhjigflkabW.PrintLast Go.Proofs.YtgjclhhjigflkabW.PrintMore
set_option linter.unusedVariables false
set_option linter.unusedSimpArgs false
def bestK (t : Tab) (need tested : List Int) (k : Nat) : Int := (List.range k).foldl (bestStep t need tested) (-1)
theorem bestK_succ (t : Tab) (need tested : List Int) (k : Nat) : bestK t need tested (k + 1) = bestStep t need tested (bestK t need tested k) k := by
  unfold bestK
  rw [List.range_succ, List.foldl_append]
  rfl
theorem bestK_range (t : Tab) (need tested : List Int) (k : Nat) : bestK t need tested k = -1 ∨ ∃ o : Nat, bestK t need tested k = (o : Int) ∧ o < k := by
  induction k with
  | zero => exact .inl rfl
  | succ k ih =>
    rw [bestK_succ]
    unfold bestStep
    split
    · exact .inr ⟨k, rfl, by omega⟩
    · rcases ih with h | ⟨o, h, ho⟩
      · exact .inl h
      · exact .inr ⟨o, h, by omega⟩
set_option maxHeartbeats 4000000 in
set_option maxRecDepth 100000 in
theorem best_calls {w : World} {t : Tab} {At : Option Addr} {ct : Nat} {Bt : Option Addr} {dt : Nat} (H : TA w t At ct Bt dt) (hone : ∀ q ∈ t.f2, 1 ≤ q.f1.length) (need : List Int) (An : Option Addr) (cn : Nat) (hn : Kd.C (Kd.int .i64) w An need.length need) (hcn : need.length ≤ cn) (hnl : need.length ≤ 1000000)
    (tested : List Int) (As : Option Addr) (cs : Nat) (hs : Kd.C (Kd.int .i64) w As tested.length tested) (hcs : tested.length ≤ cs) (hsl : tested.length ≤ 1000000) :
    Calls Try.prog 79 #[.agg #[.string t.f0, .slice At t.f1.length ct, .slice Bt t.f2.length dt], .slice An need.length cn, .slice As tested.length cs] w fun e w' => e = .returned (.int .i64 (bestP t need tested)) ∧ Below w.heap.size w w' := by
  have HT := Aside0.mk H
  have HN := Aside0.mk hn
  have HS := Aside0.mk hs
  have HONE := Aside0.mk hone
  have hpl := H.g.p
  clear H hn hs hone
  go_enter Try.func79, Try.ntmps79
  go_wp2_with (first | ((with_reducible refine gate_dst (N := 3) rfl ?_); refine box_event rfl (N := 3) rfl (cs := #[.string t.f0, .slice At t.f1.length ct, .slice Bt t.f2.length dt]) (t := TT) ?hr ?_; (case hr => first | (go_simp; done) | (go_simp; rfl)); intro b3 hg3 w1 hb3 hB3; have HX3 := Aside0.mk hb3; have HB3 := Aside0.mk hB3; clear hg3 hb3 hB3) | ((with_reducible refine gate_dst (N := 5) rfl ?_); refine box_event rfl (N := 5) rfl (cs := #[.slice As tested.length cs]) (t := 33) ?hr ?_; (case hr => first | (go_simp; done) | (go_simp; rfl)); intro b5 hg5 w2 hb5 hB5; have HX5 := Aside0.mk hb5; have HX32 := Aside0.mk (blk_below HX3.out hB5); have HB5 := Aside0.mk (below_step HB3.out hB5); have hc32 : w2.cell? ⟨b3, 2, none⟩ = some (.slice Bt t.f2.length dt) := (cell_of_row w2 b3 2 _ _ _ (blk_below HX3.out hB5)).trans rfl; clear hg5 hb5 hB5))
  go_loopw [8, 15] (fun v8 v15 wr => ∃ k : Nat, v15 = .int .i64 (k : Int) ∧ k ≤ t.f2.length ∧ v8 = .int .i64 (bestK t need tested k) ∧ Aside0 (Below w2.heap.size w2 wr)) (fun _ v15 _ => t.f2.length - (intOf v15).toNat)
  case atStart => exact ⟨0, rfl, Nat.zero_le _, rfl, ⟨Below.refl _ _⟩⟩
  case round =>
    obtain ⟨k, rfl, hk, rfl, HB⟩ := hrel
    clear hc32
    have HTr := Aside0.mk (HT.out.below (below_step HB5.out HB.out))
    have HX3r := Aside0.mk (blk_below HX32.out HB.out)
    have HX5r := Aside0.mk (blk_below HX5.out HB.out)
    have hsc := bestK_succ t need tested k
    have hrg := bestK_range t need tested k
    obtain ⟨o, ho⟩ : ∃ o, bestK t need tested k = o := ⟨_, rfl⟩
    rw [ho] at hsc hrg ⊢
    have HO := Aside0.mk ho
    have HSC := Aside0.mk hsc
    clear ho hsc
    by_cases hkl : k < t.f2.length
    · have HNr := Aside0.mk (Kd.C_below HN.out (below_step HB5.out HB.out))
      have HSr := Aside0.mk (Kd.C_below HS.out (below_step HB5.out HB.out))
      go_wp2_with (first | ((with_reducible refine gate_dst (N := 9) rfl ?_); refine box_event rfl (N := 9) rfl (cs := #[.int .i64 0]) (t := 3) ?hr ?_; (case hr => first | (go_simp; done) | (go_simp; rfl)); intro b9 hg9 w9 hb9 hB9; have HX9 := Aside0.mk hb9; have HB9 := Aside0.mk hB9; have HG9 := Aside0.mk hg9; have hc9 : w9.cell? ⟨b9, 0, none⟩ = some (.int .i64 0) := (cell_of_row w9 b9 0 _ _ _ hb9).trans rfl; have hf9 := frozen_of_row w9 b9 0 _ _ hb9; clear hg9 hb9 hB9))
      obtain ⟨w10, hw10⟩ : ∃ w10, w10 = w9.setCell ⟨b9, 0, none⟩ (.int .i64 (k : Int)) := ⟨_, rfl⟩
      rw [← hw10]
      have hset := cellSet_mk (i := 0) (v := Value.int .i64 (k : Int)) HX9.out
      rw [← hw10] at hset
      have HX10 : Aside0 (w10.heap[b9]? = some (.cells #[.int .i64 (k : Int)] 3 (0, 0))) := ⟨hset.at_⟩
      have HB10 : Aside0 (Below wr.heap.size wr w10) := ⟨hset.below HB9.out (by have := HG9.out; omega)⟩
      have HX310 := Aside0.mk (blk_below HX3r.out HB10.out)
      have HX510 := Aside0.mk (blk_below HX5r.out HB10.out)
      have HT10 := Aside0.mk (HTr.out.below HB10.out)
      clear hset hw10 hc9 hf9 HX9 HB9 HG9
      refine (contains_int (.func (.func 126) #[] #[.pointer (some ⟨b3, 0, none⟩), .pointer (some ⟨b9, 0, none⟩)]) (fun c => decide (placeP t (k : Int) c < 0)) An cn need w10 (Kd.C_below HNr.out HB10.out) hcn (by omega) (fun i hi w11 hb => CallsV.of Try.func126 (by kernel_rfl) rfl (lacks_fn (HT10.out.below hb) need[i] (k : Int) b3 b9 (blk_below HX310.out hb) (blk_below HX10.out hb)))).mono ?_
      rintro e w11 ⟨rfl, hb11⟩
      have HB11 := Aside0.mk (below_step HB10.out hb11)
      have HX311 := Aside0.mk (blk_below HX310.out hb11)
      have HX511 := Aside0.mk (blk_below HX510.out hb11)
      have HX911 := Aside0.mk (blk_below HX10.out hb11)
      have hc911 : w11.cell? ⟨b9, 0, none⟩ = some (.int .i64 (k : Int)) := (cell_of_row w11 b9 0 _ _ _ HX911.out).trans rfl
      clear hb11 HX10 HB10 HX310 HX510 HT10
      cases hlk : (need.any fun c => decide (placeP t (k : Int) c < 0)) with
      | true =>
        have hst : bestStep t need tested o k = o := by
          unfold bestStep
          rw [if_neg (fun h => by have h1 := h.1; unfold lacks at h1; rw [hlk] at h1; cases h1)]
        have HST := Aside0.mk (HSC.out.trans hst)
        clear hst hlk hrg
        go_wp2_with fail
        exact ⟨⟨k + 1, by simp, by omega, by rw [HST.out], ⟨below_step HB.out HB11.out⟩⟩, by simp [intOf]; omega⟩
      | false =>
        rcases hrg with rfl | ⟨on, rfl, hon⟩
        · have hst : bestStep t need tested (-1) k = k := by
            unfold bestStep
            rw [if_pos ⟨hlk, .inl (by decide)⟩]
          have HST := Aside0.mk (HSC.out.trans hst)
          clear hst hlk
          go_wp2_with fail
          exact ⟨⟨k + 1, by simp, by omega, by rw [HST.out], ⟨below_step HB.out HB11.out⟩⟩, by simp [intOf]; omega⟩
        · obtain ⟨r1, hr1⟩ : ∃ r, rankP t tested (k : Int) = r := ⟨_, rfl⟩
          obtain ⟨r2, hr2⟩ : ∃ r, rankP t tested (on : Int) = r := ⟨_, rfl⟩
          have hst : bestStep t need tested (on : Int) k = if r1 < r2 then (k : Int) else (on : Int) := by
            unfold bestStep
            rw [hr1, hr2]
            by_cases h : r1 < r2
            · rw [if_pos ⟨hlk, .inr h⟩, if_pos h]
            · rw [if_neg (fun hh => by rcases hh.2 with h' | h'; omega; exact h h'), if_neg h]
          have HR1 := Aside0.mk hr1
          have HR2 := Aside0.mk hr2
          have HT11 := Aside0.mk (HTr.out.below HB11.out)
          have HS11 := Aside0.mk (Kd.C_below HSr.out HB11.out)
          have h0n : decide ((on : Int) < 0) = false := decide_eq_false (by omega)
          clear hlk hr1 hr2
          by_cases hlt : r1 < r2
          all_goals
            have HST := Aside0.mk (HSC.out.trans hst)
            first | (rw [if_pos hlt] at HST; have hdl : decide (r1 < r2) = true := decide_eq_true hlt) | (rw [if_neg hlt] at HST; have hdl : decide (r1 < r2) = false := decide_eq_false hlt)
            clear hst hlt
            go_wp2_with (first | ((with_reducible refine gate_dst (N := 29) rfl ?_); refine gate_guard (by rfl) ?_; dsimp only; refine callsV_event rfl 29 rfl (.tmp 27) [.tmp 28] #[3] rfl (.func (.func 125) #[] #[.pointer (some ⟨b3, 0, none⟩), .pointer (some ⟨b5, 0, none⟩)]) rfl [.int .i64 (k : Int)] rfl ?_; refine CallsV.of Try.func125 (by kernel_rfl) rfl ((rank_fn HT11.out k hkl (HONE.out _ (List.getElem_mem hkl)) tested As cs HS11.out hcs hsl b3 b5 HX311.out HX511.out).mono ?_); rintro e w12 ⟨rfl, hb12⟩; refine ⟨_, rfl, ?_⟩; rw [HR1.out]; have HB12 := Aside0.mk hb12; clear hb12 hc911) | ((with_reducible refine gate_dst (N := 32) rfl ?_); refine gate_guard (by rfl) ?_; dsimp only; refine callsV_event rfl 32 rfl (.tmp 30) [.tmp 31] #[3] rfl (.func (.func 125) #[] #[.pointer (some ⟨b3, 0, none⟩), .pointer (some ⟨b5, 0, none⟩)]) rfl [.int .i64 (on : Int)] rfl ?_; refine CallsV.of Try.func125 (by kernel_rfl) rfl ((rank_fn (HT11.out.below HB12.out) on (by omega) (HONE.out _ (List.getElem_mem (by omega))) tested As cs (Kd.C_below HS11.out HB12.out) hcs hsl b3 b5 (blk_below HX311.out HB12.out) (blk_below HX511.out HB12.out)).mono ?_); rintro e w13 ⟨rfl, hb13⟩; refine ⟨_, rfl, ?_⟩; rw [HR2.out]; have HB13 := Aside0.mk (below_step HB11.out (below_step HB12.out hb13)); have hc913 : w13.cell? ⟨b9, 0, none⟩ = some (.int .i64 (k : Int)) := (cell_of_row w13 b9 0 _ _ _ (blk_below (blk_below HX911.out HB12.out) hb13)).trans rfl; clear hb13))
            exact ⟨⟨k + 1, by simp, by omega, by rw [HST.out], ⟨below_step HB.out HB13.out⟩⟩, by simp [intOf]; omega⟩
    · obtain rfl : k = t.f2.length := by omega
      have HE : Aside0 (bestP t need tested = o) := ⟨HO.out⟩
      clear hrg
      go_wp2_with fail
      go_ret
      exact ⟨by rw [HE.out]; rfl, below_step HB5.out HB.out⟩
end Go.Proofs.Ytgjclhhjigflkab.Sc
