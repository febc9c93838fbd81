/- The walk of cover.best. -/
import Derived.Test.YtgjclhhjigflkabCvUsed
namespace Go.Proofs.Ytgjclhhjigflkab.Sc
open Go Go.RowKit Go.Proofs.Ytgjclhhjigflkab.C Go.Proofs.Ytgjclhhjigflkab.MyWords Go.Proofs.Ytgjclhhjigflkab.Hand Go.Proofs.YtgjclhhjigflkabW.PrintWords Go.Proofs.YtgjclhhjigflkabW.PrintLast Go.Proofs.YtgjclhhjigflkabW.PrintMore
set_option linter.unusedVariables false
set_option linter.unusedSimpArgs false
theorem lacks_fn {w : World} {t : Tab} {At : Option Addr} {ct : Nat} {Bt : Option Addr} {dt : Nat} (H : TA w t At ct Bt dt) (c p : Int) (b b9 : Nat) (hb : w.heap[b]? = some (.cells #[.string t.f0, .slice At t.f1.length ct, .slice Bt t.f2.length dt] TT (0, 0))) (hb9 : w.heap[b9]? = some (.cells #[.int .i64 p] 3 (0, 0))) :
    Calls Try.prog 126 #[.int .i64 c, .pointer (some ⟨b, 0, none⟩), .pointer (some ⟨b9, 0, none⟩)] w fun e w' => e = .returned (.bool (decide (placeP t p c < 0))) ∧ Below w.heap.size w w' := by
  have HB := Aside0.mk hb
  have hc9 : w.cell? ⟨b9, 0, none⟩ = some (.int .i64 p) := (cell_of_row w b9 0 _ _ _ hb9).trans rfl
  have HT := Aside0.mk H
  clear hb hb9 H
  go_enter Try.func126, Try.ntmps126
  go_wp2_with (first | ((with_reducible refine gate_dst (N := 5) rfl ?_); refine wpList_load_row rfl TT (.tmp 1) rfl b rfl TT #[.string t.f0, .slice At t.f1.length ct, .slice Bt t.f2.length dt] (0, 0) _ HB.out Try.underlying63 rfl size_T ?_))
  refine (place_calls HT.out p c).mono ?_
  rintro e w2 ⟨rfl, hb2⟩
  go_wp2_with fail
  go_ret
  exact ⟨rfl, hb2⟩
theorem at_prj {w : World} {t : Tab} {At : Option Addr} {ct : Nat} {Bt : Option Addr} {dt : Nat} (H : TA w t At ct Bt dt) (p : Nat) (hp : p < t.f2.length) : ∃ ad Ap cp, Bt = some ad ∧ (∀ j u, ([.string (t.f2[p]).f0, .slice Ap (t.f2[p]).f1.length cp, .int .i64 (t.f2[p]).f2] : List Value)[j]? = some u → w.cell? ((ad.add (p * 3)).add j) = some u) ∧ (t.f2[p]).f1.length ≤ cp ∧ Kd.C (Kd.int .i64) w Ap (t.f2[p]).f1.length (t.f2[p]).f1 := by
  obtain ⟨ad, c, hA, hcl, hK, hcc⟩ := at_cells H.p p hp
  obtain ⟨Ap, cp, rfl, h1, h2⟩ := k138_open hK
  exact ⟨ad, Ap, cp, hA, hcc, h1, h2⟩
set_option maxHeartbeats 2000000 in
set_option maxRecDepth 100000 in
theorem rank_fn {w : World} {t : Tab} {At : Option Addr} {ct : Nat} {Bt : Option Addr} {dt : Nat} (H : TA w t At ct Bt dt) (p : Nat) (hp : p < t.f2.length) (hc : 1 ≤ (t.f2[p]).f1.length) (tested : List Int) (As : Option Addr) (cs : Nat) (hs : Kd.C (Kd.int .i64) w As tested.length tested) (hcs : tested.length ≤ cs) (hsl : tested.length ≤ 1000000) (b bs : Nat) (hb : w.heap[b]? = some (.cells #[.string t.f0, .slice At t.f1.length ct, .slice Bt t.f2.length dt] TT (0, 0))) (hbs : w.heap[bs]? = some (.cells #[.slice As tested.length cs] 33 (0, 0))) :
    Calls Try.prog 125 #[.int .i64 (p : Int), .pointer (some ⟨b, 0, none⟩), .pointer (some ⟨bs, 0, none⟩)] w fun e w' => e = .returned (.int .i64 (rankP t tested p)) ∧ Below w.heap.size w w' := by
  obtain ⟨ad, Ap, cp, rfl, hcc, hcp, hC⟩ := at_prj H p hp
  have hlen := (H.g.ps _ (List.getElem_mem hp)).2
  have hpl := H.g.p
  have hq := prj_at t p hp
  obtain ⟨q, hqq⟩ : ∃ q, t.f2[p] = q := ⟨_, rfl⟩
  rw [hqq] at hc hcc hcp hC hlen hq
  have HQ := Aside0.mk hq
  have HCC := Aside0.mk hcc
  have HC := Aside0.mk hC
  have hc2 : w.cell? ⟨b, 2, none⟩ = some (.slice (some ad) t.f2.length dt) := (cell_of_row w b 2 _ _ _ hb).trans rfl
  have hcsb : w.cell? ⟨bs, 0, none⟩ = some (.slice As tested.length cs) := (cell_of_row w bs 0 _ _ _ hbs).trans rfl
  have hbsl := blk_lt hbs
  have HS := Aside0.mk hs
  obtain ⟨a0, hA0, hx0⟩ := Kd.at_int hC (0 : Int) (by omega) (by omega)
  subst hA0
  have hx0' : w.cell? a0 = some (.int .i64 (rd q.f1 0)) := by
    have e0 : a0.add (Int.toNat 0) = a0 := by unfold Addr.add; simp
    rwa [e0] at hx0
  have hc00 : 0 < q.f1.length := by omega
  have hrd : rd q.f1 0 = q.f1.getD 0 0 := rfl
  obtain ⟨x0, hxx⟩ : ∃ x, rd q.f1 0 = x := ⟨_, rfl⟩
  rw [hxx] at hx0' hrd
  have HX0 := Aside0.mk hx0'
  have HRD := Aside0.mk hrd
  obtain ⟨kk, hkk⟩ := (has_ev tested hsl x0).rounds
  have HKK := Aside0.mk hkk
  clear hcc hC hq hb hbs hs hx0 hx0' hrd hkk H hqq hxx
  go_enter Try.func125, Try.ntmps125
  go_wp2_with (first | ((with_reducible refine gate_dst (N := 11) rfl ?_); refine load_event rfl TP (.tmp 10) rfl (ad.add (p * 3)) ?e1 [.string q.f0, .slice (some a0) q.f1.length cp, .int .i64 q.f2] HCC.out _ Try.underlying138 rfl size_P ?_; (case e1 => first | rfl | (go_simp; done) | (go_simp; rfl))) | ((with_reducible refine gate_dst (N := 5) rfl ?_); refine box_event rfl (N := 5) rfl (cs := #[.string ⟨#[]⟩, .slice none 0 0, .int .i64 0]) (t := TP) ?hr ?_; (case hr => first | (go_simp; done) | (go_simp; rfl)); intro b5 hg5 w5 hb5 hB5; have HX5 := Aside0.mk hb5; have HB5 := Aside0.mk hB5; have HG5 := Aside0.mk (show w.heap.size ≤ b5 by rw [hg5]; exact Nat.le_refl _); clear hg5 hb5 hB5) | ((with_reducible refine gate_ (.store TP (.tmp 5) (.tmp 11)) rfl ?_); refine row_store_event rfl TP (.tmp 5) (.tmp 11) rfl b5 #[.string q.f0, .slice (some a0) q.f1.length cp, .int .i64 q.f2] rfl rfl TP _ HX5.out size_P rfl (all_one (cs := [.string q.f0, .slice (some a0) q.f1.length cp, .int .i64 q.f2]) (by intro u hu; simp at hu; rcases hu with rfl | rfl | rfl <;> rfl)) ?_; intro w6 hrs; have HX6 := Aside0.mk hrs.at_; have HB6 := Aside0.mk (hrs.below HB5.out HG5.out); have h51 : w6.cell? ⟨b5, 1, none⟩ = some (.slice (some a0) q.f1.length cp) := (cell_of_row w6 b5 1 _ _ _ hrs.at_).trans rfl; clear hrs hc2 HX5 HB5 HG5))
  have HC51 := Aside0.mk h51
  have HC52 : Aside0 (w6.cell? ⟨b5, 2, none⟩ = some (.int .i64 q.f2)) := ⟨(cell_of_row w6 b5 2 _ _ _ HX6.out).trans rfl⟩
  have HCS := Aside0.mk (pw_cell_below HB6.out hcsb)
  have HCX := Aside0.mk (pw_cell_below HB6.out HX0.out)
  clear h51 hcsb
  by_cases hk0 : q.f2 = 0
  · have HR : Aside0 (rankP t tested p = (q.f1.length : Int) + 8) := ⟨by unfold rankP sortedBy; rw [HQ.out, hk0]; simp⟩
    have g1 : (q.f2 == 0) = true := by simp [hk0]
    clear hk0
    go_wp2_with fail
    refine start_ (n := 12) (S := fun w' => w'.cell? ⟨b5, 2, none⟩ = some (.int .i64 q.f2)) (ds := []) #[Z,Z,Z,Z,Z,Z,Z,Z,Z,Z,Z,Z] (by kernel_rfl) rfl rfl (HC52.out) (fun hHeld => ?_)
    refine pure_ (i := 0) (N := (some 15)) (v := ?_) (a' := ?_) #[Y,Z,Z,Z,Z,Z,Z,Z,Z,Z,Z,Z] rfl rfl (by kernel_rfl) (fun _ _ _ h => h) (Or.inl ⟨by rfl, ?_⟩) ?_ ?_
    rotate_left
    · intro w'
      go_simp
      with_reducible rfl
    rotate_left
    · simp only [Act.put, List.setIfInBounds_toArray, List.set_cons_zero, List.set_cons_succ, i64_w, i32_w]
      rfl
    refine take_ (i := 1) (N := (some 16)) (v := ?_) (a' := ?_) #[Y,Y,Z,Z,Z,Z,Z,Z,Z,Z,Z,Z] rfl rfl (by kernel_rfl) (fun _ _ _ h => h) (Or.inl ⟨by rfl, ?_⟩) hHeld ?_ ?_
    rotate_left
    · intro w' s0
      go_simp
      with_reducible rfl
    rotate_left
    · simp only [Act.put, List.setIfInBounds_toArray, List.set_cons_zero, List.set_cons_succ, i64_w, i32_w]
      rfl
    refine pure_ (i := 2) (N := (some 17)) (v := ?_) (a' := ?_) #[Y,Y,Y,Z,Z,Z,Z,Z,Z,Z,Z,Z] rfl rfl (by kernel_rfl) (fun _ _ _ h => h) (Or.inl ⟨by rfl, ?_⟩) ?_ ?_
    rotate_left
    · intro w'
      go_simp
      with_reducible rfl
    rotate_left
    · simp only [Act.put, List.setIfInBounds_toArray, List.set_cons_zero, List.set_cons_succ, i64_w, i32_w]
      rfl
    refine pure_ (i := 3) (N := (some 18)) (v := ?_) (a' := ?_) #[Y,Y,Y,Y,Z,Z,Z,Z,Z,Z,Z,Z] rfl rfl (by kernel_rfl) (fun _ _ _ h => h) (Or.inl ⟨by rfl, ?_⟩) ?_ ?_
    rotate_left
    · intro w'
      go_simp
      with_reducible rfl
    rotate_left
    · simp only [Act.put, List.setIfInBounds_toArray, List.set_cons_zero, List.set_cons_succ, i64_w, i32_w]
      rfl
    refine pure_ (i := 4) (N := (some 19)) (v := undef) (a' := ?_) #[Y,Y,Y,Y,Y,Z,Z,Z,Z,Z,Z,Z] rfl rfl (by kernel_rfl) (fun _ _ _ h => h) (Or.inr ⟨by rfl, rfl⟩) ?_ ?_
    rotate_left
    · simp only [Act.put, List.setIfInBounds_toArray, List.set_cons_zero, List.set_cons_succ, i64_w, i32_w]
      rfl
    refine pure_ (i := 5) (N := (some 20)) (v := undef) (a' := ?_) #[Y,Y,Y,Y,Y,Y,Z,Z,Z,Z,Z,Z] rfl rfl (by kernel_rfl) (fun _ _ _ h => h) (Or.inr ⟨by rfl, rfl⟩) ?_ ?_
    rotate_left
    · simp only [Act.put, List.setIfInBounds_toArray, List.set_cons_zero, List.set_cons_succ, i64_w, i32_w]
      rfl
    refine pure_ (i := 6) (N := (some 21)) (v := undef) (a' := ?_) #[Y,Y,Y,Y,Y,Y,Y,Z,Z,Z,Z,Z] rfl rfl (by kernel_rfl) (fun _ _ _ h => h) (Or.inr ⟨by rfl, rfl⟩) ?_ ?_
    rotate_left
    · simp only [Act.put, List.setIfInBounds_toArray, List.set_cons_zero, List.set_cons_succ, i64_w, i32_w]
      rfl
    refine pure_ (i := 7) (N := (some 22)) (v := undef) (a' := ?_) #[Y,Y,Y,Y,Y,Y,Y,Y,Z,Z,Z,Z] rfl rfl (by kernel_rfl) (fun _ _ _ h => h) (Or.inr ⟨by rfl, rfl⟩) ?_ ?_
    rotate_left
    · simp only [Act.put, List.setIfInBounds_toArray, List.set_cons_zero, List.set_cons_succ, i64_w, i32_w]
      rfl
    refine pure_ (i := 8) (N := (some 23)) (v := undef) (a' := ?_) #[Y,Y,Y,Y,Y,Y,Y,Y,Y,Z,Z,Z] rfl rfl (by kernel_rfl) (fun _ _ _ h => h) (Or.inr ⟨by rfl, rfl⟩) ?_ ?_
    rotate_left
    · simp only [Act.put, List.setIfInBounds_toArray, List.set_cons_zero, List.set_cons_succ, i64_w, i32_w]
      rfl
    refine pure_ (i := 9) (N := (some 24)) (v := undef) (a' := ?_) #[Y,Y,Y,Y,Y,Y,Y,Y,Y,Y,Z,Z] rfl rfl (by kernel_rfl) (fun _ _ _ h => h) (Or.inr ⟨by rfl, rfl⟩) ?_ ?_
    rotate_left
    · simp only [Act.put, List.setIfInBounds_toArray, List.set_cons_zero, List.set_cons_succ, i64_w, i32_w]
      rfl
    refine pure_ (i := 10) (N := (some 25)) (v := undef) (a' := ?_) #[Y,Y,Y,Y,Y,Y,Y,Y,Y,Y,Y,Z] rfl rfl (by kernel_rfl) (fun _ _ _ h => h) (Or.inr ⟨by rfl, rfl⟩) ?_ ?_
    rotate_left
    · simp only [Act.put, List.setIfInBounds_toArray, List.set_cons_zero, List.set_cons_succ, i64_w, i32_w]
      rfl
    refine pure_ (i := 11) (N := (some 26)) (v := ?_) (a' := ?_) #[Y,Y,Y,Y,Y,Y,Y,Y,Y,Y,Y,Y] rfl rfl (by kernel_rfl) (fun _ _ _ h => h) (Or.inl ⟨by rfl, ?_⟩) ?_ ?_
    rotate_left
    · intro w'
      go_simp
      with_reducible rfl
    rotate_left
    · simp only [Act.put, List.setIfInBounds_toArray, List.set_cons_zero, List.set_cons_succ, i64_w, i32_w]
      rfl
    refine done_ (by kernel_rfl) ?_
    have h51 := HC51.out
    go_wp2_with fail
    go_ret
    exact ⟨by rw [HR.out]; rfl, below_drew HB6.out⟩
  · have g1 : (q.f2 == 0) = false := by simp [hk0]
    have HS6 := Aside0.mk (Kd.C_below HS.out HB6.out)
    by_cases hin : x0 ∈ tested
    · have HR : Aside0 (rankP t tested p = (q.f1.length : Int)) := ⟨by unfold rankP sortedBy; rw [HQ.out, ← HRD.out]; simp [hk0, hin]⟩
      rw [decide_eq_true hin] at HKK
      clear hk0 hin
      go_wp2_with fail
      refine start_ (n := 12) (S := fun w' => w'.cell? ⟨b5, 2, none⟩ = some (.int .i64 q.f2) ∧ w'.cell? ⟨bs, 0, none⟩ = some (.slice As tested.length cs) ∧ w'.cell? ⟨b5, 1, none⟩ = some (.slice (some a0) q.f1.length cp) ∧ w'.cell? a0 = some (.int .i64 x0)) (ds := []) #[Z,Z,Z,Z,Z,Z,Z,Z,Z,Z,Z,Z] (by kernel_rfl) rfl rfl (⟨HC52.out, HCS.out, HC51.out, HCX.out⟩) (fun hHeld => ?_)
      refine pure_ (i := 0) (N := (some 15)) (v := ?_) (a' := ?_) #[Y,Z,Z,Z,Z,Z,Z,Z,Z,Z,Z,Z] rfl rfl (by kernel_rfl) (fun _ _ _ h => h) (Or.inl ⟨by rfl, ?_⟩) ?_ ?_
      rotate_left
      · intro w'
        go_simp
        with_reducible rfl
      rotate_left
      · simp only [Act.put, List.setIfInBounds_toArray, List.set_cons_zero, List.set_cons_succ, i64_w, i32_w]
        rfl
      refine take_ (i := 1) (N := (some 16)) (v := ?_) (a' := ?_) #[Y,Y,Z,Z,Z,Z,Z,Z,Z,Z,Z,Z] rfl rfl (by kernel_rfl) (fun _ _ _ h => h) (Or.inl ⟨by rfl, ?_⟩) hHeld ?_ ?_
      rotate_left
      · intro w' s0
        go_simp
        with_reducible rfl
      rotate_left
      · simp only [Act.put, List.setIfInBounds_toArray, List.set_cons_zero, List.set_cons_succ, i64_w, i32_w]
        rfl
      refine pure_ (i := 2) (N := (some 17)) (v := ?_) (a' := ?_) #[Y,Y,Y,Z,Z,Z,Z,Z,Z,Z,Z,Z] rfl rfl (by kernel_rfl) (fun _ _ _ h => h) (Or.inl ⟨by rfl, ?_⟩) ?_ ?_
      rotate_left
      · intro w'
        go_simp
        with_reducible rfl
      rotate_left
      · simp only [Act.put, List.setIfInBounds_toArray, List.set_cons_zero, List.set_cons_succ, i64_w, i32_w]
        rfl
      refine pure_ (i := 3) (N := (some 18)) (v := ?_) (a' := ?_) #[Y,Y,Y,Y,Z,Z,Z,Z,Z,Z,Z,Z] rfl rfl (by kernel_rfl) (fun _ _ _ h => h) (Or.inl ⟨by rfl, ?_⟩) ?_ ?_
      rotate_left
      · intro w'
        go_simp
        with_reducible rfl
      rotate_left
      · simp only [Act.put, List.setIfInBounds_toArray, List.set_cons_zero, List.set_cons_succ, i64_w, i32_w]
        rfl
      refine take_ (i := 4) (N := (some 19)) (v := ?_) (a' := ?_) #[Y,Y,Y,Y,Y,Z,Z,Z,Z,Z,Z,Z] rfl rfl (by kernel_rfl) (fun _ _ _ h => h) (Or.inl ⟨by rfl, ?_⟩) hHeld ?_ ?_
      rotate_left
      · intro w' s0
        go_simp
        with_reducible rfl
      rotate_left
      · simp only [Act.put, List.setIfInBounds_toArray, List.set_cons_zero, List.set_cons_succ, i64_w, i32_w]
        rfl
      refine pure_ (i := 5) (N := (some 20)) (v := ?_) (a' := ?_) #[Y,Y,Y,Y,Y,Y,Z,Z,Z,Z,Z,Z] rfl rfl (by kernel_rfl) (fun _ _ _ h => h) (Or.inl ⟨by rfl, ?_⟩) ?_ ?_
      rotate_left
      · intro w'
        go_simp
        with_reducible rfl
      rotate_left
      · simp only [Act.put, List.setIfInBounds_toArray, List.set_cons_zero, List.set_cons_succ, i64_w, i32_w]
        rfl
      refine take_ (i := 6) (N := (some 21)) (v := ?_) (a' := ?_) #[Y,Y,Y,Y,Y,Y,Y,Z,Z,Z,Z,Z] rfl rfl (by kernel_rfl) (fun _ _ _ h => h) (Or.inl ⟨by rfl, ?_⟩) hHeld ?_ ?_
      rotate_left
      · intro w' s0
        go_simp
        with_reducible rfl
      rotate_left
      · simp only [Act.put, List.setIfInBounds_toArray, List.set_cons_zero, List.set_cons_succ, i64_w, i32_w]
        rfl
      refine pure_ (i := 7) (N := (some 22)) (v := ?_) (a' := ?_) #[Y,Y,Y,Y,Y,Y,Y,Y,Z,Z,Z,Z] rfl rfl (by kernel_rfl) (fun _ _ _ h => h) (Or.inl ⟨by rfl, ?_⟩) ?_ ?_
      rotate_left
      · intro w'
        go_simp
        with_reducible rfl
      rotate_left
      · simp only [Act.put, List.setIfInBounds_toArray, List.set_cons_zero, List.set_cons_succ, i64_w, i32_w]
        rfl
      refine take_ (i := 8) (N := (some 23)) (v := ?_) (a' := ?_) #[Y,Y,Y,Y,Y,Y,Y,Y,Y,Z,Z,Z] rfl rfl (by kernel_rfl) (fun _ _ _ h => h) (Or.inl ⟨by rfl, ?_⟩) hHeld ?_ ?_
      rotate_left
      · intro w' s0
        go_simp
        with_reducible rfl
      rotate_left
      · simp only [Act.put, List.setIfInBounds_toArray, List.set_cons_zero, List.set_cons_succ, i64_w, i32_w]
        rfl
      refine one_ (i := 9) (N := (some 24)) #[Y,Y,Y,Y,Y,Y,Y,Y,Y,Y,Z,Z] rfl rfl (by kernel_rfl) (by decide) (fun K hK => ?_)
      refine goes_ Try.func65 (by kernel_rfl) rfl #[.slice As tested.length cs, .int .i64 x0] (by rfl) rfl rfl (by (try simp only [List.map_toArray, List.map_cons, List.map_nil]); first | done | rfl) ?_
      refine (slices_Contains_int_int.calls kk As cs tested x0 true _ (Kd.C_drew HS6.out) hcs HKK.out).mono ?_
      rintro e w7 ⟨rfl, hd7⟩
      have HB7 := Aside0.mk (show Below w6.heap.size w6 w7 from below_then (below_drew (Below.refl _ _)) (Nat.le_refl _) hd7.below)
      refine ⟨_, rfl, ?_⟩
      refine hK.out _ _ ⟨pw_cell_below HB7.out HC52.out, pw_cell_below HB7.out HCS.out, pw_cell_below HB7.out HC51.out, pw_cell_below HB7.out HCX.out⟩ (fun hHeld => ?_)
      clear hd7
      clear hK K
      refine norm_ (a' := ?_) ?_ ?_
      rotate_left
      · show Act.put _ (some 24) _ = _
        simp only [Act.put, List.setIfInBounds_toArray, List.set_cons_zero, List.set_cons_succ, i64_w, i32_w]
        rfl
      refine pure_ (i := 10) (N := (some 25)) (v := ?_) (a' := ?_) #[Y,Y,Y,Y,Y,Y,Y,Y,Y,Y,Y,Z] rfl rfl (by kernel_rfl) (fun _ _ _ h => h) (Or.inl ⟨by rfl, ?_⟩) ?_ ?_
      rotate_left
      · intro w'
        go_simp
        with_reducible rfl
      rotate_left
      · simp only [Act.put, List.setIfInBounds_toArray, List.set_cons_zero, List.set_cons_succ, i64_w, i32_w]
        rfl
      refine pure_ (i := 11) (N := (some 26)) (v := ?_) (a' := ?_) #[Y,Y,Y,Y,Y,Y,Y,Y,Y,Y,Y,Y] rfl rfl (by kernel_rfl) (fun _ _ _ h => h) (Or.inl ⟨by rfl, ?_⟩) ?_ ?_
      rotate_left
      · intro w'
        go_simp
        with_reducible rfl
      rotate_left
      · simp only [Act.put, List.setIfInBounds_toArray, List.set_cons_zero, List.set_cons_succ, i64_w, i32_w]
        rfl
      refine done_ (by kernel_rfl) ?_
      go_wp2_with fail
      go_ret
      exact ⟨by rw [HR.out]; rfl, below_step HB6.out HB7.out⟩
    · have HR : Aside0 (rankP t tested p = (q.f1.length : Int) + 8) := ⟨by unfold rankP sortedBy; rw [HQ.out, ← HRD.out]; simp [hk0, hin]⟩
      rw [decide_eq_false hin] at HKK
      clear hk0 hin
      go_wp2_with fail
      refine start_ (n := 12) (S := fun w' => w'.cell? ⟨b5, 2, none⟩ = some (.int .i64 q.f2) ∧ w'.cell? ⟨bs, 0, none⟩ = some (.slice As tested.length cs) ∧ w'.cell? ⟨b5, 1, none⟩ = some (.slice (some a0) q.f1.length cp) ∧ w'.cell? a0 = some (.int .i64 x0)) (ds := []) #[Z,Z,Z,Z,Z,Z,Z,Z,Z,Z,Z,Z] (by kernel_rfl) rfl rfl (⟨HC52.out, HCS.out, HC51.out, HCX.out⟩) (fun hHeld => ?_)
      refine pure_ (i := 0) (N := (some 15)) (v := ?_) (a' := ?_) #[Y,Z,Z,Z,Z,Z,Z,Z,Z,Z,Z,Z] rfl rfl (by kernel_rfl) (fun _ _ _ h => h) (Or.inl ⟨by rfl, ?_⟩) ?_ ?_
      rotate_left
      · intro w'
        go_simp
        with_reducible rfl
      rotate_left
      · simp only [Act.put, List.setIfInBounds_toArray, List.set_cons_zero, List.set_cons_succ, i64_w, i32_w]
        rfl
      refine take_ (i := 1) (N := (some 16)) (v := ?_) (a' := ?_) #[Y,Y,Z,Z,Z,Z,Z,Z,Z,Z,Z,Z] rfl rfl (by kernel_rfl) (fun _ _ _ h => h) (Or.inl ⟨by rfl, ?_⟩) hHeld ?_ ?_
      rotate_left
      · intro w' s0
        go_simp
        with_reducible rfl
      rotate_left
      · simp only [Act.put, List.setIfInBounds_toArray, List.set_cons_zero, List.set_cons_succ, i64_w, i32_w]
        rfl
      refine pure_ (i := 2) (N := (some 17)) (v := ?_) (a' := ?_) #[Y,Y,Y,Z,Z,Z,Z,Z,Z,Z,Z,Z] rfl rfl (by kernel_rfl) (fun _ _ _ h => h) (Or.inl ⟨by rfl, ?_⟩) ?_ ?_
      rotate_left
      · intro w'
        go_simp
        with_reducible rfl
      rotate_left
      · simp only [Act.put, List.setIfInBounds_toArray, List.set_cons_zero, List.set_cons_succ, i64_w, i32_w]
        rfl
      refine pure_ (i := 3) (N := (some 18)) (v := ?_) (a' := ?_) #[Y,Y,Y,Y,Z,Z,Z,Z,Z,Z,Z,Z] rfl rfl (by kernel_rfl) (fun _ _ _ h => h) (Or.inl ⟨by rfl, ?_⟩) ?_ ?_
      rotate_left
      · intro w'
        go_simp
        with_reducible rfl
      rotate_left
      · simp only [Act.put, List.setIfInBounds_toArray, List.set_cons_zero, List.set_cons_succ, i64_w, i32_w]
        rfl
      refine take_ (i := 4) (N := (some 19)) (v := ?_) (a' := ?_) #[Y,Y,Y,Y,Y,Z,Z,Z,Z,Z,Z,Z] rfl rfl (by kernel_rfl) (fun _ _ _ h => h) (Or.inl ⟨by rfl, ?_⟩) hHeld ?_ ?_
      rotate_left
      · intro w' s0
        go_simp
        with_reducible rfl
      rotate_left
      · simp only [Act.put, List.setIfInBounds_toArray, List.set_cons_zero, List.set_cons_succ, i64_w, i32_w]
        rfl
      refine pure_ (i := 5) (N := (some 20)) (v := ?_) (a' := ?_) #[Y,Y,Y,Y,Y,Y,Z,Z,Z,Z,Z,Z] rfl rfl (by kernel_rfl) (fun _ _ _ h => h) (Or.inl ⟨by rfl, ?_⟩) ?_ ?_
      rotate_left
      · intro w'
        go_simp
        with_reducible rfl
      rotate_left
      · simp only [Act.put, List.setIfInBounds_toArray, List.set_cons_zero, List.set_cons_succ, i64_w, i32_w]
        rfl
      refine take_ (i := 6) (N := (some 21)) (v := ?_) (a' := ?_) #[Y,Y,Y,Y,Y,Y,Y,Z,Z,Z,Z,Z] rfl rfl (by kernel_rfl) (fun _ _ _ h => h) (Or.inl ⟨by rfl, ?_⟩) hHeld ?_ ?_
      rotate_left
      · intro w' s0
        go_simp
        with_reducible rfl
      rotate_left
      · simp only [Act.put, List.setIfInBounds_toArray, List.set_cons_zero, List.set_cons_succ, i64_w, i32_w]
        rfl
      refine pure_ (i := 7) (N := (some 22)) (v := ?_) (a' := ?_) #[Y,Y,Y,Y,Y,Y,Y,Y,Z,Z,Z,Z] rfl rfl (by kernel_rfl) (fun _ _ _ h => h) (Or.inl ⟨by rfl, ?_⟩) ?_ ?_
      rotate_left
      · intro w'
        go_simp
        with_reducible rfl
      rotate_left
      · simp only [Act.put, List.setIfInBounds_toArray, List.set_cons_zero, List.set_cons_succ, i64_w, i32_w]
        rfl
      refine take_ (i := 8) (N := (some 23)) (v := ?_) (a' := ?_) #[Y,Y,Y,Y,Y,Y,Y,Y,Y,Z,Z,Z] rfl rfl (by kernel_rfl) (fun _ _ _ h => h) (Or.inl ⟨by rfl, ?_⟩) hHeld ?_ ?_
      rotate_left
      · intro w' s0
        go_simp
        with_reducible rfl
      rotate_left
      · simp only [Act.put, List.setIfInBounds_toArray, List.set_cons_zero, List.set_cons_succ, i64_w, i32_w]
        rfl
      refine one_ (i := 9) (N := (some 24)) #[Y,Y,Y,Y,Y,Y,Y,Y,Y,Y,Z,Z] rfl rfl (by kernel_rfl) (by decide) (fun K hK => ?_)
      refine goes_ Try.func65 (by kernel_rfl) rfl #[.slice As tested.length cs, .int .i64 x0] (by rfl) rfl rfl (by (try simp only [List.map_toArray, List.map_cons, List.map_nil]); first | done | rfl) ?_
      refine (slices_Contains_int_int.calls kk As cs tested x0 false _ (Kd.C_drew HS6.out) hcs HKK.out).mono ?_
      rintro e w7 ⟨rfl, hd7⟩
      have HB7 := Aside0.mk (show Below w6.heap.size w6 w7 from below_then (below_drew (Below.refl _ _)) (Nat.le_refl _) hd7.below)
      refine ⟨_, rfl, ?_⟩
      refine hK.out _ _ ⟨pw_cell_below HB7.out HC52.out, pw_cell_below HB7.out HCS.out, pw_cell_below HB7.out HC51.out, pw_cell_below HB7.out HCX.out⟩ (fun hHeld => ?_)
      clear hd7
      clear hK K
      refine norm_ (a' := ?_) ?_ ?_
      rotate_left
      · show Act.put _ (some 24) _ = _
        simp only [Act.put, List.setIfInBounds_toArray, List.set_cons_zero, List.set_cons_succ, i64_w, i32_w]
        rfl
      refine pure_ (i := 10) (N := (some 25)) (v := ?_) (a' := ?_) #[Y,Y,Y,Y,Y,Y,Y,Y,Y,Y,Y,Z] rfl rfl (by kernel_rfl) (fun _ _ _ h => h) (Or.inl ⟨by rfl, ?_⟩) ?_ ?_
      rotate_left
      · intro w'
        go_simp
        with_reducible rfl
      rotate_left
      · simp only [Act.put, List.setIfInBounds_toArray, List.set_cons_zero, List.set_cons_succ, i64_w, i32_w]
        rfl
      refine pure_ (i := 11) (N := (some 26)) (v := ?_) (a' := ?_) #[Y,Y,Y,Y,Y,Y,Y,Y,Y,Y,Y,Y] rfl rfl (by kernel_rfl) (fun _ _ _ h => h) (Or.inl ⟨by rfl, ?_⟩) ?_ ?_
      rotate_left
      · intro w'
        go_simp
        with_reducible rfl
      rotate_left
      · simp only [Act.put, List.setIfInBounds_toArray, List.set_cons_zero, List.set_cons_succ, i64_w, i32_w]
        rfl
      refine done_ (by kernel_rfl) ?_
      go_wp2_with fail
      go_ret
      exact ⟨by rw [HR.out]; rfl, below_step HB6.out HB7.out⟩
end Go.Proofs.Ytgjclhhjigflkab.Sc
