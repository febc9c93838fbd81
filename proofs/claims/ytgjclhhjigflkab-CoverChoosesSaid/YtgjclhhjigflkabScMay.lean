/- The walks of schema.Super, whole, may, Check. (Written by genmay.py.) -/
import Derived.Test.YtgjclhhjigflkabScCheck
namespace Go.Proofs.Ytgjclhhjigflkab.Sc
open Go Go.RowKit Go.Proofs.Ytgjclhhjigflkab.C Go.Proofs.Ytgjclhhjigflkab.MyWords Go.Proofs.Ytgjclhhjigflkab.Hand Go.Proofs.YtgjclhhjigflkabW.PrintWords Go.Proofs.YtgjclhhjigflkabW.PrintLast Go.Proofs.YtgjclhhjigflkabW.PrintMore
set_option linter.unusedVariables false
set_option linter.unusedSimpArgs false
theorem size_T : (Try.prog.info? TT).map (·.size) = some 3 := by kernel_rfl
theorem size_P : (Try.prog.info? TP).map (·.size) = some 3 := by kernel_rfl
theorem superP_not (t : Tab) (p : Prj) (k : Nat) (hk : k < t.f1.length) (h : ¬ (k : Int) ∈ p.f1) : superP t p = false := by
  unfold superP
  have : (List.range t.f1.length).all (fun (c : Nat) => decide ((c : Int) ∈ p.f1)) = false := by
    rw [List.all_eq_false]
    exact ⟨k, List.mem_range.2 hk, by simpa using h⟩
  rw [this]
  rfl
theorem superP_all (t : Tab) (p : Prj) (h : ∀ k, k < t.f1.length → (k : Int) ∈ p.f1) : superP t p = decide (p.f1.length = t.f1.length) := by
  unfold superP
  have : (List.range t.f1.length).all (fun (c : Nat) => decide ((c : Int) ∈ p.f1)) = true := by
    rw [List.all_eq_true]
    exact fun k hk => decide_eq_true (h k (List.mem_range.1 hk))
  rw [this]
  rfl
set_option maxHeartbeats 2000000 in
set_option maxRecDepth 100000 in
theorem super_calls (t : Tab) (At : Option Addr) (ct : Nat) (Bt : Option Addr) (dt : Nat) (p : Prj) (Ap : Option Addr) (cp : Nat) (w : World) (hp : Kd.C (Kd.int .i64) w Ap p.f1.length p.f1) (hcp : p.f1.length ≤ cp) (hl : p.f1.length ≤ 1000000) (hlt : t.f1.length ≤ 1000000) :
    Calls Try.prog 173 #[.agg #[.string t.f0, .slice At t.f1.length ct, .slice Bt t.f2.length dt], .agg #[.string p.f0, .slice Ap p.f1.length cp, .int .i64 p.f2]] w fun e w' => e = .returned (.bool (superP t p)) ∧ Below w.heap.size w w' := by
  have HP := Aside0.mk hp
  clear hp
  go_enter Try.func173, Try.ntmps173
  go_wp2_with (first | ((with_reducible refine gate_dst (N := 2) rfl ?_); refine box_event rfl (N := 2) rfl (cs := #[.string t.f0, .slice At t.f1.length ct, .slice Bt t.f2.length dt]) (t := TT) ?hr ?_; (case hr => first | (go_simp; done) | (go_simp; rfl)); intro b2 hgb2 w2 hb2 hBb2; have HXb2 := Aside0.mk hb2; have HBb2 := Aside0.mk hBb2; clear hgb2 hb2 hBb2) | ((with_reducible refine gate_dst (N := 3) rfl ?_); refine box_event rfl (N := 3) rfl (cs := #[.string p.f0, .slice Ap p.f1.length cp, .int .i64 p.f2]) (t := TP) ?hr ?_; (case hr => first | (go_simp; done) | (go_simp; rfl)); intro b3 hgb3 w3 hb3 hBb3; have HXb3 := Aside0.mk hb3; have HBb3 := Aside0.mk hBb3; have HX23 := Aside0.mk (blk_below HXb2.out hBb3); have hc21w3 : w3.cell? ⟨b2, 1, none⟩ = some (.slice At t.f1.length ct) := (cell_of_row w3 b2 1 _ _ _ HX23.out).trans rfl; clear hgb3 hb3 hBb3))
  have HB0 := Aside0.mk (below_step HBb2.out HBb3.out)
  clear HXb2
  go_loopw [9] (fun v9 wr => ∃ k : Nat, v9 = .int .i64 (k : Int) ∧ k ≤ t.f1.length ∧ Aside0 (∀ i, i < k → (i : Int) ∈ p.f1) ∧ Aside0 (Below w3.heap.size w3 wr)) (fun v9 _ => t.f1.length - (intOf v9).toNat)
  case atStart => exact ⟨0, rfl, Nat.zero_le _, ⟨fun i hi => absurd hi (by omega)⟩, ⟨Below.refl _ _⟩⟩
  case round =>
    obtain ⟨k, rfl, hk, HI, HB⟩ := hrel
    have HX2 := Aside0.mk (blk_below HX23.out HB.out)
    have HX3 := Aside0.mk (blk_below HXb3.out HB.out)
    have hc31 : wr.cell? ⟨b3, 1, none⟩ = some (.slice Ap p.f1.length cp) := (cell_of_row wr b3 1 _ _ _ HX3.out).trans rfl
    have hc21 : wr.cell? ⟨b2, 1, none⟩ = some (.slice At t.f1.length ct) := (cell_of_row wr b2 1 _ _ _ HX2.out).trans rfl
    clear hc21w3
    by_cases hkl : k < t.f1.length
    · obtain ⟨kk, hkk⟩ := (has_ev p.f1 hl (k : Int)).rounds
      by_cases hin : (k : Int) ∈ p.f1
      · rw [decide_eq_true hin] at hkk
        have HKK := Aside0.mk hkk
        have HIN := Aside0.mk hin
        clear hkk hin
        go_wp2_with fail
        refine (slices_Contains_int_int.calls kk Ap cp p.f1 (k : Int) true _ (Kd.C_below HP.out (below_step HB0.out HB.out)) hcp HKK.out).mono ?_
        rintro e w5 ⟨rfl, hd5⟩
        have HB5 := Aside0.mk (below_step HB.out hd5.below)
        clear hd5 hc31 hc21
        go_wp2_with fail
        exact ⟨⟨k + 1, by simp, by omega, ⟨fun i hi => by
          by_cases e : i = k
          · subst e; exact HIN.out
          · exact HI.out i (by omega)⟩, HB5⟩, by simp [intOf]; omega⟩
      · rw [decide_eq_false hin] at hkk
        have HKK := Aside0.mk hkk
        have HS := Aside0.mk (superP_not t p k hkl hin)
        clear hkk hin
        go_wp2_with fail
        refine (slices_Contains_int_int.calls kk Ap cp p.f1 (k : Int) false _ (Kd.C_below HP.out (below_step HB0.out HB.out)) hcp HKK.out).mono ?_
        rintro e w5 ⟨rfl, hd5⟩
        have HB5 := Aside0.mk (below_step HB.out hd5.below)
        clear hd5
        go_wp2_with fail
        go_ret
        exact ⟨by rw [HS.out]; rfl, below_step HB0.out HB5.out⟩
    · obtain rfl : k = t.f1.length := by omega
      have HS := Aside0.mk (superP_all t p HI.out)
      by_cases he : p.f1.length = t.f1.length
      · have e1 : (((p.f1.length : Nat) : Int) == ((t.f1.length : Nat) : Int)) = true := by simp [he]
        have e2 : (p.f1.length == t.f1.length) = true := by simp [he]
        have HE := Aside0.mk he
        clear he
        go_wp2_with fail
        go_ret
        exact ⟨by rw [HS.out, decide_eq_true HE.out]; rfl, below_step HB0.out HB.out⟩
      · have e1 : (((p.f1.length : Nat) : Int) == ((t.f1.length : Nat) : Int)) = false := by simp; omega
        have e2 : (p.f1.length == t.f1.length) = false := by simp [he]
        have HE := Aside0.mk he
        clear he
        go_wp2_with fail
        go_ret
        exact ⟨by rw [HS.out, decide_eq_false HE.out]; rfl, below_step HB0.out HB.out⟩
/-- a table's parts are few, its names are texts -/
structure GT (t : Tab) : Prop where
  s : t.f0.size ≤ 9223372036854775807
  c : t.f1.length ≤ 1000000
  p : t.f2.length ≤ 1000000
  cs : ∀ x ∈ t.f1, x.f0.size ≤ 9223372036854775807
  ps : ∀ x ∈ t.f2, x.f0.size ≤ 9223372036854775807 ∧ x.f1.length ≤ 1000000
/-! whole -/
theorem whole_fn (t : Tab) (At : Option Addr) (ct : Nat) (Bt : Option Addr) (dt : Nat) (p : Prj) (c : List Value) (b : Nat) (w : World) (hK : kP.K w p c) (hl : p.f1.length ≤ 1000000) (hlt : t.f1.length ≤ 1000000) (hb : w.heap[b]? = some (.cells #[.string t.f0, .slice At t.f1.length ct, .slice Bt t.f2.length dt] TT (0, 0))) :
    Calls Try.prog 172 #[.agg c.toArray, .pointer (some ⟨b, 0, none⟩)] w fun e w' => e = .returned (.bool (superP t p)) ∧ Below w.heap.size w w' := by
  obtain ⟨Ap, cp, rfl, hcp, hC⟩ := k138_open hK
  have HC := Aside0.mk hC
  have HT := Aside0.mk hb
  clear hK hC hb
  go_enter Try.func172, Try.ntmps172
  go_wp2_with (first | ((with_reducible refine gate_dst (N := 2) rfl ?_); refine box_event rfl (N := 2) rfl (cs := #[.string p.f0, .slice Ap p.f1.length cp, .int .i64 p.f2]) (t := TP) ?hr ?_; (case hr => first | (go_simp; done) | (go_simp; rfl)); intro b2 hgb2 w2 hb2 hBb2; have HXb2 := Aside0.mk hb2; have HBb2 := Aside0.mk hBb2; have HT2 := Aside0.mk (blk_below HT.out hBb2); clear hgb2 hb2 hBb2) | ((with_reducible refine gate_dst (N := 4) rfl ?_); refine wpList_load_row rfl TT (.tmp 1) rfl b rfl TT #[.string t.f0, .slice At t.f1.length ct, .slice Bt t.f2.length dt] (0, 0) _ HT2.out Try.underlying63 rfl size_T ?_) | ((with_reducible refine gate_dst (N := 5) rfl ?_); refine wpList_load_row rfl TP (.tmp 2) rfl b2 rfl TP #[.string p.f0, .slice Ap p.f1.length cp, .int .i64 p.f2] (0, 0) _ HXb2.out Try.underlying138 rfl size_P ?_))
  refine (super_calls t At ct Bt dt p Ap cp _ (Kd.C_below HC.out HBb2.out) hcp hl hlt).mono ?_
  rintro e w3 ⟨rfl, hb3⟩
  go_wp2_with fail
  go_ret
  exact ⟨rfl, below_step HBb2.out hb3⟩
theorem whole_calls (t : Tab) (At : Option Addr) (ct : Nat) (Bt : Option Addr) (dt : Nat) (w : World) (hp : Kd.C kP w Bt t.f2.length t.f2) (hdt : t.f2.length ≤ dt) (hg : GT t) :
    Calls Try.prog 155 #[.agg #[.string t.f0, .slice At t.f1.length ct, .slice Bt t.f2.length dt]] w fun e w' => e = .returned (.bool (t.f2.any (superP t))) ∧ Below w.heap.size w w' := by
  have HP := Aside0.mk hp
  have HG := Aside0.mk hg
  clear hp hg
  go_enter Try.func155, Try.ntmps155
  go_wp2_with (first | ((with_reducible refine gate_dst (N := 1) rfl ?_); refine box_event rfl (N := 1) rfl (cs := #[.string t.f0, .slice At t.f1.length ct, .slice Bt t.f2.length dt]) (t := TT) ?hr ?_; (case hr => first | (go_simp; done) | (go_simp; rfl)); intro b1 hgb1 w1 hb1 hBb1; have HXb1 := Aside0.mk hb1; have HBb1 := Aside0.mk hBb1; have hc12 : w1.cell? ⟨b1, 2, none⟩ = some (.slice Bt t.f2.length dt) := (cell_of_row w1 b1 2 _ _ _ hb1).trans rfl; clear hgb1 hb1 hBb1))
  refine (contains_proj (.func (.func 172) #[] #[.pointer (some ⟨b1, 0, none⟩)]) (superP t) Bt dt t.f2 _ (Kd.C_below HP.out HBb1.out) hdt (by have := HG.out.p; omega) (fun i hi c w2 hb hcl hk => CallsV.of Try.func172 (by kernel_rfl) rfl (whole_fn t At ct Bt dt t.f2[i] c b1 w2 hk (HG.out.ps _ (List.getElem_mem hi)).2 HG.out.c (blk_below HXb1.out hb)))).mono ?_
  rintro e w3 ⟨rfl, hb3⟩
  go_wp2_with fail
  go_ret
  exact ⟨rfl, below_step HBb1.out hb3⟩
/-! may -/
theorem may_fn (t : Tab) (At : Option Addr) (ct : Nat) (Bt : Option Addr) (dt : Nat) (p : Prj) (c : List Value) (b : Nat) (w : World) (hK : kP.K w p c) (hl : p.f1.length ≤ 1000000) (hs : p.f0.size ≤ 9223372036854775807) (hlt : t.f1.length ≤ 1000000) (hb : w.heap[b]? = some (.cells #[.string t.f0, .slice At t.f1.length ct, .slice Bt t.f2.length dt] TT (0, 0))) :
    Calls Try.prog 151 #[.agg c.toArray, .pointer (some ⟨b, 0, none⟩)] w fun e w' => e = .returned (.bool (!projP p t.f1.length)) ∧ Below w.heap.size w w' := by
  obtain ⟨Ap, cp, rfl, hcp, hC⟩ := k138_open hK
  have HC := Aside0.mk hC
  have HT := Aside0.mk hb
  clear hK hC hb
  go_enter Try.func151, Try.ntmps151
  go_wp2_with (first | ((with_reducible refine gate_dst (N := 2) rfl ?_); refine box_event rfl (N := 2) rfl (cs := #[.string p.f0, .slice Ap p.f1.length cp, .int .i64 p.f2]) (t := TP) ?hr ?_; (case hr => first | (go_simp; done) | (go_simp; rfl)); intro b2 hgb2 w2 hb2 hBb2; have HXb2 := Aside0.mk hb2; have HBb2 := Aside0.mk hBb2; have hct1 : w2.cell? ⟨b, 1, none⟩ = some (.slice At t.f1.length ct) := (cell_of_row w2 b 1 _ _ _ (blk_below HT.out hBb2)).trans rfl; clear hgb2 hb2 hBb2) | ((with_reducible refine gate_dst (N := 4) rfl ?_); refine wpList_load_row rfl TP (.tmp 2) rfl b2 rfl TP #[.string p.f0, .slice Ap p.f1.length cp, .int .i64 p.f2] (0, 0) _ HXb2.out Try.underlying138 rfl size_P ?_))
  refine (projects_calls p Ap cp (t.f1.length : Int) _ (Kd.C_below HC.out HBb2.out) hcp hl hs (by omega)).mono ?_
  rintro e w3 ⟨rfl, hb3⟩
  go_wp2_with fail
  go_ret
  exact ⟨rfl, below_step HBb2.out hb3⟩
set_option maxHeartbeats 4000000 in
set_option maxRecDepth 100000 in
theorem may_calls (t : Tab) (At : Option Addr) (ct : Nat) (Bt : Option Addr) (dt : Nat) (w : World) (hc : Kd.C kC w At t.f1.length t.f1) (hct : t.f1.length ≤ ct) (hp : Kd.C kP w Bt t.f2.length t.f2) (hdt : t.f2.length ≤ dt) (hg : GT t) :
    Calls Try.prog 118 #[.agg #[.string t.f0, .slice At t.f1.length ct, .slice Bt t.f2.length dt]] w fun e w' => e = .returned (.bool (mayP t)) ∧ Below w.heap.size w w' := by
  have HC := Aside0.mk hc
  have HP := Aside0.mk hp
  have HG := Aside0.mk hg
  clear hc hp hg
  cases h0 : t.f2.all (fun p => projP p t.f1.length) with
  | false =>
    have E0 := Aside0.mk h0
    have HM : Aside0 (mayP t = false) := ⟨by unfold mayP; rw [h0]; rfl⟩
    clear h0
    go_enter Try.func118, Try.ntmps118
    go_wp2_with (first | ((with_reducible refine gate_dst (N := 1) rfl ?_); refine box_event rfl (N := 1) rfl (cs := #[.string t.f0, .slice At t.f1.length ct, .slice Bt t.f2.length dt]) (t := TT) ?hr ?_; (case hr => first | (go_simp; done) | (go_simp; rfl)); intro b1 hgb1 w1 hb1 hBb1; have HXb1 := Aside0.mk hb1; have HBb1 := Aside0.mk hBb1; have hc2w1 : w1.cell? ⟨b1, 2, none⟩ = some (.slice Bt t.f2.length dt) := (cell_of_row w1 b1 2 _ _ _ hb1).trans rfl; clear hgb1 hb1 hBb1))
    refine (contains_proj (.func (.func 151) #[] #[.pointer (some ⟨b1, 0, none⟩)]) (fun p => !projP p t.f1.length) Bt dt t.f2 _ (Kd.C_below HP.out HBb1.out) hdt (by have := HG.out.p; omega) (fun i hi c w2 hb hcl hk => CallsV.of Try.func151 (by kernel_rfl) rfl (may_fn t At ct Bt dt t.f2[i] c b1 w2 hk (HG.out.ps _ (List.getElem_mem hi)).2 (HG.out.ps _ (List.getElem_mem hi)).1 HG.out.c (blk_below HXb1.out hb)))).mono ?_
    rintro e w2 ⟨rfl, hb2⟩
    rw [any_not, E0.out]
    have HB2 := Aside0.mk (below_step HBb1.out hb2)
    have HX2 := Aside0.mk (blk_below HXb1.out hb2)
    clear hb2 hc2w1
    have hc0w2 : w2.cell? ⟨b1, 0, none⟩ = some (.string t.f0) := (cell_of_row w2 b1 0 _ _ _ HX2.out).trans rfl
    have hc1w2 : w2.cell? ⟨b1, 1, none⟩ = some (.slice At t.f1.length ct) := (cell_of_row w2 b1 1 _ _ _ HX2.out).trans rfl
    have hc2w2 : w2.cell? ⟨b1, 2, none⟩ = some (.slice Bt t.f2.length dt) := (cell_of_row w2 b1 2 _ _ _ HX2.out).trans rfl
    go_wp2_with fail
    go_ret
    exact ⟨by rw [HM.out]; rfl, HB2.out⟩
  | true =>
  have E0 := Aside0.mk h0
  cases h1 : nameP t.f0 with
  | false =>
    have E1 := Aside0.mk h1
    have HM : Aside0 (mayP t = false) := ⟨by unfold mayP; rw [h0, h1]; rfl⟩
    clear h0 h1
    go_enter Try.func118, Try.ntmps118
    go_wp2_with (first | ((with_reducible refine gate_dst (N := 1) rfl ?_); refine box_event rfl (N := 1) rfl (cs := #[.string t.f0, .slice At t.f1.length ct, .slice Bt t.f2.length dt]) (t := TT) ?hr ?_; (case hr => first | (go_simp; done) | (go_simp; rfl)); intro b1 hgb1 w1 hb1 hBb1; have HXb1 := Aside0.mk hb1; have HBb1 := Aside0.mk hBb1; have hc2w1 : w1.cell? ⟨b1, 2, none⟩ = some (.slice Bt t.f2.length dt) := (cell_of_row w1 b1 2 _ _ _ hb1).trans rfl; clear hgb1 hb1 hBb1))
    refine (contains_proj (.func (.func 151) #[] #[.pointer (some ⟨b1, 0, none⟩)]) (fun p => !projP p t.f1.length) Bt dt t.f2 _ (Kd.C_below HP.out HBb1.out) hdt (by have := HG.out.p; omega) (fun i hi c w2 hb hcl hk => CallsV.of Try.func151 (by kernel_rfl) rfl (may_fn t At ct Bt dt t.f2[i] c b1 w2 hk (HG.out.ps _ (List.getElem_mem hi)).2 (HG.out.ps _ (List.getElem_mem hi)).1 HG.out.c (blk_below HXb1.out hb)))).mono ?_
    rintro e w2 ⟨rfl, hb2⟩
    rw [any_not, E0.out]
    have HB2 := Aside0.mk (below_step HBb1.out hb2)
    have HX2 := Aside0.mk (blk_below HXb1.out hb2)
    clear hb2 hc2w1
    have hc0w2 : w2.cell? ⟨b1, 0, none⟩ = some (.string t.f0) := (cell_of_row w2 b1 0 _ _ _ HX2.out).trans rfl
    have hc1w2 : w2.cell? ⟨b1, 1, none⟩ = some (.slice At t.f1.length ct) := (cell_of_row w2 b1 1 _ _ _ HX2.out).trans rfl
    have hc2w2 : w2.cell? ⟨b1, 2, none⟩ = some (.slice Bt t.f2.length dt) := (cell_of_row w2 b1 2 _ _ _ HX2.out).trans rfl
    go_wp2_with fail
    refine (name_calls t.f0 _ HG.out.s).mono ?_
    rintro e w3 ⟨rfl, hb3⟩
    rw [E1.out]
    have HB3 := Aside0.mk (below_step HB2.out hb3)
    have HX3 := Aside0.mk (blk_below HX2.out hb3)
    clear hb3 hc0w2 hc1w2 hc2w2
    have hc0w3 : w3.cell? ⟨b1, 0, none⟩ = some (.string t.f0) := (cell_of_row w3 b1 0 _ _ _ HX3.out).trans rfl
    have hc1w3 : w3.cell? ⟨b1, 1, none⟩ = some (.slice At t.f1.length ct) := (cell_of_row w3 b1 1 _ _ _ HX3.out).trans rfl
    have hc2w3 : w3.cell? ⟨b1, 2, none⟩ = some (.slice Bt t.f2.length dt) := (cell_of_row w3 b1 2 _ _ _ HX3.out).trans rfl
    go_wp2_with fail
    go_ret
    exact ⟨by rw [HM.out]; rfl, HB3.out⟩
  | true =>
  have E1 := Aside0.mk h1
  cases h2 : colsP t.f1 with
  | false =>
    have E2 := Aside0.mk h2
    have HM : Aside0 (mayP t = false) := ⟨by unfold mayP; rw [h0, h1, h2]; rfl⟩
    clear h0 h1 h2
    go_enter Try.func118, Try.ntmps118
    go_wp2_with (first | ((with_reducible refine gate_dst (N := 1) rfl ?_); refine box_event rfl (N := 1) rfl (cs := #[.string t.f0, .slice At t.f1.length ct, .slice Bt t.f2.length dt]) (t := TT) ?hr ?_; (case hr => first | (go_simp; done) | (go_simp; rfl)); intro b1 hgb1 w1 hb1 hBb1; have HXb1 := Aside0.mk hb1; have HBb1 := Aside0.mk hBb1; have hc2w1 : w1.cell? ⟨b1, 2, none⟩ = some (.slice Bt t.f2.length dt) := (cell_of_row w1 b1 2 _ _ _ hb1).trans rfl; clear hgb1 hb1 hBb1))
    refine (contains_proj (.func (.func 151) #[] #[.pointer (some ⟨b1, 0, none⟩)]) (fun p => !projP p t.f1.length) Bt dt t.f2 _ (Kd.C_below HP.out HBb1.out) hdt (by have := HG.out.p; omega) (fun i hi c w2 hb hcl hk => CallsV.of Try.func151 (by kernel_rfl) rfl (may_fn t At ct Bt dt t.f2[i] c b1 w2 hk (HG.out.ps _ (List.getElem_mem hi)).2 (HG.out.ps _ (List.getElem_mem hi)).1 HG.out.c (blk_below HXb1.out hb)))).mono ?_
    rintro e w2 ⟨rfl, hb2⟩
    rw [any_not, E0.out]
    have HB2 := Aside0.mk (below_step HBb1.out hb2)
    have HX2 := Aside0.mk (blk_below HXb1.out hb2)
    clear hb2 hc2w1
    have hc0w2 : w2.cell? ⟨b1, 0, none⟩ = some (.string t.f0) := (cell_of_row w2 b1 0 _ _ _ HX2.out).trans rfl
    have hc1w2 : w2.cell? ⟨b1, 1, none⟩ = some (.slice At t.f1.length ct) := (cell_of_row w2 b1 1 _ _ _ HX2.out).trans rfl
    have hc2w2 : w2.cell? ⟨b1, 2, none⟩ = some (.slice Bt t.f2.length dt) := (cell_of_row w2 b1 2 _ _ _ HX2.out).trans rfl
    go_wp2_with fail
    refine (name_calls t.f0 _ HG.out.s).mono ?_
    rintro e w3 ⟨rfl, hb3⟩
    rw [E1.out]
    have HB3 := Aside0.mk (below_step HB2.out hb3)
    have HX3 := Aside0.mk (blk_below HX2.out hb3)
    clear hb3 hc0w2 hc1w2 hc2w2
    have hc0w3 : w3.cell? ⟨b1, 0, none⟩ = some (.string t.f0) := (cell_of_row w3 b1 0 _ _ _ HX3.out).trans rfl
    have hc1w3 : w3.cell? ⟨b1, 1, none⟩ = some (.slice At t.f1.length ct) := (cell_of_row w3 b1 1 _ _ _ HX3.out).trans rfl
    have hc2w3 : w3.cell? ⟨b1, 2, none⟩ = some (.slice Bt t.f2.length dt) := (cell_of_row w3 b1 2 _ _ _ HX3.out).trans rfl
    go_wp2_with fail
    refine (cols_calls t.f1 At ct _ (Kd.C_below HC.out HB3.out) hct HG.out.c HG.out.cs).mono ?_
    rintro e w4 ⟨rfl, hb4⟩
    rw [E2.out]
    have HB4 := Aside0.mk (below_step HB3.out hb4)
    have HX4 := Aside0.mk (blk_below HX3.out hb4)
    clear hb4 hc0w3 hc1w3 hc2w3
    have hc0w4 : w4.cell? ⟨b1, 0, none⟩ = some (.string t.f0) := (cell_of_row w4 b1 0 _ _ _ HX4.out).trans rfl
    have hc1w4 : w4.cell? ⟨b1, 1, none⟩ = some (.slice At t.f1.length ct) := (cell_of_row w4 b1 1 _ _ _ HX4.out).trans rfl
    have hc2w4 : w4.cell? ⟨b1, 2, none⟩ = some (.slice Bt t.f2.length dt) := (cell_of_row w4 b1 2 _ _ _ HX4.out).trans rfl
    go_wp2_with fail
    go_ret
    exact ⟨by rw [HM.out]; rfl, HB4.out⟩
  | true =>
  have E2 := Aside0.mk h2
  cases h3 : t.f2.any (superP t) with
  | false =>
    have E3 := Aside0.mk h3
    have HM : Aside0 (mayP t = false) := ⟨by unfold mayP; rw [h0, h1, h2, h3]; rfl⟩
    clear h0 h1 h2 h3
    go_enter Try.func118, Try.ntmps118
    go_wp2_with (first | ((with_reducible refine gate_dst (N := 1) rfl ?_); refine box_event rfl (N := 1) rfl (cs := #[.string t.f0, .slice At t.f1.length ct, .slice Bt t.f2.length dt]) (t := TT) ?hr ?_; (case hr => first | (go_simp; done) | (go_simp; rfl)); intro b1 hgb1 w1 hb1 hBb1; have HXb1 := Aside0.mk hb1; have HBb1 := Aside0.mk hBb1; have hc2w1 : w1.cell? ⟨b1, 2, none⟩ = some (.slice Bt t.f2.length dt) := (cell_of_row w1 b1 2 _ _ _ hb1).trans rfl; clear hgb1 hb1 hBb1))
    refine (contains_proj (.func (.func 151) #[] #[.pointer (some ⟨b1, 0, none⟩)]) (fun p => !projP p t.f1.length) Bt dt t.f2 _ (Kd.C_below HP.out HBb1.out) hdt (by have := HG.out.p; omega) (fun i hi c w2 hb hcl hk => CallsV.of Try.func151 (by kernel_rfl) rfl (may_fn t At ct Bt dt t.f2[i] c b1 w2 hk (HG.out.ps _ (List.getElem_mem hi)).2 (HG.out.ps _ (List.getElem_mem hi)).1 HG.out.c (blk_below HXb1.out hb)))).mono ?_
    rintro e w2 ⟨rfl, hb2⟩
    rw [any_not, E0.out]
    have HB2 := Aside0.mk (below_step HBb1.out hb2)
    have HX2 := Aside0.mk (blk_below HXb1.out hb2)
    clear hb2 hc2w1
    have hc0w2 : w2.cell? ⟨b1, 0, none⟩ = some (.string t.f0) := (cell_of_row w2 b1 0 _ _ _ HX2.out).trans rfl
    have hc1w2 : w2.cell? ⟨b1, 1, none⟩ = some (.slice At t.f1.length ct) := (cell_of_row w2 b1 1 _ _ _ HX2.out).trans rfl
    have hc2w2 : w2.cell? ⟨b1, 2, none⟩ = some (.slice Bt t.f2.length dt) := (cell_of_row w2 b1 2 _ _ _ HX2.out).trans rfl
    go_wp2_with fail
    refine (name_calls t.f0 _ HG.out.s).mono ?_
    rintro e w3 ⟨rfl, hb3⟩
    rw [E1.out]
    have HB3 := Aside0.mk (below_step HB2.out hb3)
    have HX3 := Aside0.mk (blk_below HX2.out hb3)
    clear hb3 hc0w2 hc1w2 hc2w2
    have hc0w3 : w3.cell? ⟨b1, 0, none⟩ = some (.string t.f0) := (cell_of_row w3 b1 0 _ _ _ HX3.out).trans rfl
    have hc1w3 : w3.cell? ⟨b1, 1, none⟩ = some (.slice At t.f1.length ct) := (cell_of_row w3 b1 1 _ _ _ HX3.out).trans rfl
    have hc2w3 : w3.cell? ⟨b1, 2, none⟩ = some (.slice Bt t.f2.length dt) := (cell_of_row w3 b1 2 _ _ _ HX3.out).trans rfl
    go_wp2_with fail
    refine (cols_calls t.f1 At ct _ (Kd.C_below HC.out HB3.out) hct HG.out.c HG.out.cs).mono ?_
    rintro e w4 ⟨rfl, hb4⟩
    rw [E2.out]
    have HB4 := Aside0.mk (below_step HB3.out hb4)
    have HX4 := Aside0.mk (blk_below HX3.out hb4)
    clear hb4 hc0w3 hc1w3 hc2w3
    have hc0w4 : w4.cell? ⟨b1, 0, none⟩ = some (.string t.f0) := (cell_of_row w4 b1 0 _ _ _ HX4.out).trans rfl
    have hc1w4 : w4.cell? ⟨b1, 1, none⟩ = some (.slice At t.f1.length ct) := (cell_of_row w4 b1 1 _ _ _ HX4.out).trans rfl
    have hc2w4 : w4.cell? ⟨b1, 2, none⟩ = some (.slice Bt t.f2.length dt) := (cell_of_row w4 b1 2 _ _ _ HX4.out).trans rfl
    go_wp2_with (first | ((with_reducible refine gate_dst (N := 21) rfl ?_); refine gate_guard (by rfl) ?_; dsimp only; refine wpList_load_row rfl TT (.tmp 1) rfl b1 rfl TT #[.string t.f0, .slice At t.f1.length ct, .slice Bt t.f2.length dt] (0, 0) _ HX4.out Try.underlying63 rfl size_T ?_))
    refine (whole_calls t At ct Bt dt _ (Kd.C_below HP.out HB4.out) hdt HG.out).mono ?_
    rintro e w5 ⟨rfl, hb5⟩
    rw [E3.out]
    have HB5 := Aside0.mk (below_step HB4.out hb5)
    have HX5 := Aside0.mk (blk_below HX4.out hb5)
    clear hb5 hc0w4 hc1w4 hc2w4
    have hc0w5 : w5.cell? ⟨b1, 0, none⟩ = some (.string t.f0) := (cell_of_row w5 b1 0 _ _ _ HX5.out).trans rfl
    have hc1w5 : w5.cell? ⟨b1, 1, none⟩ = some (.slice At t.f1.length ct) := (cell_of_row w5 b1 1 _ _ _ HX5.out).trans rfl
    have hc2w5 : w5.cell? ⟨b1, 2, none⟩ = some (.slice Bt t.f2.length dt) := (cell_of_row w5 b1 2 _ _ _ HX5.out).trans rfl
    go_wp2_with fail
    go_ret
    exact ⟨by rw [HM.out]; rfl, HB5.out⟩
  | true =>
  have E3 := Aside0.mk h3
  have hM : mayP t = (decide (t.f2.length ≤ 6) && onceP (t.f2.map (·.f0))) := by unfold mayP; rw [h0, h1, h2, h3]; rfl
  have HM := Aside0.mk hM
  have HK : Aside0 (∀ x ∈ t.f2, x.f0.size ≤ maxLen) := ⟨fun x hx => by
    have h4 := List.all_eq_true.1 h0 x hx
    unfold projP at h4
    simp only [Bool.and_eq_true] at h4
    have := nameP_size h4.1.1.1.1.1.2
    unfold maxLen
    omega⟩
  clear h0 h1 h2 h3 hM
  by_cases h6 : t.f2.length ≤ 6
  · have t1 : decide (t.f2.length ≤ 6) = true := decide_eq_true h6
    have t2 : decide (((t.f2.length : Nat) : Int) ≤ 6) = true := decide_eq_true (by omega)
    go_enter Try.func118, Try.ntmps118
    go_wp2_with (first | ((with_reducible refine gate_dst (N := 1) rfl ?_); refine box_event rfl (N := 1) rfl (cs := #[.string t.f0, .slice At t.f1.length ct, .slice Bt t.f2.length dt]) (t := TT) ?hr ?_; (case hr => first | (go_simp; done) | (go_simp; rfl)); intro b1 hgb1 w1 hb1 hBb1; have HXb1 := Aside0.mk hb1; have HBb1 := Aside0.mk hBb1; have hc2w1 : w1.cell? ⟨b1, 2, none⟩ = some (.slice Bt t.f2.length dt) := (cell_of_row w1 b1 2 _ _ _ hb1).trans rfl; clear hgb1 hb1 hBb1))
    refine (contains_proj (.func (.func 151) #[] #[.pointer (some ⟨b1, 0, none⟩)]) (fun p => !projP p t.f1.length) Bt dt t.f2 _ (Kd.C_below HP.out HBb1.out) hdt (by have := HG.out.p; omega) (fun i hi c w2 hb hcl hk => CallsV.of Try.func151 (by kernel_rfl) rfl (may_fn t At ct Bt dt t.f2[i] c b1 w2 hk (HG.out.ps _ (List.getElem_mem hi)).2 (HG.out.ps _ (List.getElem_mem hi)).1 HG.out.c (blk_below HXb1.out hb)))).mono ?_
    rintro e w2 ⟨rfl, hb2⟩
    rw [any_not, E0.out]
    have HB2 := Aside0.mk (below_step HBb1.out hb2)
    have HX2 := Aside0.mk (blk_below HXb1.out hb2)
    clear hb2 hc2w1
    have hc0w2 : w2.cell? ⟨b1, 0, none⟩ = some (.string t.f0) := (cell_of_row w2 b1 0 _ _ _ HX2.out).trans rfl
    have hc1w2 : w2.cell? ⟨b1, 1, none⟩ = some (.slice At t.f1.length ct) := (cell_of_row w2 b1 1 _ _ _ HX2.out).trans rfl
    have hc2w2 : w2.cell? ⟨b1, 2, none⟩ = some (.slice Bt t.f2.length dt) := (cell_of_row w2 b1 2 _ _ _ HX2.out).trans rfl
    go_wp2_with fail
    refine (name_calls t.f0 _ HG.out.s).mono ?_
    rintro e w3 ⟨rfl, hb3⟩
    rw [E1.out]
    have HB3 := Aside0.mk (below_step HB2.out hb3)
    have HX3 := Aside0.mk (blk_below HX2.out hb3)
    clear hb3 hc0w2 hc1w2 hc2w2
    have hc0w3 : w3.cell? ⟨b1, 0, none⟩ = some (.string t.f0) := (cell_of_row w3 b1 0 _ _ _ HX3.out).trans rfl
    have hc1w3 : w3.cell? ⟨b1, 1, none⟩ = some (.slice At t.f1.length ct) := (cell_of_row w3 b1 1 _ _ _ HX3.out).trans rfl
    have hc2w3 : w3.cell? ⟨b1, 2, none⟩ = some (.slice Bt t.f2.length dt) := (cell_of_row w3 b1 2 _ _ _ HX3.out).trans rfl
    go_wp2_with fail
    refine (cols_calls t.f1 At ct _ (Kd.C_below HC.out HB3.out) hct HG.out.c HG.out.cs).mono ?_
    rintro e w4 ⟨rfl, hb4⟩
    rw [E2.out]
    have HB4 := Aside0.mk (below_step HB3.out hb4)
    have HX4 := Aside0.mk (blk_below HX3.out hb4)
    clear hb4 hc0w3 hc1w3 hc2w3
    have hc0w4 : w4.cell? ⟨b1, 0, none⟩ = some (.string t.f0) := (cell_of_row w4 b1 0 _ _ _ HX4.out).trans rfl
    have hc1w4 : w4.cell? ⟨b1, 1, none⟩ = some (.slice At t.f1.length ct) := (cell_of_row w4 b1 1 _ _ _ HX4.out).trans rfl
    have hc2w4 : w4.cell? ⟨b1, 2, none⟩ = some (.slice Bt t.f2.length dt) := (cell_of_row w4 b1 2 _ _ _ HX4.out).trans rfl
    go_wp2_with (first | ((with_reducible refine gate_dst (N := 21) rfl ?_); refine gate_guard (by rfl) ?_; dsimp only; refine wpList_load_row rfl TT (.tmp 1) rfl b1 rfl TT #[.string t.f0, .slice At t.f1.length ct, .slice Bt t.f2.length dt] (0, 0) _ HX4.out Try.underlying63 rfl size_T ?_))
    refine (whole_calls t At ct Bt dt _ (Kd.C_below HP.out HB4.out) hdt HG.out).mono ?_
    rintro e w5 ⟨rfl, hb5⟩
    rw [E3.out]
    have HB5 := Aside0.mk (below_step HB4.out hb5)
    have HX5 := Aside0.mk (blk_below HX4.out hb5)
    clear hb5 hc0w4 hc1w4 hc2w4
    have hc0w5 : w5.cell? ⟨b1, 0, none⟩ = some (.string t.f0) := (cell_of_row w5 b1 0 _ _ _ HX5.out).trans rfl
    have hc1w5 : w5.cell? ⟨b1, 1, none⟩ = some (.slice At t.f1.length ct) := (cell_of_row w5 b1 1 _ _ _ HX5.out).trans rfl
    have hc2w5 : w5.cell? ⟨b1, 2, none⟩ = some (.slice Bt t.f2.length dt) := (cell_of_row w5 b1 2 _ _ _ HX5.out).trans rfl
    go_wp2_with fail
    refine (twice_proj (.func (.func 157) #[] #[]) (·.f0) Bt dt t.f2 _ (Kd.C_below HP.out HB5.out) HG.out.p HK.out (fun i hi c w2 hb hcl hk => CallsV.of Try.func157 (by kernel_rfl) rfl (proj_key t.f2[i] c w2 hk))).mono ?_
    rintro e w6 ⟨rfl, hb6⟩
    have HB6 := Aside0.mk (below_step HB5.out hb6)
    clear hb6 hc0w5 hc1w5 hc2w5
    go_wp2_with fail
    go_ret
    exact ⟨by rw [HM.out, t1]; simp, HB6.out⟩
  · have t1 : decide (t.f2.length ≤ 6) = false := decide_eq_false h6
    have t2 : decide (((t.f2.length : Nat) : Int) ≤ 6) = false := decide_eq_false (by omega)
    go_enter Try.func118, Try.ntmps118
    go_wp2_with (first | ((with_reducible refine gate_dst (N := 1) rfl ?_); refine box_event rfl (N := 1) rfl (cs := #[.string t.f0, .slice At t.f1.length ct, .slice Bt t.f2.length dt]) (t := TT) ?hr ?_; (case hr => first | (go_simp; done) | (go_simp; rfl)); intro b1 hgb1 w1 hb1 hBb1; have HXb1 := Aside0.mk hb1; have HBb1 := Aside0.mk hBb1; have hc2w1 : w1.cell? ⟨b1, 2, none⟩ = some (.slice Bt t.f2.length dt) := (cell_of_row w1 b1 2 _ _ _ hb1).trans rfl; clear hgb1 hb1 hBb1))
    refine (contains_proj (.func (.func 151) #[] #[.pointer (some ⟨b1, 0, none⟩)]) (fun p => !projP p t.f1.length) Bt dt t.f2 _ (Kd.C_below HP.out HBb1.out) hdt (by have := HG.out.p; omega) (fun i hi c w2 hb hcl hk => CallsV.of Try.func151 (by kernel_rfl) rfl (may_fn t At ct Bt dt t.f2[i] c b1 w2 hk (HG.out.ps _ (List.getElem_mem hi)).2 (HG.out.ps _ (List.getElem_mem hi)).1 HG.out.c (blk_below HXb1.out hb)))).mono ?_
    rintro e w2 ⟨rfl, hb2⟩
    rw [any_not, E0.out]
    have HB2 := Aside0.mk (below_step HBb1.out hb2)
    have HX2 := Aside0.mk (blk_below HXb1.out hb2)
    clear hb2 hc2w1
    have hc0w2 : w2.cell? ⟨b1, 0, none⟩ = some (.string t.f0) := (cell_of_row w2 b1 0 _ _ _ HX2.out).trans rfl
    have hc1w2 : w2.cell? ⟨b1, 1, none⟩ = some (.slice At t.f1.length ct) := (cell_of_row w2 b1 1 _ _ _ HX2.out).trans rfl
    have hc2w2 : w2.cell? ⟨b1, 2, none⟩ = some (.slice Bt t.f2.length dt) := (cell_of_row w2 b1 2 _ _ _ HX2.out).trans rfl
    go_wp2_with fail
    refine (name_calls t.f0 _ HG.out.s).mono ?_
    rintro e w3 ⟨rfl, hb3⟩
    rw [E1.out]
    have HB3 := Aside0.mk (below_step HB2.out hb3)
    have HX3 := Aside0.mk (blk_below HX2.out hb3)
    clear hb3 hc0w2 hc1w2 hc2w2
    have hc0w3 : w3.cell? ⟨b1, 0, none⟩ = some (.string t.f0) := (cell_of_row w3 b1 0 _ _ _ HX3.out).trans rfl
    have hc1w3 : w3.cell? ⟨b1, 1, none⟩ = some (.slice At t.f1.length ct) := (cell_of_row w3 b1 1 _ _ _ HX3.out).trans rfl
    have hc2w3 : w3.cell? ⟨b1, 2, none⟩ = some (.slice Bt t.f2.length dt) := (cell_of_row w3 b1 2 _ _ _ HX3.out).trans rfl
    go_wp2_with fail
    refine (cols_calls t.f1 At ct _ (Kd.C_below HC.out HB3.out) hct HG.out.c HG.out.cs).mono ?_
    rintro e w4 ⟨rfl, hb4⟩
    rw [E2.out]
    have HB4 := Aside0.mk (below_step HB3.out hb4)
    have HX4 := Aside0.mk (blk_below HX3.out hb4)
    clear hb4 hc0w3 hc1w3 hc2w3
    have hc0w4 : w4.cell? ⟨b1, 0, none⟩ = some (.string t.f0) := (cell_of_row w4 b1 0 _ _ _ HX4.out).trans rfl
    have hc1w4 : w4.cell? ⟨b1, 1, none⟩ = some (.slice At t.f1.length ct) := (cell_of_row w4 b1 1 _ _ _ HX4.out).trans rfl
    have hc2w4 : w4.cell? ⟨b1, 2, none⟩ = some (.slice Bt t.f2.length dt) := (cell_of_row w4 b1 2 _ _ _ HX4.out).trans rfl
    go_wp2_with (first | ((with_reducible refine gate_dst (N := 21) rfl ?_); refine gate_guard (by rfl) ?_; dsimp only; refine wpList_load_row rfl TT (.tmp 1) rfl b1 rfl TT #[.string t.f0, .slice At t.f1.length ct, .slice Bt t.f2.length dt] (0, 0) _ HX4.out Try.underlying63 rfl size_T ?_))
    refine (whole_calls t At ct Bt dt _ (Kd.C_below HP.out HB4.out) hdt HG.out).mono ?_
    rintro e w5 ⟨rfl, hb5⟩
    rw [E3.out]
    have HB5 := Aside0.mk (below_step HB4.out hb5)
    have HX5 := Aside0.mk (blk_below HX4.out hb5)
    clear hb5 hc0w4 hc1w4 hc2w4
    have hc0w5 : w5.cell? ⟨b1, 0, none⟩ = some (.string t.f0) := (cell_of_row w5 b1 0 _ _ _ HX5.out).trans rfl
    have hc1w5 : w5.cell? ⟨b1, 1, none⟩ = some (.slice At t.f1.length ct) := (cell_of_row w5 b1 1 _ _ _ HX5.out).trans rfl
    have hc2w5 : w5.cell? ⟨b1, 2, none⟩ = some (.slice Bt t.f2.length dt) := (cell_of_row w5 b1 2 _ _ _ HX5.out).trans rfl
    go_wp2_with fail
    go_ret
    exact ⟨by rw [HM.out, t1]; rfl, HB5.out⟩
/-! Check -/
def chkE (l : List Tab) : Int := if checkP l = true then 0 else 1
theorem chkE_yes {l : List Tab} (h : checkP l = true) : chkE l = 0 := by unfold chkE; rw [if_pos h]
theorem chkE_no {l : List Tab} (h : checkP l = false) : chkE l = 1 := by unfold chkE; rw [if_neg (by rw [h]; decide)]
theorem tab_key (x : Tab) (c : List Value) (w : World) (hK : kT.K w x c) : Calls Try.prog 120 #[.agg c.toArray] w fun e w' => e = .returned (.string x.f0) ∧ Below w.heap.size w w' := by
  obtain ⟨At, ct, Bt, dt, rfl, _⟩ := k63_open hK
  go_enter Try.func120, Try.ntmps120
  go_wp2_with (first | ((with_reducible refine gate_dst (N := 1) rfl ?_); refine box_event rfl (N := 1) rfl (cs := #[.string x.f0, .slice At x.f1.length ct, .slice Bt x.f2.length dt]) (t := TT) ?hr ?_; (case hr => first | (go_simp; done) | (go_simp; rfl)); intro b hgb w1 hb hBb; have HXb := Aside0.mk hb; have HBb := Aside0.mk hBb; have hc0 : w1.cell? ⟨b, 0, none⟩ = some (.string x.f0) := (cell_of_row w1 b 0 _ _ _ hb).trans rfl; clear hgb hb hBb))
  go_ret
  exact ⟨rfl, HBb.out⟩
theorem tab_bad (x : Tab) (c : List Value) (w : World) (hK : kT.K w x c) (hg : GT x) : Calls Try.prog 117 #[.agg c.toArray] w fun e w' => e = .returned (.bool (!mayP x)) ∧ Below w.heap.size w w' := by
  obtain ⟨At, ct, Bt, dt, rfl, hct, hC, hdt, hP⟩ := k63_open hK
  have HC := Aside0.mk hC
  have HP := Aside0.mk hP
  clear hK hC hP
  go_enter Try.func117, Try.ntmps117
  go_wp2_with (first | ((with_reducible refine gate_dst (N := 1) rfl ?_); refine box_event rfl (N := 1) rfl (cs := #[.string x.f0, .slice At x.f1.length ct, .slice Bt x.f2.length dt]) (t := TT) ?hr ?_; (case hr => first | (go_simp; done) | (go_simp; rfl)); intro b hgb w1 hb hBb; have HXb := Aside0.mk hb; have HBb := Aside0.mk hBb; clear hgb hb hBb) | ((with_reducible refine gate_dst (N := 3) rfl ?_); refine wpList_load_row rfl TT (.tmp 1) rfl b rfl TT #[.string x.f0, .slice At x.f1.length ct, .slice Bt x.f2.length dt] (0, 0) _ HXb.out Try.underlying63 rfl size_T ?_))
  refine (may_calls x At ct Bt dt _ (Kd.C_below HC.out HBb.out) hct (Kd.C_below HP.out HBb.out) hdt hg).mono ?_
  rintro e w3 ⟨rfl, hb3⟩
  go_wp2_with fail
  go_ret
  exact ⟨rfl, below_step HBb.out hb3⟩
set_option maxHeartbeats 2000000 in
set_option maxRecDepth 100000 in
theorem check_calls (l : List Tab) (A : Option Addr) (c0 : Nat) (w : World) (hr : Kd.C kT w A l.length l) (hc : l.length ≤ c0) (hl : l.length ≤ 1000000) (hg : ∀ x ∈ l, GT x) :
    Calls Try.prog 76 #[.slice A l.length c0] w fun e w' => e = .returned (.int .i64 (chkE l)) ∧ Below w.heap.size w w' := by
  have H1 := Aside0.mk (contains_table (.func (.func 117) #[] #[]) (fun c => !mayP c) A c0 l w hr hc (by omega) (fun i hi c w1 hb hcl hk => CallsV.of Try.func117 (by kernel_rfl) rfl (tab_bad l[i] c w1 hk (hg _ (List.getElem_mem hi)))))
  rw [any_not] at H1
  have HR := Aside0.mk hr
  clear hr hg
  cases ha : l.all mayP with
  | false =>
    have HP : Aside0 (chkE l = 1) := ⟨chkE_no (by unfold checkP; rw [ha]; rfl)⟩
    rw [ha] at H1
    clear ha
    go_enter Try.func76, Try.ntmps76
    go_wp2_with fail
    refine H1.out.mono ?_
    rintro e w1 ⟨rfl, hb1⟩
    go_wp2_with fail
    go_ret
    exact ⟨by rw [HP.out]; rfl, hb1⟩
  | true =>
    have hP : checkP l = (decide (l.length ≤ 8) && onceP (l.map (·.f0))) := by unfold checkP; rw [ha]; rfl
    have HP := Aside0.mk hP
    have HK : Aside0 (∀ x ∈ l, x.f0.size ≤ maxLen) := ⟨fun x hx => by
      have h1 := List.all_eq_true.1 ha x hx
      unfold mayP at h1
      simp only [Bool.and_eq_true] at h1
      have := nameP_size h1.1.1.1.1.2
      unfold maxLen
      omega⟩
    rw [ha] at H1
    clear ha hP
    by_cases h8 : l.length ≤ 8
    · have t1 : decide (8 < l.length) = false := decide_eq_false (by omega)
      have t2 : decide (8 < ((l.length : Nat) : Int)) = false := decide_eq_false (by omega)
      cases ho : onceP (l.map (·.f0)) with
      | true =>
        have HQ : Aside0 (chkE l = 0) := ⟨chkE_yes (by rw [HP.out, ho, decide_eq_true h8]; rfl)⟩
        have HO := Aside0.mk ho
        clear ho
        go_enter Try.func76, Try.ntmps76
        go_wp2_with fail
        refine H1.out.mono ?_
        rintro e w1 ⟨rfl, hb1⟩
        have HB1 := Aside0.mk hb1
        clear hb1
        go_wp2_with fail
        refine (twice_table (.func (.func 120) #[] #[]) (·.f0) A c0 l _ (Kd.C_below HR.out HB1.out) hl HK.out (fun i hi c w2 hb hcl hk => CallsV.of Try.func120 (by kernel_rfl) rfl (tab_key l[i] c w2 hk))).mono ?_
        rintro e w2 ⟨rfl, hb2⟩
        rw [HO.out]
        go_wp2_with fail
        go_ret
        exact ⟨by rw [HQ.out]; rfl, below_step HB1.out hb2⟩
      | false =>
        have HQ : Aside0 (chkE l = 1) := ⟨chkE_no (by rw [HP.out, ho, decide_eq_true h8]; rfl)⟩
        have HO := Aside0.mk ho
        clear ho
        go_enter Try.func76, Try.ntmps76
        go_wp2_with fail
        refine H1.out.mono ?_
        rintro e w1 ⟨rfl, hb1⟩
        have HB1 := Aside0.mk hb1
        clear hb1
        go_wp2_with fail
        refine (twice_table (.func (.func 120) #[] #[]) (·.f0) A c0 l _ (Kd.C_below HR.out HB1.out) hl HK.out (fun i hi c w2 hb hcl hk => CallsV.of Try.func120 (by kernel_rfl) rfl (tab_key l[i] c w2 hk))).mono ?_
        rintro e w2 ⟨rfl, hb2⟩
        rw [HO.out]
        go_wp2_with fail
        go_ret
        exact ⟨by rw [HQ.out]; rfl, below_step HB1.out hb2⟩
    · have t1 : decide (8 < l.length) = true := decide_eq_true (by omega)
      have t2 : decide (8 < ((l.length : Nat) : Int)) = true := decide_eq_true (by omega)
      have HQ : Aside0 (chkE l = 1) := ⟨chkE_no (by rw [HP.out, decide_eq_false h8]; rfl)⟩
      go_enter Try.func76, Try.ntmps76
      go_wp2_with fail
      refine H1.out.mono ?_
      rintro e w1 ⟨rfl, hb1⟩
      go_wp2_with fail
      go_ret
      exact ⟨by rw [HQ.out]; rfl, hb1⟩
end Go.Proofs.Ytgjclhhjigflkab.Sc
