/- The walks of schema's checks: columns, projections, tables. (Written by genchk.py.) -/
import Derived.Test.YtgjclhhjigflkabScFind
import Derived.Test.YtgjclhhjigflkabScTwice
import Derived.Test.YtgjclhhjigflkabScName
import Derived.Test.YtgjclhhjigflkabScInts
import Derived.Test.YtgjclhhjigflkabCx1
namespace Go.Proofs.Ytgjclhhjigflkab.Sc
open Go Go.RowKit Go.Proofs.Ytgjclhhjigflkab.C Go.Proofs.Ytgjclhhjigflkab.MyWords Go.Proofs.Ytgjclhhjigflkab.Hand Go.Proofs.YtgjclhhjigflkabW.PrintWords Go.Proofs.YtgjclhhjigflkabW.PrintLast Go.Proofs.YtgjclhhjigflkabW.PrintMore
set_option linter.unusedVariables false
set_option linter.unusedSimpArgs false
/-! a column -/
theorem col_key (x : Col) (c : List Value) (w : World) (hK : kC.K w x c) : Calls Try.prog 171 #[.agg c.toArray] w fun e w' => e = .returned (.string x.f0) ∧ Below w.heap.size w w' := by
  obtain rfl := k177_open hK
  go_enter Try.func171, Try.ntmps171
  go_wp2_with (first | ((with_reducible refine gate_dst (N := 1) rfl ?_); refine box_event rfl (N := 1) rfl (cs := #[.string x.f0, .int .i64 x.f1, .bool x.f2]) (t := TC) ?hr ?_; (case hr => first | (go_simp; done) | (go_simp; rfl)); intro b hgb w1 hb hBb; have HXb := Aside0.mk hb; have HBb := Aside0.mk hBb; have hc0 : w1.cell? ⟨b, 0, none⟩ = some (.string x.f0) := (cell_of_row w1 b 0 _ _ _ hb).trans rfl; clear hgb hb hBb))
  go_ret
  exact ⟨rfl, HBb.out⟩
theorem col_bad (x : Col) (c : List Value) (w : World) (hK : kC.K w x c) (hs : x.f0.size ≤ 9223372036854775807) : Calls Try.prog 169 #[.agg c.toArray] w fun e w' => e = .returned (.bool (!colP x)) ∧ Below w.heap.size w w' := by
  obtain rfl := k177_open hK
  cases hn : nameP x.f0 with
  | false =>
    have hP : colP x = false := by unfold colP; rw [hn]; rfl
    have HP := Aside0.mk hP
    have HN := Aside0.mk hn
    clear hP hn
    go_enter Try.func169, Try.ntmps169
    go_wp2_with (first | ((with_reducible refine gate_dst (N := 1) rfl ?_); refine box_event rfl (N := 1) rfl (cs := #[.string x.f0, .int .i64 x.f1, .bool x.f2]) (t := TC) ?hr ?_; (case hr => first | (go_simp; done) | (go_simp; rfl)); intro b hgb w1 hb hBb; have HXb := Aside0.mk hb; have HBb := Aside0.mk hBb; have hc0 : w1.cell? ⟨b, 0, none⟩ = some (.string x.f0) := (cell_of_row w1 b 0 _ _ _ hb).trans rfl; clear hgb hb hBb))
    refine (name_calls x.f0 _ hs).mono ?_
    rintro e w2 ⟨rfl, hb2⟩
    rw [HN.out]
    go_wp2_with fail
    go_ret
    exact ⟨by rw [HP.out]; rfl, below_step HBb.out hb2⟩
  | true =>
    have hP : colP x = (decide (x.f1 = 1) || decide (x.f1 = 2)) := by unfold colP; rw [hn]; rfl
    have HP := Aside0.mk hP
    have HN := Aside0.mk hn
    clear hP hn
    have hcs : x.f1 = 1 ∨ x.f1 = 2 ∨ (¬ x.f1 = 1 ∧ ¬ x.f1 = 2) := by omega
    rcases hcs with h1 | h1 | ⟨h1, h2⟩
    · have g1 : (x.f1 != 1) = false := by simp [h1]
      have HH := Aside0.mk h1
      clear h1
      go_enter Try.func169, Try.ntmps169
      go_wp2_with (first | ((with_reducible refine gate_dst (N := 1) rfl ?_); refine box_event rfl (N := 1) rfl (cs := #[.string x.f0, .int .i64 x.f1, .bool x.f2]) (t := TC) ?hr ?_; (case hr => first | (go_simp; done) | (go_simp; rfl)); intro b hgb w1 hb hBb; have HXb := Aside0.mk hb; have HBb := Aside0.mk hBb; have hc0 : w1.cell? ⟨b, 0, none⟩ = some (.string x.f0) := (cell_of_row w1 b 0 _ _ _ hb).trans rfl; clear hgb hb hBb))
      refine (name_calls x.f0 _ hs).mono ?_
      rintro e w2 ⟨rfl, hb2⟩
      rw [HN.out]
      have hc1 : w2.cell? ⟨b, 1, none⟩ = some (.int .i64 x.f1) := (cell_of_row w2 b 1 _ _ _ (blk_below HXb.out hb2)).trans rfl
      have HB2 := Aside0.mk hb2
      clear hb2 hc0
      go_wp2_with fail
      go_ret
      exact ⟨by rw [HP.out, decide_eq_true HH.out]; rfl, below_step HBb.out HB2.out⟩
    · have g1 : (x.f1 != 1) = true := by simp [h1]
      have g2 : (x.f1 != 2) = false := by simp [h1]
      have HH := Aside0.mk h1
      clear h1
      go_enter Try.func169, Try.ntmps169
      go_wp2_with (first | ((with_reducible refine gate_dst (N := 1) rfl ?_); refine box_event rfl (N := 1) rfl (cs := #[.string x.f0, .int .i64 x.f1, .bool x.f2]) (t := TC) ?hr ?_; (case hr => first | (go_simp; done) | (go_simp; rfl)); intro b hgb w1 hb hBb; have HXb := Aside0.mk hb; have HBb := Aside0.mk hBb; have hc0 : w1.cell? ⟨b, 0, none⟩ = some (.string x.f0) := (cell_of_row w1 b 0 _ _ _ hb).trans rfl; clear hgb hb hBb))
      refine (name_calls x.f0 _ hs).mono ?_
      rintro e w2 ⟨rfl, hb2⟩
      rw [HN.out]
      have hc1 : w2.cell? ⟨b, 1, none⟩ = some (.int .i64 x.f1) := (cell_of_row w2 b 1 _ _ _ (blk_below HXb.out hb2)).trans rfl
      have HB2 := Aside0.mk hb2
      clear hb2 hc0
      go_wp2_with fail
      go_ret
      exact ⟨by rw [HP.out, decide_eq_true HH.out, Bool.or_true]; rfl, below_step HBb.out HB2.out⟩
    · have g1 : (x.f1 != 1) = true := by simp [h1]
      have g2 : (x.f1 != 2) = true := by simp [h2]
      have HH := Aside0.mk h1
      have HH2 := Aside0.mk h2
      clear h1 h2
      go_enter Try.func169, Try.ntmps169
      go_wp2_with (first | ((with_reducible refine gate_dst (N := 1) rfl ?_); refine box_event rfl (N := 1) rfl (cs := #[.string x.f0, .int .i64 x.f1, .bool x.f2]) (t := TC) ?hr ?_; (case hr => first | (go_simp; done) | (go_simp; rfl)); intro b hgb w1 hb hBb; have HXb := Aside0.mk hb; have HBb := Aside0.mk hBb; have hc0 : w1.cell? ⟨b, 0, none⟩ = some (.string x.f0) := (cell_of_row w1 b 0 _ _ _ hb).trans rfl; clear hgb hb hBb))
      refine (name_calls x.f0 _ hs).mono ?_
      rintro e w2 ⟨rfl, hb2⟩
      rw [HN.out]
      have hc1 : w2.cell? ⟨b, 1, none⟩ = some (.int .i64 x.f1) := (cell_of_row w2 b 1 _ _ _ (blk_below HXb.out hb2)).trans rfl
      have HB2 := Aside0.mk hb2
      clear hb2 hc0
      go_wp2_with fail
      go_ret
      exact ⟨by rw [HP.out, decide_eq_false HH.out, decide_eq_false HH2.out]; rfl, below_step HBb.out HB2.out⟩
/-! columns -/
set_option maxHeartbeats 2000000 in
set_option maxRecDepth 100000 in
theorem cols_calls (l : List Col) (A : Option Addr) (c0 : Nat) (w : World) (hr : Kd.C kC w A l.length l) (hc : l.length ≤ c0) (hl : l.length ≤ 1000000) (hg : ∀ x ∈ l, x.f0.size ≤ 9223372036854775807) :
    Calls Try.prog 154 #[.slice A l.length c0] w fun e w' => e = .returned (.bool (colsP l)) ∧ Below w.heap.size w w' := by
  have H1 := Aside0.mk (contains_col (.func (.func 169) #[] #[]) (fun c => !colP c) A c0 l w hr hc (by omega) (fun i hi c w1 hb hcl hk => CallsV.of Try.func169 (by kernel_rfl) rfl (col_bad l[i] c w1 hk (hg _ (List.getElem_mem hi)))))
  rw [any_not] at H1
  have HR := Aside0.mk hr
  clear hr hg
  cases ha : l.all colP with
  | false =>
    have HP : Aside0 (colsP l = false) := ⟨by unfold colsP; rw [ha]; rfl⟩
    rw [ha] at H1
    clear ha
    go_enter Try.func154, Try.ntmps154
    go_wp2_with fail
    refine H1.out.mono ?_
    rintro e w1 ⟨rfl, hb1⟩
    go_wp2_with fail
    go_ret
    exact ⟨by rw [HP.out]; rfl, hb1⟩
  | true =>
    have hP : colsP l = (decide (1 ≤ l.length) && decide (l.length ≤ 8) && onceP (l.map (·.f0))) := by unfold colsP; rw [ha]; rfl
    have HP := Aside0.mk hP
    have hk : ∀ x ∈ l, x.f0.size ≤ maxLen := fun x hx => by
      have h1 := List.all_eq_true.1 ha x hx
      unfold colP at h1
      rw [Bool.and_eq_true] at h1
      have := nameP_size h1.1
      unfold maxLen
      omega
    have HK := Aside0.mk hk
    rw [ha] at H1
    clear ha hP hk
    by_cases h1 : 1 ≤ l.length
    · by_cases h8 : l.length ≤ 8
      · go_enter Try.func154, Try.ntmps154
        go_wp2_with fail
        refine H1.out.mono ?_
        rintro e w1 ⟨rfl, hb1⟩
        have HB1 := Aside0.mk hb1
        clear hb1
        have ta1 : decide (l.length ≤ 8) = true := decide_eq_true (by omega)
        have ta2 : decide (((l.length : Nat) : Int) ≤ 8) = true := decide_eq_true (by omega)
        go_wp2_with fail
        refine (twice_col (.func (.func 171) #[] #[]) (·.f0) A c0 l _ (Kd.C_below HR.out HB1.out) hl HK.out (fun i hi c w2 hb hcl hk => CallsV.of Try.func171 (by kernel_rfl) rfl (col_key l[i] c w2 hk))).mono ?_
        rintro e w2 ⟨rfl, hb2⟩
        go_wp2_with fail
        go_ret
        exact ⟨by rw [HP.out, decide_eq_true h1, decide_eq_true h8]; simp, below_step HB1.out hb2⟩
      · go_enter Try.func154, Try.ntmps154
        go_wp2_with fail
        refine H1.out.mono ?_
        rintro e w1 ⟨rfl, hb1⟩
        have f1 : decide (l.length ≤ 8) = false := decide_eq_false (by omega)
        have f2 : decide (((l.length : Nat) : Int) ≤ 8) = false := decide_eq_false (by omega)
        go_wp2_with fail
        go_ret
        exact ⟨by rw [HP.out, decide_eq_false h8, Bool.and_false]; rfl, hb1⟩
    · go_enter Try.func154, Try.ntmps154
      go_wp2_with fail
      refine H1.out.mono ?_
      rintro e w1 ⟨rfl, hb1⟩
      have g1 : decide (1 ≤ l.length) = false := decide_eq_false (by omega)
      have g3 : decide (1 ≤ ((l.length : Nat) : Int)) = false := decide_eq_false (by omega)
      have g4 : decide (0 < l.length) = false := decide_eq_false (by omega)
      go_wp2_with fail
      go_ret
      exact ⟨by rw [HP.out, decide_eq_false h1]; rfl, hb1⟩
/-! a projection -/
theorem proj_key (x : Prj) (c : List Value) (w : World) (hK : kP.K w x c) : Calls Try.prog 157 #[.agg c.toArray] w fun e w' => e = .returned (.string x.f0) ∧ Below w.heap.size w w' := by
  obtain ⟨A1, c1, rfl, _, _⟩ := k138_open hK
  go_enter Try.func157, Try.ntmps157
  go_wp2_with (first | ((with_reducible refine gate_dst (N := 1) rfl ?_); refine box_event rfl (N := 1) rfl (cs := #[.string x.f0, .slice A1 x.f1.length c1, .int .i64 x.f2]) (t := TP) ?hr ?_; (case hr => first | (go_simp; done) | (go_simp; rfl)); intro b hgb w1 hb hBb; have HXb := Aside0.mk hb; have HBb := Aside0.mk hBb; have hc0 : w1.cell? ⟨b, 0, none⟩ = some (.string x.f0) := (cell_of_row w1 b 0 _ _ _ hb).trans rfl; clear hgb hb hBb))
  go_ret
  exact ⟨rfl, HBb.out⟩
theorem num_key (x : Int) (w : World) : Calls Try.prog 167 #[.int .i64 x] w fun e w' => e = .returned (.int .i64 x) ∧ Below w.heap.size w w' := by
  go_enter Try.func167, Try.ntmps167
  go_wp2
  go_ret
  exact ⟨rfl, Below.refl _ _⟩
theorem proj_bad (c n : Int) (b : Nat) (w : World) (hb : w.heap[b]? = some (.cells #[.int .i64 n] 3 (0, 0))) : Calls Try.prog 165 #[.int .i64 c, .pointer (some ⟨b, 0, none⟩)] w fun e w' => e = .returned (.bool (!inP n c)) ∧ Below w.heap.size w w' := by
  have hcb : w.cell? ⟨b, 0, none⟩ = some (.int .i64 n) := (cell_of_row w b 0 _ _ _ hb).trans rfl
  by_cases h1 : c < 0
  · have HP : Aside0 (inP n c = false) := ⟨decide_eq_false (by omega)⟩
    have g1 : decide (c < 0) = true := decide_eq_true h1
    go_enter Try.func165, Try.ntmps165
    go_wp2
    go_ret
    exact ⟨by rw [HP.out]; rfl, Below.refl _ _⟩
  · by_cases h2 : n ≤ c
    · have HP : Aside0 (inP n c = false) := ⟨decide_eq_false (by omega)⟩
      have g1 : decide (c < 0) = false := decide_eq_false h1
      have g2 : decide (n ≤ c) = true := decide_eq_true h2
      go_enter Try.func165, Try.ntmps165
      go_wp2
      go_ret
      exact ⟨by rw [HP.out]; rfl, Below.refl _ _⟩
    · have HP : Aside0 (inP n c = true) := ⟨decide_eq_true (by omega)⟩
      have g1 : decide (c < 0) = false := decide_eq_false h1
      have g2 : decide (n ≤ c) = false := decide_eq_false h2
      go_enter Try.func165, Try.ntmps165
      go_wp2
      go_ret
      exact ⟨by rw [HP.out]; rfl, Below.refl _ _⟩
set_option maxHeartbeats 4000000 in
set_option maxRecDepth 100000 in
theorem projects_calls (p : Prj) (A1 : Option Addr) (c1 : Nat) (n : Int) (w : World) (hr : Kd.C (Kd.int .i64) w A1 p.f1.length p.f1) (hc1 : p.f1.length ≤ c1) (hl : p.f1.length ≤ 1000000) (hs : p.f0.size ≤ 9223372036854775807) (hn : n ≤ 1000000) :
    Calls Try.prog 152 #[.agg #[.string p.f0, .slice A1 p.f1.length c1, .int .i64 p.f2], .int .i64 n] w fun e w' => e = .returned (.bool (projP p n)) ∧ Below w.heap.size w w' := by
  have HR := Aside0.mk hr
  clear hr
  cases hall : p.f1.all (inP n) with
  | false =>
    have HALL := Aside0.mk hall
    have HP : Aside0 (projP p n = false) := ⟨by unfold projP; rw [hall]; rfl⟩
    clear hall
    go_enter Try.func152, Try.ntmps152
    go_wp2_with (first | ((with_reducible refine gate_dst (N := 2) rfl ?_); refine box_event rfl (N := 2) rfl (cs := #[.string p.f0, .slice A1 p.f1.length c1, .int .i64 p.f2]) (t := TP) ?hr ?_; (case hr => first | (go_simp; done) | (go_simp; rfl)); intro b2 hgb2 w2 hb2 hBb2; have HXb2 := Aside0.mk hb2; have HBb2 := Aside0.mk hBb2; clear hgb2 hb2 hBb2) | ((with_reducible refine gate_dst (N := 3) rfl ?_); refine box_event rfl (N := 3) rfl (cs := #[.int .i64 n]) (t := 3) ?hr ?_; (case hr => first | (go_simp; done) | (go_simp; rfl)); intro b3 hgb3 w3 hb3 hBb3; have HXb3 := Aside0.mk hb3; have HBb3 := Aside0.mk hBb3; have HX23 := Aside0.mk (blk_below HXb2.out hBb3); have hc21w3 : w3.cell? ⟨b2, 1, none⟩ = some (.slice A1 p.f1.length c1) := (cell_of_row w3 b2 1 _ _ _ HX23.out).trans rfl; clear hgb3 hb3 hBb3))
    refine (contains_int (.func (.func 165) #[] #[.pointer (some ⟨b3, 0, none⟩)]) (fun c => !inP n c) A1 c1 p.f1 _ (Kd.C_below HR.out (below_step HBb2.out HBb3.out)) hc1 (by omega) (fun i hi w4 hb4 => CallsV.of Try.func165 (by kernel_rfl) rfl (proj_bad p.f1[i] n b3 w4 (blk_below HXb3.out hb4)))).mono ?_
    rintro e w4 ⟨rfl, hb4⟩
    rw [any_not, HALL.out]
    have HB4 := Aside0.mk (below_step (below_step HBb2.out HBb3.out) hb4)
    have HX24 := Aside0.mk (blk_below HX23.out hb4)
    have HX34 := Aside0.mk (blk_below HXb3.out hb4)
    clear hb4 hc21w3
    have hc20w4 : w4.cell? ⟨b2, 0, none⟩ = some (.string p.f0) := (cell_of_row w4 b2 0 _ _ _ HX24.out).trans rfl
    have hc21w4 : w4.cell? ⟨b2, 1, none⟩ = some (.slice A1 p.f1.length c1) := (cell_of_row w4 b2 1 _ _ _ HX24.out).trans rfl
    have hc22w4 : w4.cell? ⟨b2, 2, none⟩ = some (.int .i64 p.f2) := (cell_of_row w4 b2 2 _ _ _ HX24.out).trans rfl
    have hc30w4 : w4.cell? ⟨b3, 0, none⟩ = some (.int .i64 n) := (cell_of_row w4 b3 0 _ _ _ HX34.out).trans rfl
    go_wp2_with fail
    go_ret
    exact ⟨by rw [HP.out]; rfl, HB4.out⟩
  | true =>
    have HALL := Aside0.mk hall
    have HG : Aside0 (∀ x ∈ p.f1, (Lit.int .i64 x).wf = true) := ⟨fun x hx => by
      have := List.all_eq_true.1 hall x hx
      have h2 : 0 ≤ x ∧ x < n := of_decide_eq_true this
      have hmin : IntKind.i64.min ≤ 0 := by decide
      have hmax : 1000000 ≤ IntKind.i64.max := by decide
      simp [Lit.wf]
      omega⟩
    cases hnm : nameP p.f0 with
    | false =>
    have HNM := Aside0.mk hnm
    have HP : Aside0 (projP p n = false) := ⟨by unfold projP; rw [hall, hnm]; rfl⟩
    clear hall hnm
    go_enter Try.func152, Try.ntmps152
    go_wp2_with (first | ((with_reducible refine gate_dst (N := 2) rfl ?_); refine box_event rfl (N := 2) rfl (cs := #[.string p.f0, .slice A1 p.f1.length c1, .int .i64 p.f2]) (t := TP) ?hr ?_; (case hr => first | (go_simp; done) | (go_simp; rfl)); intro b2 hgb2 w2 hb2 hBb2; have HXb2 := Aside0.mk hb2; have HBb2 := Aside0.mk hBb2; clear hgb2 hb2 hBb2) | ((with_reducible refine gate_dst (N := 3) rfl ?_); refine box_event rfl (N := 3) rfl (cs := #[.int .i64 n]) (t := 3) ?hr ?_; (case hr => first | (go_simp; done) | (go_simp; rfl)); intro b3 hgb3 w3 hb3 hBb3; have HXb3 := Aside0.mk hb3; have HBb3 := Aside0.mk hBb3; have HX23 := Aside0.mk (blk_below HXb2.out hBb3); have hc21w3 : w3.cell? ⟨b2, 1, none⟩ = some (.slice A1 p.f1.length c1) := (cell_of_row w3 b2 1 _ _ _ HX23.out).trans rfl; clear hgb3 hb3 hBb3))
    refine (contains_int (.func (.func 165) #[] #[.pointer (some ⟨b3, 0, none⟩)]) (fun c => !inP n c) A1 c1 p.f1 _ (Kd.C_below HR.out (below_step HBb2.out HBb3.out)) hc1 (by omega) (fun i hi w4 hb4 => CallsV.of Try.func165 (by kernel_rfl) rfl (proj_bad p.f1[i] n b3 w4 (blk_below HXb3.out hb4)))).mono ?_
    rintro e w4 ⟨rfl, hb4⟩
    rw [any_not, HALL.out]
    have HB4 := Aside0.mk (below_step (below_step HBb2.out HBb3.out) hb4)
    have HX24 := Aside0.mk (blk_below HX23.out hb4)
    have HX34 := Aside0.mk (blk_below HXb3.out hb4)
    clear hb4 hc21w3
    have hc20w4 : w4.cell? ⟨b2, 0, none⟩ = some (.string p.f0) := (cell_of_row w4 b2 0 _ _ _ HX24.out).trans rfl
    have hc21w4 : w4.cell? ⟨b2, 1, none⟩ = some (.slice A1 p.f1.length c1) := (cell_of_row w4 b2 1 _ _ _ HX24.out).trans rfl
    have hc22w4 : w4.cell? ⟨b2, 2, none⟩ = some (.int .i64 p.f2) := (cell_of_row w4 b2 2 _ _ _ HX24.out).trans rfl
    have hc30w4 : w4.cell? ⟨b3, 0, none⟩ = some (.int .i64 n) := (cell_of_row w4 b3 0 _ _ _ HX34.out).trans rfl
    go_wp2_with fail
    refine (name_calls p.f0 _ hs).mono ?_
    rintro e w5 ⟨rfl, hb5⟩
    rw [HNM.out]
    have HB5 := Aside0.mk (below_step HB4.out hb5)
    have HX25 := Aside0.mk (blk_below HX24.out hb5)
    have HX35 := Aside0.mk (blk_below HX34.out hb5)
    clear hb5 hc20w4 hc21w4 hc22w4 hc30w4
    have hc20w5 : w5.cell? ⟨b2, 0, none⟩ = some (.string p.f0) := (cell_of_row w5 b2 0 _ _ _ HX25.out).trans rfl
    have hc21w5 : w5.cell? ⟨b2, 1, none⟩ = some (.slice A1 p.f1.length c1) := (cell_of_row w5 b2 1 _ _ _ HX25.out).trans rfl
    have hc22w5 : w5.cell? ⟨b2, 2, none⟩ = some (.int .i64 p.f2) := (cell_of_row w5 b2 2 _ _ _ HX25.out).trans rfl
    have hc30w5 : w5.cell? ⟨b3, 0, none⟩ = some (.int .i64 n) := (cell_of_row w5 b3 0 _ _ _ HX35.out).trans rfl
    go_wp2_with fail
    go_ret
    exact ⟨by rw [HP.out]; rfl, HB5.out⟩
    | true =>
    have HNM := Aside0.mk hnm
    have hP : projP p n = (decide (1 ≤ p.f1.length) && decide ((p.f1.length : Int) ≤ n) && decide (0 ≤ p.f2) && decide (p.f2 ≤ p.f1.length) && onceP p.f1) := by unfold projP; rw [hall, hnm]; simp
    have HP := Aside0.mk hP
    clear hall hnm hP
    rcases Decidable.em (1 ≤ p.f1.length) with q0 | q0
    rotate_left
    · skip
      have a1 : decide (1 ≤ p.f1.length) = false := decide_eq_false (by omega)
      have a2 : decide (1 ≤ ((p.f1.length : Nat) : Int)) = false := decide_eq_false (by omega)
      have a3 : decide (0 < p.f1.length) = false := decide_eq_false (by omega)
      go_enter Try.func152, Try.ntmps152
      go_wp2_with (first | ((with_reducible refine gate_dst (N := 2) rfl ?_); refine box_event rfl (N := 2) rfl (cs := #[.string p.f0, .slice A1 p.f1.length c1, .int .i64 p.f2]) (t := TP) ?hr ?_; (case hr => first | (go_simp; done) | (go_simp; rfl)); intro b2 hgb2 w2 hb2 hBb2; have HXb2 := Aside0.mk hb2; have HBb2 := Aside0.mk hBb2; clear hgb2 hb2 hBb2) | ((with_reducible refine gate_dst (N := 3) rfl ?_); refine box_event rfl (N := 3) rfl (cs := #[.int .i64 n]) (t := 3) ?hr ?_; (case hr => first | (go_simp; done) | (go_simp; rfl)); intro b3 hgb3 w3 hb3 hBb3; have HXb3 := Aside0.mk hb3; have HBb3 := Aside0.mk hBb3; have HX23 := Aside0.mk (blk_below HXb2.out hBb3); have hc21w3 : w3.cell? ⟨b2, 1, none⟩ = some (.slice A1 p.f1.length c1) := (cell_of_row w3 b2 1 _ _ _ HX23.out).trans rfl; clear hgb3 hb3 hBb3))
      refine (contains_int (.func (.func 165) #[] #[.pointer (some ⟨b3, 0, none⟩)]) (fun c => !inP n c) A1 c1 p.f1 _ (Kd.C_below HR.out (below_step HBb2.out HBb3.out)) hc1 (by omega) (fun i hi w4 hb4 => CallsV.of Try.func165 (by kernel_rfl) rfl (proj_bad p.f1[i] n b3 w4 (blk_below HXb3.out hb4)))).mono ?_
      rintro e w4 ⟨rfl, hb4⟩
      rw [any_not, HALL.out]
      have HB4 := Aside0.mk (below_step (below_step HBb2.out HBb3.out) hb4)
      have HX24 := Aside0.mk (blk_below HX23.out hb4)
      have HX34 := Aside0.mk (blk_below HXb3.out hb4)
      clear hb4 hc21w3
      have hc20w4 : w4.cell? ⟨b2, 0, none⟩ = some (.string p.f0) := (cell_of_row w4 b2 0 _ _ _ HX24.out).trans rfl
      have hc21w4 : w4.cell? ⟨b2, 1, none⟩ = some (.slice A1 p.f1.length c1) := (cell_of_row w4 b2 1 _ _ _ HX24.out).trans rfl
      have hc22w4 : w4.cell? ⟨b2, 2, none⟩ = some (.int .i64 p.f2) := (cell_of_row w4 b2 2 _ _ _ HX24.out).trans rfl
      have hc30w4 : w4.cell? ⟨b3, 0, none⟩ = some (.int .i64 n) := (cell_of_row w4 b3 0 _ _ _ HX34.out).trans rfl
      go_wp2_with fail
      refine (name_calls p.f0 _ hs).mono ?_
      rintro e w5 ⟨rfl, hb5⟩
      rw [HNM.out]
      have HB5 := Aside0.mk (below_step HB4.out hb5)
      have HX25 := Aside0.mk (blk_below HX24.out hb5)
      have HX35 := Aside0.mk (blk_below HX34.out hb5)
      clear hb5 hc20w4 hc21w4 hc22w4 hc30w4
      have hc20w5 : w5.cell? ⟨b2, 0, none⟩ = some (.string p.f0) := (cell_of_row w5 b2 0 _ _ _ HX25.out).trans rfl
      have hc21w5 : w5.cell? ⟨b2, 1, none⟩ = some (.slice A1 p.f1.length c1) := (cell_of_row w5 b2 1 _ _ _ HX25.out).trans rfl
      have hc22w5 : w5.cell? ⟨b2, 2, none⟩ = some (.int .i64 p.f2) := (cell_of_row w5 b2 2 _ _ _ HX25.out).trans rfl
      have hc30w5 : w5.cell? ⟨b3, 0, none⟩ = some (.int .i64 n) := (cell_of_row w5 b3 0 _ _ _ HX35.out).trans rfl
      go_wp2_with fail
      go_ret
      refine ⟨?_, HB5.out⟩
      rw [HP.out, (decide_eq_false (by omega) : decide (1 ≤ p.f1.length) = false)]
      simp
    rcases Decidable.em ((p.f1.length : Int) ≤ n) with q1 | q1
    rotate_left
    · skip
      have a1 : decide (1 ≤ p.f1.length) = true := decide_eq_true (by omega)
      have a2 : decide (1 ≤ ((p.f1.length : Nat) : Int)) = true := decide_eq_true (by omega)
      have a3 : decide (0 < p.f1.length) = true := decide_eq_true (by omega)
      have b1 : decide (((p.f1.length : Nat) : Int) ≤ n) = false := decide_eq_false (by omega)
      go_enter Try.func152, Try.ntmps152
      go_wp2_with (first | ((with_reducible refine gate_dst (N := 2) rfl ?_); refine box_event rfl (N := 2) rfl (cs := #[.string p.f0, .slice A1 p.f1.length c1, .int .i64 p.f2]) (t := TP) ?hr ?_; (case hr => first | (go_simp; done) | (go_simp; rfl)); intro b2 hgb2 w2 hb2 hBb2; have HXb2 := Aside0.mk hb2; have HBb2 := Aside0.mk hBb2; clear hgb2 hb2 hBb2) | ((with_reducible refine gate_dst (N := 3) rfl ?_); refine box_event rfl (N := 3) rfl (cs := #[.int .i64 n]) (t := 3) ?hr ?_; (case hr => first | (go_simp; done) | (go_simp; rfl)); intro b3 hgb3 w3 hb3 hBb3; have HXb3 := Aside0.mk hb3; have HBb3 := Aside0.mk hBb3; have HX23 := Aside0.mk (blk_below HXb2.out hBb3); have hc21w3 : w3.cell? ⟨b2, 1, none⟩ = some (.slice A1 p.f1.length c1) := (cell_of_row w3 b2 1 _ _ _ HX23.out).trans rfl; clear hgb3 hb3 hBb3))
      refine (contains_int (.func (.func 165) #[] #[.pointer (some ⟨b3, 0, none⟩)]) (fun c => !inP n c) A1 c1 p.f1 _ (Kd.C_below HR.out (below_step HBb2.out HBb3.out)) hc1 (by omega) (fun i hi w4 hb4 => CallsV.of Try.func165 (by kernel_rfl) rfl (proj_bad p.f1[i] n b3 w4 (blk_below HXb3.out hb4)))).mono ?_
      rintro e w4 ⟨rfl, hb4⟩
      rw [any_not, HALL.out]
      have HB4 := Aside0.mk (below_step (below_step HBb2.out HBb3.out) hb4)
      have HX24 := Aside0.mk (blk_below HX23.out hb4)
      have HX34 := Aside0.mk (blk_below HXb3.out hb4)
      clear hb4 hc21w3
      have hc20w4 : w4.cell? ⟨b2, 0, none⟩ = some (.string p.f0) := (cell_of_row w4 b2 0 _ _ _ HX24.out).trans rfl
      have hc21w4 : w4.cell? ⟨b2, 1, none⟩ = some (.slice A1 p.f1.length c1) := (cell_of_row w4 b2 1 _ _ _ HX24.out).trans rfl
      have hc22w4 : w4.cell? ⟨b2, 2, none⟩ = some (.int .i64 p.f2) := (cell_of_row w4 b2 2 _ _ _ HX24.out).trans rfl
      have hc30w4 : w4.cell? ⟨b3, 0, none⟩ = some (.int .i64 n) := (cell_of_row w4 b3 0 _ _ _ HX34.out).trans rfl
      go_wp2_with fail
      refine (name_calls p.f0 _ hs).mono ?_
      rintro e w5 ⟨rfl, hb5⟩
      rw [HNM.out]
      have HB5 := Aside0.mk (below_step HB4.out hb5)
      have HX25 := Aside0.mk (blk_below HX24.out hb5)
      have HX35 := Aside0.mk (blk_below HX34.out hb5)
      clear hb5 hc20w4 hc21w4 hc22w4 hc30w4
      have hc20w5 : w5.cell? ⟨b2, 0, none⟩ = some (.string p.f0) := (cell_of_row w5 b2 0 _ _ _ HX25.out).trans rfl
      have hc21w5 : w5.cell? ⟨b2, 1, none⟩ = some (.slice A1 p.f1.length c1) := (cell_of_row w5 b2 1 _ _ _ HX25.out).trans rfl
      have hc22w5 : w5.cell? ⟨b2, 2, none⟩ = some (.int .i64 p.f2) := (cell_of_row w5 b2 2 _ _ _ HX25.out).trans rfl
      have hc30w5 : w5.cell? ⟨b3, 0, none⟩ = some (.int .i64 n) := (cell_of_row w5 b3 0 _ _ _ HX35.out).trans rfl
      go_wp2_with fail
      go_ret
      refine ⟨?_, HB5.out⟩
      rw [HP.out, (decide_eq_false (by omega) : decide ((p.f1.length : Int) ≤ n) = false)]
      simp [decide_eq_true q0]
    rcases Decidable.em (0 ≤ p.f2) with q2 | q2
    rotate_left
    · skip
      have a1 : decide (1 ≤ p.f1.length) = true := decide_eq_true (by omega)
      have a2 : decide (1 ≤ ((p.f1.length : Nat) : Int)) = true := decide_eq_true (by omega)
      have a3 : decide (0 < p.f1.length) = true := decide_eq_true (by omega)
      have b1 : decide (((p.f1.length : Nat) : Int) ≤ n) = true := decide_eq_true (by omega)
      have d1 : decide (0 ≤ p.f2) = false := decide_eq_false (by omega)
      go_enter Try.func152, Try.ntmps152
      go_wp2_with (first | ((with_reducible refine gate_dst (N := 2) rfl ?_); refine box_event rfl (N := 2) rfl (cs := #[.string p.f0, .slice A1 p.f1.length c1, .int .i64 p.f2]) (t := TP) ?hr ?_; (case hr => first | (go_simp; done) | (go_simp; rfl)); intro b2 hgb2 w2 hb2 hBb2; have HXb2 := Aside0.mk hb2; have HBb2 := Aside0.mk hBb2; clear hgb2 hb2 hBb2) | ((with_reducible refine gate_dst (N := 3) rfl ?_); refine box_event rfl (N := 3) rfl (cs := #[.int .i64 n]) (t := 3) ?hr ?_; (case hr => first | (go_simp; done) | (go_simp; rfl)); intro b3 hgb3 w3 hb3 hBb3; have HXb3 := Aside0.mk hb3; have HBb3 := Aside0.mk hBb3; have HX23 := Aside0.mk (blk_below HXb2.out hBb3); have hc21w3 : w3.cell? ⟨b2, 1, none⟩ = some (.slice A1 p.f1.length c1) := (cell_of_row w3 b2 1 _ _ _ HX23.out).trans rfl; clear hgb3 hb3 hBb3))
      refine (contains_int (.func (.func 165) #[] #[.pointer (some ⟨b3, 0, none⟩)]) (fun c => !inP n c) A1 c1 p.f1 _ (Kd.C_below HR.out (below_step HBb2.out HBb3.out)) hc1 (by omega) (fun i hi w4 hb4 => CallsV.of Try.func165 (by kernel_rfl) rfl (proj_bad p.f1[i] n b3 w4 (blk_below HXb3.out hb4)))).mono ?_
      rintro e w4 ⟨rfl, hb4⟩
      rw [any_not, HALL.out]
      have HB4 := Aside0.mk (below_step (below_step HBb2.out HBb3.out) hb4)
      have HX24 := Aside0.mk (blk_below HX23.out hb4)
      have HX34 := Aside0.mk (blk_below HXb3.out hb4)
      clear hb4 hc21w3
      have hc20w4 : w4.cell? ⟨b2, 0, none⟩ = some (.string p.f0) := (cell_of_row w4 b2 0 _ _ _ HX24.out).trans rfl
      have hc21w4 : w4.cell? ⟨b2, 1, none⟩ = some (.slice A1 p.f1.length c1) := (cell_of_row w4 b2 1 _ _ _ HX24.out).trans rfl
      have hc22w4 : w4.cell? ⟨b2, 2, none⟩ = some (.int .i64 p.f2) := (cell_of_row w4 b2 2 _ _ _ HX24.out).trans rfl
      have hc30w4 : w4.cell? ⟨b3, 0, none⟩ = some (.int .i64 n) := (cell_of_row w4 b3 0 _ _ _ HX34.out).trans rfl
      go_wp2_with fail
      refine (name_calls p.f0 _ hs).mono ?_
      rintro e w5 ⟨rfl, hb5⟩
      rw [HNM.out]
      have HB5 := Aside0.mk (below_step HB4.out hb5)
      have HX25 := Aside0.mk (blk_below HX24.out hb5)
      have HX35 := Aside0.mk (blk_below HX34.out hb5)
      clear hb5 hc20w4 hc21w4 hc22w4 hc30w4
      have hc20w5 : w5.cell? ⟨b2, 0, none⟩ = some (.string p.f0) := (cell_of_row w5 b2 0 _ _ _ HX25.out).trans rfl
      have hc21w5 : w5.cell? ⟨b2, 1, none⟩ = some (.slice A1 p.f1.length c1) := (cell_of_row w5 b2 1 _ _ _ HX25.out).trans rfl
      have hc22w5 : w5.cell? ⟨b2, 2, none⟩ = some (.int .i64 p.f2) := (cell_of_row w5 b2 2 _ _ _ HX25.out).trans rfl
      have hc30w5 : w5.cell? ⟨b3, 0, none⟩ = some (.int .i64 n) := (cell_of_row w5 b3 0 _ _ _ HX35.out).trans rfl
      go_wp2_with fail
      go_ret
      refine ⟨?_, HB5.out⟩
      rw [HP.out, (decide_eq_false (by omega) : decide (0 ≤ p.f2) = false)]
      simp [decide_eq_true q0, decide_eq_true q1]
    rcases Decidable.em (p.f2 ≤ (p.f1.length : Int)) with q3 | q3
    rotate_left
    · skip
      have a1 : decide (1 ≤ p.f1.length) = true := decide_eq_true (by omega)
      have a2 : decide (1 ≤ ((p.f1.length : Nat) : Int)) = true := decide_eq_true (by omega)
      have a3 : decide (0 < p.f1.length) = true := decide_eq_true (by omega)
      have b1 : decide (((p.f1.length : Nat) : Int) ≤ n) = true := decide_eq_true (by omega)
      have d1 : decide (0 ≤ p.f2) = true := decide_eq_true (by omega)
      have e1 : decide (p.f2 ≤ ((p.f1.length : Nat) : Int)) = false := decide_eq_false (by omega)
      go_enter Try.func152, Try.ntmps152
      go_wp2_with (first | ((with_reducible refine gate_dst (N := 2) rfl ?_); refine box_event rfl (N := 2) rfl (cs := #[.string p.f0, .slice A1 p.f1.length c1, .int .i64 p.f2]) (t := TP) ?hr ?_; (case hr => first | (go_simp; done) | (go_simp; rfl)); intro b2 hgb2 w2 hb2 hBb2; have HXb2 := Aside0.mk hb2; have HBb2 := Aside0.mk hBb2; clear hgb2 hb2 hBb2) | ((with_reducible refine gate_dst (N := 3) rfl ?_); refine box_event rfl (N := 3) rfl (cs := #[.int .i64 n]) (t := 3) ?hr ?_; (case hr => first | (go_simp; done) | (go_simp; rfl)); intro b3 hgb3 w3 hb3 hBb3; have HXb3 := Aside0.mk hb3; have HBb3 := Aside0.mk hBb3; have HX23 := Aside0.mk (blk_below HXb2.out hBb3); have hc21w3 : w3.cell? ⟨b2, 1, none⟩ = some (.slice A1 p.f1.length c1) := (cell_of_row w3 b2 1 _ _ _ HX23.out).trans rfl; clear hgb3 hb3 hBb3))
      refine (contains_int (.func (.func 165) #[] #[.pointer (some ⟨b3, 0, none⟩)]) (fun c => !inP n c) A1 c1 p.f1 _ (Kd.C_below HR.out (below_step HBb2.out HBb3.out)) hc1 (by omega) (fun i hi w4 hb4 => CallsV.of Try.func165 (by kernel_rfl) rfl (proj_bad p.f1[i] n b3 w4 (blk_below HXb3.out hb4)))).mono ?_
      rintro e w4 ⟨rfl, hb4⟩
      rw [any_not, HALL.out]
      have HB4 := Aside0.mk (below_step (below_step HBb2.out HBb3.out) hb4)
      have HX24 := Aside0.mk (blk_below HX23.out hb4)
      have HX34 := Aside0.mk (blk_below HXb3.out hb4)
      clear hb4 hc21w3
      have hc20w4 : w4.cell? ⟨b2, 0, none⟩ = some (.string p.f0) := (cell_of_row w4 b2 0 _ _ _ HX24.out).trans rfl
      have hc21w4 : w4.cell? ⟨b2, 1, none⟩ = some (.slice A1 p.f1.length c1) := (cell_of_row w4 b2 1 _ _ _ HX24.out).trans rfl
      have hc22w4 : w4.cell? ⟨b2, 2, none⟩ = some (.int .i64 p.f2) := (cell_of_row w4 b2 2 _ _ _ HX24.out).trans rfl
      have hc30w4 : w4.cell? ⟨b3, 0, none⟩ = some (.int .i64 n) := (cell_of_row w4 b3 0 _ _ _ HX34.out).trans rfl
      go_wp2_with fail
      refine (name_calls p.f0 _ hs).mono ?_
      rintro e w5 ⟨rfl, hb5⟩
      rw [HNM.out]
      have HB5 := Aside0.mk (below_step HB4.out hb5)
      have HX25 := Aside0.mk (blk_below HX24.out hb5)
      have HX35 := Aside0.mk (blk_below HX34.out hb5)
      clear hb5 hc20w4 hc21w4 hc22w4 hc30w4
      have hc20w5 : w5.cell? ⟨b2, 0, none⟩ = some (.string p.f0) := (cell_of_row w5 b2 0 _ _ _ HX25.out).trans rfl
      have hc21w5 : w5.cell? ⟨b2, 1, none⟩ = some (.slice A1 p.f1.length c1) := (cell_of_row w5 b2 1 _ _ _ HX25.out).trans rfl
      have hc22w5 : w5.cell? ⟨b2, 2, none⟩ = some (.int .i64 p.f2) := (cell_of_row w5 b2 2 _ _ _ HX25.out).trans rfl
      have hc30w5 : w5.cell? ⟨b3, 0, none⟩ = some (.int .i64 n) := (cell_of_row w5 b3 0 _ _ _ HX35.out).trans rfl
      go_wp2_with fail
      go_ret
      refine ⟨?_, HB5.out⟩
      rw [HP.out, (decide_eq_false (by omega) : decide (p.f2 ≤ (p.f1.length : Int)) = false)]
      simp [decide_eq_true q0, decide_eq_true q1, decide_eq_true q2]
    have a1 : decide (1 ≤ p.f1.length) = true := decide_eq_true (by omega)
    have a2 : decide (1 ≤ ((p.f1.length : Nat) : Int)) = true := decide_eq_true (by omega)
    have a3 : decide (0 < p.f1.length) = true := decide_eq_true (by omega)
    have b1 : decide (((p.f1.length : Nat) : Int) ≤ n) = true := decide_eq_true (by omega)
    have d1 : decide (0 ≤ p.f2) = true := decide_eq_true (by omega)
    have e1 : decide (p.f2 ≤ ((p.f1.length : Nat) : Int)) = true := decide_eq_true (by omega)
    go_enter Try.func152, Try.ntmps152
    go_wp2_with (first | ((with_reducible refine gate_dst (N := 2) rfl ?_); refine box_event rfl (N := 2) rfl (cs := #[.string p.f0, .slice A1 p.f1.length c1, .int .i64 p.f2]) (t := TP) ?hr ?_; (case hr => first | (go_simp; done) | (go_simp; rfl)); intro b2 hgb2 w2 hb2 hBb2; have HXb2 := Aside0.mk hb2; have HBb2 := Aside0.mk hBb2; clear hgb2 hb2 hBb2) | ((with_reducible refine gate_dst (N := 3) rfl ?_); refine box_event rfl (N := 3) rfl (cs := #[.int .i64 n]) (t := 3) ?hr ?_; (case hr => first | (go_simp; done) | (go_simp; rfl)); intro b3 hgb3 w3 hb3 hBb3; have HXb3 := Aside0.mk hb3; have HBb3 := Aside0.mk hBb3; have HX23 := Aside0.mk (blk_below HXb2.out hBb3); have hc21w3 : w3.cell? ⟨b2, 1, none⟩ = some (.slice A1 p.f1.length c1) := (cell_of_row w3 b2 1 _ _ _ HX23.out).trans rfl; clear hgb3 hb3 hBb3))
    refine (contains_int (.func (.func 165) #[] #[.pointer (some ⟨b3, 0, none⟩)]) (fun c => !inP n c) A1 c1 p.f1 _ (Kd.C_below HR.out (below_step HBb2.out HBb3.out)) hc1 (by omega) (fun i hi w4 hb4 => CallsV.of Try.func165 (by kernel_rfl) rfl (proj_bad p.f1[i] n b3 w4 (blk_below HXb3.out hb4)))).mono ?_
    rintro e w4 ⟨rfl, hb4⟩
    rw [any_not, HALL.out]
    have HB4 := Aside0.mk (below_step (below_step HBb2.out HBb3.out) hb4)
    have HX24 := Aside0.mk (blk_below HX23.out hb4)
    have HX34 := Aside0.mk (blk_below HXb3.out hb4)
    clear hb4 hc21w3
    have hc20w4 : w4.cell? ⟨b2, 0, none⟩ = some (.string p.f0) := (cell_of_row w4 b2 0 _ _ _ HX24.out).trans rfl
    have hc21w4 : w4.cell? ⟨b2, 1, none⟩ = some (.slice A1 p.f1.length c1) := (cell_of_row w4 b2 1 _ _ _ HX24.out).trans rfl
    have hc22w4 : w4.cell? ⟨b2, 2, none⟩ = some (.int .i64 p.f2) := (cell_of_row w4 b2 2 _ _ _ HX24.out).trans rfl
    have hc30w4 : w4.cell? ⟨b3, 0, none⟩ = some (.int .i64 n) := (cell_of_row w4 b3 0 _ _ _ HX34.out).trans rfl
    go_wp2_with fail
    refine (name_calls p.f0 _ hs).mono ?_
    rintro e w5 ⟨rfl, hb5⟩
    rw [HNM.out]
    have HB5 := Aside0.mk (below_step HB4.out hb5)
    have HX25 := Aside0.mk (blk_below HX24.out hb5)
    have HX35 := Aside0.mk (blk_below HX34.out hb5)
    clear hb5 hc20w4 hc21w4 hc22w4 hc30w4
    have hc20w5 : w5.cell? ⟨b2, 0, none⟩ = some (.string p.f0) := (cell_of_row w5 b2 0 _ _ _ HX25.out).trans rfl
    have hc21w5 : w5.cell? ⟨b2, 1, none⟩ = some (.slice A1 p.f1.length c1) := (cell_of_row w5 b2 1 _ _ _ HX25.out).trans rfl
    have hc22w5 : w5.cell? ⟨b2, 2, none⟩ = some (.int .i64 p.f2) := (cell_of_row w5 b2 2 _ _ _ HX25.out).trans rfl
    have hc30w5 : w5.cell? ⟨b3, 0, none⟩ = some (.int .i64 n) := (cell_of_row w5 b3 0 _ _ _ HX35.out).trans rfl
    go_wp2_with fail
    refine (twice_int (.func (.func 167) #[] #[]) (fun x => x) A1 c1 p.f1 _ (Kd.C_below HR.out HB5.out) hl HG.out (fun i hi w2 hb => CallsV.of Try.func167 (by kernel_rfl) rfl (num_key p.f1[i] w2))).mono ?_
    rintro e w6 ⟨rfl, hb6⟩
    have HB6 := Aside0.mk (below_step HB5.out hb6)
    clear hb6 hc20w5 hc21w5 hc22w5 hc30w5
    go_wp2_with fail
    go_ret
    refine ⟨?_, HB6.out⟩
    rw [HP.out, decide_eq_true q0, decide_eq_true q1, decide_eq_true q2, decide_eq_true q3]
    simp
end Go.Proofs.Ytgjclhhjigflkab.Sc
