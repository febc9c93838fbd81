import Derived.Test.YtgjclhhjigflkacScInts
import Derived.Test.YtgjclhhjigflkacCx13
import Derived.Laws.Cover3
/- The walks of schema's checks: columns, projections, tables. (Written by genchk.py.) -/
namespace Go.Proofs.Ytgjclhhjigflkac.Sc
open Go Go.RowKit Go.Proofs.Ytgjclhhjigflkac.C Go.Proofs.Ytgjclhhjigflkac.MyWords Go.Proofs.Ytgjclhhjigflkac.Hand Go.Proofs.YtgjclhhjigflkacW.PrintWords Go.Proofs.YtgjclhhjigflkacW.PrintLast Go.Proofs.YtgjclhhjigflkacW.PrintMore
set_option linter.unusedVariables false
set_option linter.unusedSimpArgs false
/-! a column -/
theorem col_key (x : Col) (c : List Value) (w : World) (hK : kC.K w x c) : Calls Try.prog 134 #[.agg c.toArray] w fun e w' => e = .returned (.string x.f0) ∧ Below w.heap.size w w' := by
  obtain rfl := k96_open hK
  go_enter Try.func134, Try.ntmps134
  go_wp2_with (first | ((with_reducible refine gate_dst (N := 1) rfl ?_); refine box_event rfl (N := 1) rfl (cs := #[.string x.f0, .int .i64 x.f1, .bool x.f2]) (t := TC) ?hr ?_; (case hr => first | (go_simp; done) | (go_simp; rfl)); intro b hgb w1 hb hBb; have HXb := Aside0.mk hb; have HBb := Aside0.mk hBb; have hc0 : w1.cell? ⟨b, 0, none⟩ = some (.string x.f0) := (cell_of_row w1 b 0 _ _ _ hb).trans rfl; clear hgb hb hBb))
  go_ret
  exact ⟨rfl, HBb.out⟩
theorem col_bad (x : Col) (c : List Value) (w : World) (hK : kC.K w x c) (hs : x.f0.size ≤ 9223372036854775807) : Calls Try.prog 132 #[.agg c.toArray] w fun e w' => e = .returned (.bool (!colP x)) ∧ Below w.heap.size w w' := by
  obtain rfl := k96_open hK
  cases hn : nameP x.f0 with
  | false =>
    have hP : colP x = false := by unfold colP; rw [hn]; rfl
    have HP := Aside0.mk hP
    have HN := Aside0.mk hn
    clear hP hn
    go_enter Try.func132, Try.ntmps132
    go_wp2_with (first | ((with_reducible refine gate_dst (N := 1) rfl ?_); refine box_event rfl (N := 1) rfl (cs := #[.string x.f0, .int .i64 x.f1, .bool x.f2]) (t := TC) ?hr ?_; (case hr => first | (go_simp; done) | (go_simp; rfl)); intro b hgb w1 hb hBb; have HXb := Aside0.mk hb; have HBb := Aside0.mk hBb; have hc0 : w1.cell? ⟨b, 0, none⟩ = some (.string x.f0) := (cell_of_row w1 b 0 _ _ _ hb).trans rfl; clear hgb hb hBb))
    refine (name_calls x.f0 _ hs).mono ?_
    rintro e w2 ⟨rfl, hb2⟩
    rw [HN.out]
    go_wp2_with fail
    go_ret
    exact ⟨by rw [HP.out]; rfl, below_step HBb.out hb2⟩
  | true =>
    have hP : colP x = (decide (x.f1 = 1) || decide (x.f1 = 2)) := by unfold colP; rw [hn]; rfl
    have HP := Aside0.mk hP
    have HN := Aside0.mk hn
    clear hP hn
    have hcs : x.f1 = 1 ∨ x.f1 = 2 ∨ (¬ x.f1 = 1 ∧ ¬ x.f1 = 2) := by omega
    rcases hcs with h1 | h1 | ⟨h1, h2⟩
    · have g1 : (x.f1 != 1) = false := by simp [h1]
      have HH := Aside0.mk h1
      clear h1
      go_enter Try.func132, Try.ntmps132
      go_wp2_with (first | ((with_reducible refine gate_dst (N := 1) rfl ?_); refine box_event rfl (N := 1) rfl (cs := #[.string x.f0, .int .i64 x.f1, .bool x.f2]) (t := TC) ?hr ?_; (case hr => first | (go_simp; done) | (go_simp; rfl)); intro b hgb w1 hb hBb; have HXb := Aside0.mk hb; have HBb := Aside0.mk hBb; have hc0 : w1.cell? ⟨b, 0, none⟩ = some (.string x.f0) := (cell_of_row w1 b 0 _ _ _ hb).trans rfl; clear hgb hb hBb))
      refine (name_calls x.f0 _ hs).mono ?_
      rintro e w2 ⟨rfl, hb2⟩
      rw [HN.out]
      have hc1 : w2.cell? ⟨b, 1, none⟩ = some (.int .i64 x.f1) := (cell_of_row w2 b 1 _ _ _ (blk_below HXb.out hb2)).trans rfl
      have HB2 := Aside0.mk hb2
      clear hb2 hc0
      go_wp2_with fail
      go_ret
      exact ⟨by rw [HP.out, decide_eq_true HH.out]; rfl, below_step HBb.out HB2.out⟩
    · have g1 : (x.f1 != 1) = true := by simp [h1]
      have g2 : (x.f1 != 2) = false := by simp [h1]
      have HH := Aside0.mk h1
      clear h1
      go_enter Try.func132, Try.ntmps132
      go_wp2_with (first | ((with_reducible refine gate_dst (N := 1) rfl ?_); refine box_event rfl (N := 1) rfl (cs := #[.string x.f0, .int .i64 x.f1, .bool x.f2]) (t := TC) ?hr ?_; (case hr => first | (go_simp; done) | (go_simp; rfl)); intro b hgb w1 hb hBb; have HXb := Aside0.mk hb; have HBb := Aside0.mk hBb; have hc0 : w1.cell? ⟨b, 0, none⟩ = some (.string x.f0) := (cell_of_row w1 b 0 _ _ _ hb).trans rfl; clear hgb hb hBb))
      refine (name_calls x.f0 _ hs).mono ?_
      rintro e w2 ⟨rfl, hb2⟩
      rw [HN.out]
      have hc1 : w2.cell? ⟨b, 1, none⟩ = some (.int .i64 x.f1) := (cell_of_row w2 b 1 _ _ _ (blk_below HXb.out hb2)).trans rfl
      have HB2 := Aside0.mk hb2
      clear hb2 hc0
      go_wp2_with fail
      go_ret
      exact ⟨by rw [HP.out, decide_eq_true HH.out, Bool.or_true]; rfl, below_step HBb.out HB2.out⟩
    · have g1 : (x.f1 != 1) = true := by simp [h1]
      have g2 : (x.f1 != 2) = true := by simp [h2]
      have HH := Aside0.mk h1
      have HH2 := Aside0.mk h2
      clear h1 h2
      go_enter Try.func132, Try.ntmps132
      go_wp2_with (first | ((with_reducible refine gate_dst (N := 1) rfl ?_); refine box_event rfl (N := 1) rfl (cs := #[.string x.f0, .int .i64 x.f1, .bool x.f2]) (t := TC) ?hr ?_; (case hr => first | (go_simp; done) | (go_simp; rfl)); intro b hgb w1 hb hBb; have HXb := Aside0.mk hb; have HBb := Aside0.mk hBb; have hc0 : w1.cell? ⟨b, 0, none⟩ = some (.string x.f0) := (cell_of_row w1 b 0 _ _ _ hb).trans rfl; clear hgb hb hBb))
      refine (name_calls x.f0 _ hs).mono ?_
      rintro e w2 ⟨rfl, hb2⟩
      rw [HN.out]
      have hc1 : w2.cell? ⟨b, 1, none⟩ = some (.int .i64 x.f1) := (cell_of_row w2 b 1 _ _ _ (blk_below HXb.out hb2)).trans rfl
      have HB2 := Aside0.mk hb2
      clear hb2 hc0
      go_wp2_with fail
      go_ret
      exact ⟨by rw [HP.out, decide_eq_false HH.out, decide_eq_false HH2.out]; rfl, below_step HBb.out HB2.out⟩
/-! columns -/
set_option maxHeartbeats 2000000 in
set_option maxRecDepth 100000 in
theorem cols_calls (l : List Col) (A : Option Addr) (c0 : Nat) (w : World) (hr : Kd.C kC w A l.length l) (hc : l.length ≤ c0) (hl : l.length ≤ 1000000) (hg : ∀ x ∈ l, x.f0.size ≤ 9223372036854775807) :
    Calls Try.prog 100 #[.slice A l.length c0] w fun e w' => e = .returned (.bool (colsP l)) ∧ Below w.heap.size w w' := by
  have H1 := Aside0.mk (contains_col (.func (.func 132) #[] #[]) (fun c => !colP c) A c0 l w hr hc (by omega) (fun i hi c w1 hb hcl hk => CallsV.of Try.func132 (by kernel_rfl) rfl (col_bad l[i] c w1 hk (hg _ (List.getElem_mem hi)))))
  rw [any_not] at H1
  have HR := Aside0.mk hr
  clear hr hg
  cases ha : l.all colP with
  | false =>
    have HP : Aside0 (colsP l = false) := ⟨by unfold colsP; rw [ha]; rfl⟩
    rw [ha] at H1
    clear ha
    go_enter Try.func100, Try.ntmps100
    go_wp2_with fail
    refine H1.out.mono ?_
    rintro e w1 ⟨rfl, hb1⟩
    go_wp2_with fail
    go_ret
    exact ⟨by rw [HP.out]; rfl, hb1⟩
  | true =>
    have hP : colsP l = (decide (1 ≤ l.length) && decide (l.length ≤ 8) && onceP (l.map (·.f0))) := by unfold colsP; rw [ha]; rfl
    have HP := Aside0.mk hP
    have hk : ∀ x ∈ l, x.f0.size ≤ maxLen := fun x hx => by
      have h1 := List.all_eq_true.1 ha x hx
      unfold colP at h1
      rw [Bool.and_eq_true] at h1
      have := nameP_size h1.1
      unfold maxLen
      omega
    have HK := Aside0.mk hk
    rw [ha] at H1
    clear ha hP hk
    by_cases h1 : 1 ≤ l.length
    · by_cases h8 : l.length ≤ 8
      · go_enter Try.func100, Try.ntmps100
        go_wp2_with fail
        refine H1.out.mono ?_
        rintro e w1 ⟨rfl, hb1⟩
        have HB1 := Aside0.mk hb1
        clear hb1
        have ta1 : decide (l.length ≤ 8) = true := decide_eq_true (by omega)
        have ta2 : decide (((l.length : Nat) : Int) ≤ 8) = true := decide_eq_true (by omega)
        go_wp2_with fail
        refine (twice_col (.func (.func 134) #[] #[]) (·.f0) A c0 l _ (Kd.C_below HR.out HB1.out) hl HK.out (fun i hi c w2 hb hcl hk => CallsV.of Try.func134 (by kernel_rfl) rfl (col_key l[i] c w2 hk))).mono ?_
        rintro e w2 ⟨rfl, hb2⟩
        go_wp2_with fail
        go_ret
        exact ⟨by rw [HP.out, decide_eq_true h1, decide_eq_true h8]; simp, below_step HB1.out hb2⟩
      · go_enter Try.func100, Try.ntmps100
        go_wp2_with fail
        refine H1.out.mono ?_
        rintro e w1 ⟨rfl, hb1⟩
        have f1 : decide (l.length ≤ 8) = false := decide_eq_false (by omega)
        have f2 : decide (((l.length : Nat) : Int) ≤ 8) = false := decide_eq_false (by omega)
        go_wp2_with fail
        go_ret
        exact ⟨by rw [HP.out, decide_eq_false h8, Bool.and_false]; rfl, hb1⟩
    · go_enter Try.func100, Try.ntmps100
      go_wp2_with fail
      refine H1.out.mono ?_
      rintro e w1 ⟨rfl, hb1⟩
      have g1 : decide (1 ≤ l.length) = false := decide_eq_false (by omega)
      have g3 : decide (1 ≤ ((l.length : Nat) : Int)) = false := decide_eq_false (by omega)
      have g4 : decide (0 < l.length) = false := decide_eq_false (by omega)
      go_wp2_with fail
      go_ret
      exact ⟨by rw [HP.out, decide_eq_false h1]; rfl, hb1⟩
/-! a projection -/
theorem proj_key (x : Prj) (c : List Value) (w : World) (hK : kP.K w x c) : Calls Try.prog 126 #[.agg c.toArray] w fun e w' => e = .returned (.string x.f0) ∧ Below w.heap.size w w' := by
  obtain ⟨A1, c1, rfl, _, _⟩ := k52_open hK
  go_enter Try.func126, Try.ntmps126
  go_wp2_with (first | ((with_reducible refine gate_dst (N := 1) rfl ?_); refine box_event rfl (N := 1) rfl (cs := #[.string x.f0, .slice A1 x.f1.length c1, .int .i64 x.f2]) (t := TP) ?hr ?_; (case hr => first | (go_simp; done) | (go_simp; rfl)); intro b hgb w1 hb hBb; have HXb := Aside0.mk hb; have HBb := Aside0.mk hBb; have hc0 : w1.cell? ⟨b, 0, none⟩ = some (.string x.f0) := (cell_of_row w1 b 0 _ _ _ hb).trans rfl; clear hgb hb hBb))
  go_ret
  exact ⟨rfl, HBb.out⟩
theorem num_key (x : Int) (w : World) : Calls Try.prog 139 #[.int .i64 x] w fun e w' => e = .returned (.int .i64 x) ∧ Below w.heap.size w w' := by
  go_enter Try.func139, Try.ntmps139
  go_wp2
  go_ret
  exact ⟨rfl, Below.refl _ _⟩
theorem proj_bad (c n : Int) (b : Nat) (w : World) (hb : w.heap[b]? = some (.cells #[.int .i64 n] 3 (0, 0))) : Calls Try.prog 137 #[.int .i64 c, .pointer (some ⟨b, 0, none⟩)] w fun e w' => e = .returned (.bool (!inP n c)) ∧ Below w.heap.size w w' := by
  have hcb : w.cell? ⟨b, 0, none⟩ = some (.int .i64 n) := (cell_of_row w b 0 _ _ _ hb).trans rfl
  by_cases h1 : c < 0
  · have HP : Aside0 (inP n c = false) := ⟨decide_eq_false (by omega)⟩
    have g1 : decide (c < 0) = true := decide_eq_true h1
    go_enter Try.func137, Try.ntmps137
    go_wp2
    go_ret
    exact ⟨by rw [HP.out]; rfl, Below.refl _ _⟩
  · by_cases h2 : n ≤ c
    · have HP : Aside0 (inP n c = false) := ⟨decide_eq_false (by omega)⟩
      have g1 : decide (c < 0) = false := decide_eq_false h1
      have g2 : decide (n ≤ c) = true := decide_eq_true h2
      go_enter Try.func137, Try.ntmps137
      go_wp2
      go_ret
      exact ⟨by rw [HP.out]; rfl, Below.refl _ _⟩
    · have HP : Aside0 (inP n c = true) := ⟨decide_eq_true (by omega)⟩
      have g1 : decide (c < 0) = false := decide_eq_false h1
      have g2 : decide (n ≤ c) = false := decide_eq_false h2
      go_enter Try.func137, Try.ntmps137
      go_wp2
      go_ret
      exact ⟨by rw [HP.out]; rfl, Below.refl _ _⟩
set_option maxHeartbeats 4000000 in
set_option maxRecDepth 100000 in
theorem projects_calls (p : Prj) (A1 : Option Addr) (c1 : Nat) (n : Int) (w : World) (hr : Kd.C (Kd.int .i64) w A1 p.f1.length p.f1) (hc1 : p.f1.length ≤ c1) (hl : p.f1.length ≤ 1000000) (hs : p.f0.size ≤ 9223372036854775807) (hn : n ≤ 1000000) :
    Calls Try.prog 102 #[.agg #[.string p.f0, .slice A1 p.f1.length c1, .int .i64 p.f2], .int .i64 n] w fun e w' => e = .returned (.bool (projP p n)) ∧ Below w.heap.size w w' := by
  have HR := Aside0.mk hr
  clear hr
  cases hall : p.f1.all (inP n) with
  | false =>
    have HALL := Aside0.mk hall
    have HP : Aside0 (projP p n = false) := ⟨by unfold projP; rw [hall]; rfl⟩
    clear hall
    go_enter Try.func102, Try.ntmps102
    go_wp2_with (first | ((with_reducible refine gate_dst (N := 2) rfl ?_); refine box_event rfl (N := 2) rfl (cs := #[.string p.f0, .slice A1 p.f1.length c1, .int .i64 p.f2]) (t := TP) ?hr ?_; (case hr => first | (go_simp; done) | (go_simp; rfl)); intro b2 hgb2 w2 hb2 hBb2; have HXb2 := Aside0.mk hb2; have HBb2 := Aside0.mk hBb2; clear hgb2 hb2 hBb2) | ((with_reducible refine gate_dst (N := 3) rfl ?_); refine box_event rfl (N := 3) rfl (cs := #[.int .i64 n]) (t := 3) ?hr ?_; (case hr => first | (go_simp; done) | (go_simp; rfl)); intro b3 hgb3 w3 hb3 hBb3; have HXb3 := Aside0.mk hb3; have HBb3 := Aside0.mk hBb3; have HX23 := Aside0.mk (blk_below HXb2.out hBb3); have hc21w3 : w3.cell? ⟨b2, 1, none⟩ = some (.slice A1 p.f1.length c1) := (cell_of_row w3 b2 1 _ _ _ HX23.out).trans rfl; clear hgb3 hb3 hBb3))
    refine (contains_int (.func (.func 137) #[] #[.pointer (some ⟨b3, 0, none⟩)]) (fun c => !inP n c) A1 c1 p.f1 _ (Kd.C_below HR.out (below_step HBb2.out HBb3.out)) hc1 (by omega) (fun i hi w4 hb4 => CallsV.of Try.func137 (by kernel_rfl) rfl (proj_bad p.f1[i] n b3 w4 (blk_below HXb3.out hb4)))).mono ?_
    rintro e w4 ⟨rfl, hb4⟩
    rw [any_not, HALL.out]
    have HB4 := Aside0.mk (below_step (below_step HBb2.out HBb3.out) hb4)
    have HX24 := Aside0.mk (blk_below HX23.out hb4)
    have HX34 := Aside0.mk (blk_below HXb3.out hb4)
    clear hb4 hc21w3
    have hc20w4 : w4.cell? ⟨b2, 0, none⟩ = some (.string p.f0) := (cell_of_row w4 b2 0 _ _ _ HX24.out).trans rfl
    have hc21w4 : w4.cell? ⟨b2, 1, none⟩ = some (.slice A1 p.f1.length c1) := (cell_of_row w4 b2 1 _ _ _ HX24.out).trans rfl
    have hc22w4 : w4.cell? ⟨b2, 2, none⟩ = some (.int .i64 p.f2) := (cell_of_row w4 b2 2 _ _ _ HX24.out).trans rfl
    have hc30w4 : w4.cell? ⟨b3, 0, none⟩ = some (.int .i64 n) := (cell_of_row w4 b3 0 _ _ _ HX34.out).trans rfl
    go_wp2_with fail
    go_ret
    exact ⟨by rw [HP.out]; rfl, HB4.out⟩
  | true =>
    have HALL := Aside0.mk hall
    have HG : Aside0 (∀ x ∈ p.f1, (Lit.int .i64 x).wf = true) := ⟨fun x hx => by
      have := List.all_eq_true.1 hall x hx
      have h2 : 0 ≤ x ∧ x < n := of_decide_eq_true this
      have hmin : IntKind.i64.min ≤ 0 := by decide
      have hmax : 1000000 ≤ IntKind.i64.max := by decide
      simp [Lit.wf]
      omega⟩
    cases hnm : nameP p.f0 with
    | false =>
    have HNM := Aside0.mk hnm
    have HP : Aside0 (projP p n = false) := ⟨by unfold projP; rw [hall, hnm]; rfl⟩
    clear hall hnm
    go_enter Try.func102, Try.ntmps102
    go_wp2_with (first | ((with_reducible refine gate_dst (N := 2) rfl ?_); refine box_event rfl (N := 2) rfl (cs := #[.string p.f0, .slice A1 p.f1.length c1, .int .i64 p.f2]) (t := TP) ?hr ?_; (case hr => first | (go_simp; done) | (go_simp; rfl)); intro b2 hgb2 w2 hb2 hBb2; have HXb2 := Aside0.mk hb2; have HBb2 := Aside0.mk hBb2; clear hgb2 hb2 hBb2) | ((with_reducible refine gate_dst (N := 3) rfl ?_); refine box_event rfl (N := 3) rfl (cs := #[.int .i64 n]) (t := 3) ?hr ?_; (case hr => first | (go_simp; done) | (go_simp; rfl)); intro b3 hgb3 w3 hb3 hBb3; have HXb3 := Aside0.mk hb3; have HBb3 := Aside0.mk hBb3; have HX23 := Aside0.mk (blk_below HXb2.out hBb3); have hc21w3 : w3.cell? ⟨b2, 1, none⟩ = some (.slice A1 p.f1.length c1) := (cell_of_row w3 b2 1 _ _ _ HX23.out).trans rfl; clear hgb3 hb3 hBb3))
    refine (contains_int (.func (.func 137) #[] #[.pointer (some ⟨b3, 0, none⟩)]) (fun c => !inP n c) A1 c1 p.f1 _ (Kd.C_below HR.out (below_step HBb2.out HBb3.out)) hc1 (by omega) (fun i hi w4 hb4 => CallsV.of Try.func137 (by kernel_rfl) rfl (proj_bad p.f1[i] n b3 w4 (blk_below HXb3.out hb4)))).mono ?_
    rintro e w4 ⟨rfl, hb4⟩
    rw [any_not, HALL.out]
    have HB4 := Aside0.mk (below_step (below_step HBb2.out HBb3.out) hb4)
    have HX24 := Aside0.mk (blk_below HX23.out hb4)
    have HX34 := Aside0.mk (blk_below HXb3.out hb4)
    clear hb4 hc21w3
    have hc20w4 : w4.cell? ⟨b2, 0, none⟩ = some (.string p.f0) := (cell_of_row w4 b2 0 _ _ _ HX24.out).trans rfl
    have hc21w4 : w4.cell? ⟨b2, 1, none⟩ = some (.slice A1 p.f1.length c1) := (cell_of_row w4 b2 1 _ _ _ HX24.out).trans rfl
    have hc22w4 : w4.cell? ⟨b2, 2, none⟩ = some (.int .i64 p.f2) := (cell_of_row w4 b2 2 _ _ _ HX24.out).trans rfl
    have hc30w4 : w4.cell? ⟨b3, 0, none⟩ = some (.int .i64 n) := (cell_of_row w4 b3 0 _ _ _ HX34.out).trans rfl
    go_wp2_with fail
    refine (name_calls p.f0 _ hs).mono ?_
    rintro e w5 ⟨rfl, hb5⟩
    rw [HNM.out]
    have HB5 := Aside0.mk (below_step HB4.out hb5)
    have HX25 := Aside0.mk (blk_below HX24.out hb5)
    have HX35 := Aside0.mk (blk_below HX34.out hb5)
    clear hb5 hc20w4 hc21w4 hc22w4 hc30w4
    have hc20w5 : w5.cell? ⟨b2, 0, none⟩ = some (.string p.f0) := (cell_of_row w5 b2 0 _ _ _ HX25.out).trans rfl
    have hc21w5 : w5.cell? ⟨b2, 1, none⟩ = some (.slice A1 p.f1.length c1) := (cell_of_row w5 b2 1 _ _ _ HX25.out).trans rfl
    have hc22w5 : w5.cell? ⟨b2, 2, none⟩ = some (.int .i64 p.f2) := (cell_of_row w5 b2 2 _ _ _ HX25.out).trans rfl
    have hc30w5 : w5.cell? ⟨b3, 0, none⟩ = some (.int .i64 n) := (cell_of_row w5 b3 0 _ _ _ HX35.out).trans rfl
    go_wp2_with fail
    go_ret
    exact ⟨by rw [HP.out]; rfl, HB5.out⟩
    | true =>
    have HNM := Aside0.mk hnm
    have hP : projP p n = (decide (1 ≤ p.f1.length) && decide ((p.f1.length : Int) ≤ n) && decide (0 ≤ p.f2) && decide (p.f2 ≤ p.f1.length) && onceP p.f1) := by unfold projP; rw [hall, hnm]; simp
    have HP := Aside0.mk hP
    clear hall hnm hP
    rcases Decidable.em (1 ≤ p.f1.length) with q0 | q0
    rotate_left
    · skip
      have a1 : decide (1 ≤ p.f1.length) = false := decide_eq_false (by omega)
      have a2 : decide (1 ≤ ((p.f1.length : Nat) : Int)) = false := decide_eq_false (by omega)
      have a3 : decide (0 < p.f1.length) = false := decide_eq_false (by omega)
      go_enter Try.func102, Try.ntmps102
      go_wp2_with (first | ((with_reducible refine gate_dst (N := 2) rfl ?_); refine box_event rfl (N := 2) rfl (cs := #[.string p.f0, .slice A1 p.f1.length c1, .int .i64 p.f2]) (t := TP) ?hr ?_; (case hr => first | (go_simp; done) | (go_simp; rfl)); intro b2 hgb2 w2 hb2 hBb2; have HXb2 := Aside0.mk hb2; have HBb2 := Aside0.mk hBb2; clear hgb2 hb2 hBb2) | ((with_reducible refine gate_dst (N := 3) rfl ?_); refine box_event rfl (N := 3) rfl (cs := #[.int .i64 n]) (t := 3) ?hr ?_; (case hr => first | (go_simp; done) | (go_simp; rfl)); intro b3 hgb3 w3 hb3 hBb3; have HXb3 := Aside0.mk hb3; have HBb3 := Aside0.mk hBb3; have HX23 := Aside0.mk (blk_below HXb2.out hBb3); have hc21w3 : w3.cell? ⟨b2, 1, none⟩ = some (.slice A1 p.f1.length c1) := (cell_of_row w3 b2 1 _ _ _ HX23.out).trans rfl; clear hgb3 hb3 hBb3))
      refine (contains_int (.func (.func 137) #[] #[.pointer (some ⟨b3, 0, none⟩)]) (fun c => !inP n c) A1 c1 p.f1 _ (Kd.C_below HR.out (below_step HBb2.out HBb3.out)) hc1 (by omega) (fun i hi w4 hb4 => CallsV.of Try.func137 (by kernel_rfl) rfl (proj_bad p.f1[i] n b3 w4 (blk_below HXb3.out hb4)))).mono ?_
      rintro e w4 ⟨rfl, hb4⟩
      rw [any_not, HALL.out]
      have HB4 := Aside0.mk (below_step (below_step HBb2.out HBb3.out) hb4)
      have HX24 := Aside0.mk (blk_below HX23.out hb4)
      have HX34 := Aside0.mk (blk_below HXb3.out hb4)
      clear hb4 hc21w3
      have hc20w4 : w4.cell? ⟨b2, 0, none⟩ = some (.string p.f0) := (cell_of_row w4 b2 0 _ _ _ HX24.out).trans rfl
      have hc21w4 : w4.cell? ⟨b2, 1, none⟩ = some (.slice A1 p.f1.length c1) := (cell_of_row w4 b2 1 _ _ _ HX24.out).trans rfl
      have hc22w4 : w4.cell? ⟨b2, 2, none⟩ = some (.int .i64 p.f2) := (cell_of_row w4 b2 2 _ _ _ HX24.out).trans rfl
      have hc30w4 : w4.cell? ⟨b3, 0, none⟩ = some (.int .i64 n) := (cell_of_row w4 b3 0 _ _ _ HX34.out).trans rfl
      go_wp2_with fail
      refine (name_calls p.f0 _ hs).mono ?_
      rintro e w5 ⟨rfl, hb5⟩
      rw [HNM.out]
      have HB5 := Aside0.mk (below_step HB4.out hb5)
      have HX25 := Aside0.mk (blk_below HX24.out hb5)
      have HX35 := Aside0.mk (blk_below HX34.out hb5)
      clear hb5 hc20w4 hc21w4 hc22w4 hc30w4
      have hc20w5 : w5.cell? ⟨b2, 0, none⟩ = some (.string p.f0) := (cell_of_row w5 b2 0 _ _ _ HX25.out).trans rfl
      have hc21w5 : w5.cell? ⟨b2, 1, none⟩ = some (.slice A1 p.f1.length c1) := (cell_of_row w5 b2 1 _ _ _ HX25.out).trans rfl
      have hc22w5 : w5.cell? ⟨b2, 2, none⟩ = some (.int .i64 p.f2) := (cell_of_row w5 b2 2 _ _ _ HX25.out).trans rfl
      have hc30w5 : w5.cell? ⟨b3, 0, none⟩ = some (.int .i64 n) := (cell_of_row w5 b3 0 _ _ _ HX35.out).trans rfl
      go_wp2_with fail
      go_ret
      refine ⟨?_, HB5.out⟩
      rw [HP.out, (decide_eq_false (by omega) : decide (1 ≤ p.f1.length) = false)]
      simp
    rcases Decidable.em ((p.f1.length : Int) ≤ n) with q1 | q1
    rotate_left
    · skip
      have a1 : decide (1 ≤ p.f1.length) = true := decide_eq_true (by omega)
      have a2 : decide (1 ≤ ((p.f1.length : Nat) : Int)) = true := decide_eq_true (by omega)
      have a3 : decide (0 < p.f1.length) = true := decide_eq_true (by omega)
      have b1 : decide (((p.f1.length : Nat) : Int) ≤ n) = false := decide_eq_false (by omega)
      go_enter Try.func102, Try.ntmps102
      go_wp2_with (first | ((with_reducible refine gate_dst (N := 2) rfl ?_); refine box_event rfl (N := 2) rfl (cs := #[.string p.f0, .slice A1 p.f1.length c1, .int .i64 p.f2]) (t := TP) ?hr ?_; (case hr => first | (go_simp; done) | (go_simp; rfl)); intro b2 hgb2 w2 hb2 hBb2; have HXb2 := Aside0.mk hb2; have HBb2 := Aside0.mk hBb2; clear hgb2 hb2 hBb2) | ((with_reducible refine gate_dst (N := 3) rfl ?_); refine box_event rfl (N := 3) rfl (cs := #[.int .i64 n]) (t := 3) ?hr ?_; (case hr => first | (go_simp; done) | (go_simp; rfl)); intro b3 hgb3 w3 hb3 hBb3; have HXb3 := Aside0.mk hb3; have HBb3 := Aside0.mk hBb3; have HX23 := Aside0.mk (blk_below HXb2.out hBb3); have hc21w3 : w3.cell? ⟨b2, 1, none⟩ = some (.slice A1 p.f1.length c1) := (cell_of_row w3 b2 1 _ _ _ HX23.out).trans rfl; clear hgb3 hb3 hBb3))
      refine (contains_int (.func (.func 137) #[] #[.pointer (some ⟨b3, 0, none⟩)]) (fun c => !inP n c) A1 c1 p.f1 _ (Kd.C_below HR.out (below_step HBb2.out HBb3.out)) hc1 (by omega) (fun i hi w4 hb4 => CallsV.of Try.func137 (by kernel_rfl) rfl (proj_bad p.f1[i] n b3 w4 (blk_below HXb3.out hb4)))).mono ?_
      rintro e w4 ⟨rfl, hb4⟩
      rw [any_not, HALL.out]
      have HB4 := Aside0.mk (below_step (below_step HBb2.out HBb3.out) hb4)
      have HX24 := Aside0.mk (blk_below HX23.out hb4)
      have HX34 := Aside0.mk (blk_below HXb3.out hb4)
      clear hb4 hc21w3
      have hc20w4 : w4.cell? ⟨b2, 0, none⟩ = some (.string p.f0) := (cell_of_row w4 b2 0 _ _ _ HX24.out).trans rfl
      have hc21w4 : w4.cell? ⟨b2, 1, none⟩ = some (.slice A1 p.f1.length c1) := (cell_of_row w4 b2 1 _ _ _ HX24.out).trans rfl
      have hc22w4 : w4.cell? ⟨b2, 2, none⟩ = some (.int .i64 p.f2) := (cell_of_row w4 b2 2 _ _ _ HX24.out).trans rfl
      have hc30w4 : w4.cell? ⟨b3, 0, none⟩ = some (.int .i64 n) := (cell_of_row w4 b3 0 _ _ _ HX34.out).trans rfl
      go_wp2_with fail
      refine (name_calls p.f0 _ hs).mono ?_
      rintro e w5 ⟨rfl, hb5⟩
      rw [HNM.out]
      have HB5 := Aside0.mk (below_step HB4.out hb5)
      have HX25 := Aside0.mk (blk_below HX24.out hb5)
      have HX35 := Aside0.mk (blk_below HX34.out hb5)
      clear hb5 hc20w4 hc21w4 hc22w4 hc30w4
      have hc20w5 : w5.cell? ⟨b2, 0, none⟩ = some (.string p.f0) := (cell_of_row w5 b2 0 _ _ _ HX25.out).trans rfl
      have hc21w5 : w5.cell? ⟨b2, 1, none⟩ = some (.slice A1 p.f1.length c1) := (cell_of_row w5 b2 1 _ _ _ HX25.out).trans rfl
      have hc22w5 : w5.cell? ⟨b2, 2, none⟩ = some (.int .i64 p.f2) := (cell_of_row w5 b2 2 _ _ _ HX25.out).trans rfl
      have hc30w5 : w5.cell? ⟨b3, 0, none⟩ = some (.int .i64 n) := (cell_of_row w5 b3 0 _ _ _ HX35.out).trans rfl
      go_wp2_with fail
      go_ret
      refine ⟨?_, HB5.out⟩
      rw [HP.out, (decide_eq_false (by omega) : decide ((p.f1.length : Int) ≤ n) = false)]
      simp [decide_eq_true q0]
    rcases Decidable.em (0 ≤ p.f2) with q2 | q2
    rotate_left
    · skip
      have a1 : decide (1 ≤ p.f1.length) = true := decide_eq_true (by omega)
      have a2 : decide (1 ≤ ((p.f1.length : Nat) : Int)) = true := decide_eq_true (by omega)
      have a3 : decide (0 < p.f1.length) = true := decide_eq_true (by omega)
      have b1 : decide (((p.f1.length : Nat) : Int) ≤ n) = true := decide_eq_true (by omega)
      have d1 : decide (0 ≤ p.f2) = false := decide_eq_false (by omega)
      go_enter Try.func102, Try.ntmps102
      go_wp2_with (first | ((with_reducible refine gate_dst (N := 2) rfl ?_); refine box_event rfl (N := 2) rfl (cs := #[.string p.f0, .slice A1 p.f1.length c1, .int .i64 p.f2]) (t := TP) ?hr ?_; (case hr => first | (go_simp; done) | (go_simp; rfl)); intro b2 hgb2 w2 hb2 hBb2; have HXb2 := Aside0.mk hb2; have HBb2 := Aside0.mk hBb2; clear hgb2 hb2 hBb2) | ((with_reducible refine gate_dst (N := 3) rfl ?_); refine box_event rfl (N := 3) rfl (cs := #[.int .i64 n]) (t := 3) ?hr ?_; (case hr => first | (go_simp; done) | (go_simp; rfl)); intro b3 hgb3 w3 hb3 hBb3; have HXb3 := Aside0.mk hb3; have HBb3 := Aside0.mk hBb3; have HX23 := Aside0.mk (blk_below HXb2.out hBb3); have hc21w3 : w3.cell? ⟨b2, 1, none⟩ = some (.slice A1 p.f1.length c1) := (cell_of_row w3 b2 1 _ _ _ HX23.out).trans rfl; clear hgb3 hb3 hBb3))
      refine (contains_int (.func (.func 137) #[] #[.pointer (some ⟨b3, 0, none⟩)]) (fun c => !inP n c) A1 c1 p.f1 _ (Kd.C_below HR.out (below_step HBb2.out HBb3.out)) hc1 (by omega) (fun i hi w4 hb4 => CallsV.of Try.func137 (by kernel_rfl) rfl (proj_bad p.f1[i] n b3 w4 (blk_below HXb3.out hb4)))).mono ?_
      rintro e w4 ⟨rfl, hb4⟩
      rw [any_not, HALL.out]
      have HB4 := Aside0.mk (below_step (below_step HBb2.out HBb3.out) hb4)
      have HX24 := Aside0.mk (blk_below HX23.out hb4)
      have HX34 := Aside0.mk (blk_below HXb3.out hb4)
      clear hb4 hc21w3
      have hc20w4 : w4.cell? ⟨b2, 0, none⟩ = some (.string p.f0) := (cell_of_row w4 b2 0 _ _ _ HX24.out).trans rfl
      have hc21w4 : w4.cell? ⟨b2, 1, none⟩ = some (.slice A1 p.f1.length c1) := (cell_of_row w4 b2 1 _ _ _ HX24.out).trans rfl
      have hc22w4 : w4.cell? ⟨b2, 2, none⟩ = some (.int .i64 p.f2) := (cell_of_row w4 b2 2 _ _ _ HX24.out).trans rfl
      have hc30w4 : w4.cell? ⟨b3, 0, none⟩ = some (.int .i64 n) := (cell_of_row w4 b3 0 _ _ _ HX34.out).trans rfl
      go_wp2_with fail
      refine (name_calls p.f0 _ hs).mono ?_
      rintro e w5 ⟨rfl, hb5⟩
      rw [HNM.out]
      have HB5 := Aside0.mk (below_step HB4.out hb5)
      have HX25 := Aside0.mk (blk_below HX24.out hb5)
      have HX35 := Aside0.mk (blk_below HX34.out hb5)
      clear hb5 hc20w4 hc21w4 hc22w4 hc30w4
      have hc20w5 : w5.cell? ⟨b2, 0, none⟩ = some (.string p.f0) := (cell_of_row w5 b2 0 _ _ _ HX25.out).trans rfl
      have hc21w5 : w5.cell? ⟨b2, 1, none⟩ = some (.slice A1 p.f1.length c1) := (cell_of_row w5 b2 1 _ _ _ HX25.out).trans rfl
      have hc22w5 : w5.cell? ⟨b2, 2, none⟩ = some (.int .i64 p.f2) := (cell_of_row w5 b2 2 _ _ _ HX25.out).trans rfl
      have hc30w5 : w5.cell? ⟨b3, 0, none⟩ = some (.int .i64 n) := (cell_of_row w5 b3 0 _ _ _ HX35.out).trans rfl
      go_wp2_with fail
      go_ret
      refine ⟨?_, HB5.out⟩
      rw [HP.out, (decide_eq_false (by omega) : decide (0 ≤ p.f2) = false)]
      simp [decide_eq_true q0, decide_eq_true q1]
    rcases Decidable.em (p.f2 ≤ (p.f1.length : Int)) with q3 | q3
    rotate_left
    · skip
      have a1 : decide (1 ≤ p.f1.length) = true := decide_eq_true (by omega)
      have a2 : decide (1 ≤ ((p.f1.length : Nat) : Int)) = true := decide_eq_true (by omega)
      have a3 : decide (0 < p.f1.length) = true := decide_eq_true (by omega)
      have b1 : decide (((p.f1.length : Nat) : Int) ≤ n) = true := decide_eq_true (by omega)
      have d1 : decide (0 ≤ p.f2) = true := decide_eq_true (by omega)
      have e1 : decide (p.f2 ≤ ((p.f1.length : Nat) : Int)) = false := decide_eq_false (by omega)
      go_enter Try.func102, Try.ntmps102
      go_wp2_with (first | ((with_reducible refine gate_dst (N := 2) rfl ?_); refine box_event rfl (N := 2) rfl (cs := #[.string p.f0, .slice A1 p.f1.length c1, .int .i64 p.f2]) (t := TP) ?hr ?_; (case hr => first | (go_simp; done) | (go_simp; rfl)); intro b2 hgb2 w2 hb2 hBb2; have HXb2 := Aside0.mk hb2; have HBb2 := Aside0.mk hBb2; clear hgb2 hb2 hBb2) | ((with_reducible refine gate_dst (N := 3) rfl ?_); refine box_event rfl (N := 3) rfl (cs := #[.int .i64 n]) (t := 3) ?hr ?_; (case hr => first | (go_simp; done) | (go_simp; rfl)); intro b3 hgb3 w3 hb3 hBb3; have HXb3 := Aside0.mk hb3; have HBb3 := Aside0.mk hBb3; have HX23 := Aside0.mk (blk_below HXb2.out hBb3); have hc21w3 : w3.cell? ⟨b2, 1, none⟩ = some (.slice A1 p.f1.length c1) := (cell_of_row w3 b2 1 _ _ _ HX23.out).trans rfl; clear hgb3 hb3 hBb3))
      refine (contains_int (.func (.func 137) #[] #[.pointer (some ⟨b3, 0, none⟩)]) (fun c => !inP n c) A1 c1 p.f1 _ (Kd.C_below HR.out (below_step HBb2.out HBb3.out)) hc1 (by omega) (fun i hi w4 hb4 => CallsV.of Try.func137 (by kernel_rfl) rfl (proj_bad p.f1[i] n b3 w4 (blk_below HXb3.out hb4)))).mono ?_
      rintro e w4 ⟨rfl, hb4⟩
      rw [any_not, HALL.out]
      have HB4 := Aside0.mk (below_step (below_step HBb2.out HBb3.out) hb4)
      have HX24 := Aside0.mk (blk_below HX23.out hb4)
      have HX34 := Aside0.mk (blk_below HXb3.out hb4)
      clear hb4 hc21w3
      have hc20w4 : w4.cell? ⟨b2, 0, none⟩ = some (.string p.f0) := (cell_of_row w4 b2 0 _ _ _ HX24.out).trans rfl
      have hc21w4 : w4.cell? ⟨b2, 1, none⟩ = some (.slice A1 p.f1.length c1) := (cell_of_row w4 b2 1 _ _ _ HX24.out).trans rfl
      have hc22w4 : w4.cell? ⟨b2, 2, none⟩ = some (.int .i64 p.f2) := (cell_of_row w4 b2 2 _ _ _ HX24.out).trans rfl
      have hc30w4 : w4.cell? ⟨b3, 0, none⟩ = some (.int .i64 n) := (cell_of_row w4 b3 0 _ _ _ HX34.out).trans rfl
      go_wp2_with fail
      refine (name_calls p.f0 _ hs).mono ?_
      rintro e w5 ⟨rfl, hb5⟩
      rw [HNM.out]
      have HB5 := Aside0.mk (below_step HB4.out hb5)
      have HX25 := Aside0.mk (blk_below HX24.out hb5)
      have HX35 := Aside0.mk (blk_below HX34.out hb5)
      clear hb5 hc20w4 hc21w4 hc22w4 hc30w4
      have hc20w5 : w5.cell? ⟨b2, 0, none⟩ = some (.string p.f0) := (cell_of_row w5 b2 0 _ _ _ HX25.out).trans rfl
      have hc21w5 : w5.cell? ⟨b2, 1, none⟩ = some (.slice A1 p.f1.length c1) := (cell_of_row w5 b2 1 _ _ _ HX25.out).trans rfl
      have hc22w5 : w5.cell? ⟨b2, 2, none⟩ = some (.int .i64 p.f2) := (cell_of_row w5 b2 2 _ _ _ HX25.out).trans rfl
      have hc30w5 : w5.cell? ⟨b3, 0, none⟩ = some (.int .i64 n) := (cell_of_row w5 b3 0 _ _ _ HX35.out).trans rfl
      go_wp2_with fail
      go_ret
      refine ⟨?_, HB5.out⟩
      rw [HP.out, (decide_eq_false (by omega) : decide (p.f2 ≤ (p.f1.length : Int)) = false)]
      simp [decide_eq_true q0, decide_eq_true q1, decide_eq_true q2]
    have a1 : decide (1 ≤ p.f1.length) = true := decide_eq_true (by omega)
    have a2 : decide (1 ≤ ((p.f1.length : Nat) : Int)) = true := decide_eq_true (by omega)
    have a3 : decide (0 < p.f1.length) = true := decide_eq_true (by omega)
    have b1 : decide (((p.f1.length : Nat) : Int) ≤ n) = true := decide_eq_true (by omega)
    have d1 : decide (0 ≤ p.f2) = true := decide_eq_true (by omega)
    have e1 : decide (p.f2 ≤ ((p.f1.length : Nat) : Int)) = true := decide_eq_true (by omega)
    go_enter Try.func102, Try.ntmps102
    go_wp2_with (first | ((with_reducible refine gate_dst (N := 2) rfl ?_); refine box_event rfl (N := 2) rfl (cs := #[.string p.f0, .slice A1 p.f1.length c1, .int .i64 p.f2]) (t := TP) ?hr ?_; (case hr => first | (go_simp; done) | (go_simp; rfl)); intro b2 hgb2 w2 hb2 hBb2; have HXb2 := Aside0.mk hb2; have HBb2 := Aside0.mk hBb2; clear hgb2 hb2 hBb2) | ((with_reducible refine gate_dst (N := 3) rfl ?_); refine box_event rfl (N := 3) rfl (cs := #[.int .i64 n]) (t := 3) ?hr ?_; (case hr => first | (go_simp; done) | (go_simp; rfl)); intro b3 hgb3 w3 hb3 hBb3; have HXb3 := Aside0.mk hb3; have HBb3 := Aside0.mk hBb3; have HX23 := Aside0.mk (blk_below HXb2.out hBb3); have hc21w3 : w3.cell? ⟨b2, 1, none⟩ = some (.slice A1 p.f1.length c1) := (cell_of_row w3 b2 1 _ _ _ HX23.out).trans rfl; clear hgb3 hb3 hBb3))
    refine (contains_int (.func (.func 137) #[] #[.pointer (some ⟨b3, 0, none⟩)]) (fun c => !inP n c) A1 c1 p.f1 _ (Kd.C_below HR.out (below_step HBb2.out HBb3.out)) hc1 (by omega) (fun i hi w4 hb4 => CallsV.of Try.func137 (by kernel_rfl) rfl (proj_bad p.f1[i] n b3 w4 (blk_below HXb3.out hb4)))).mono ?_
    rintro e w4 ⟨rfl, hb4⟩
    rw [any_not, HALL.out]
    have HB4 := Aside0.mk (below_step (below_step HBb2.out HBb3.out) hb4)
    have HX24 := Aside0.mk (blk_below HX23.out hb4)
    have HX34 := Aside0.mk (blk_below HXb3.out hb4)
    clear hb4 hc21w3
    have hc20w4 : w4.cell? ⟨b2, 0, none⟩ = some (.string p.f0) := (cell_of_row w4 b2 0 _ _ _ HX24.out).trans rfl
    have hc21w4 : w4.cell? ⟨b2, 1, none⟩ = some (.slice A1 p.f1.length c1) := (cell_of_row w4 b2 1 _ _ _ HX24.out).trans rfl
    have hc22w4 : w4.cell? ⟨b2, 2, none⟩ = some (.int .i64 p.f2) := (cell_of_row w4 b2 2 _ _ _ HX24.out).trans rfl
    have hc30w4 : w4.cell? ⟨b3, 0, none⟩ = some (.int .i64 n) := (cell_of_row w4 b3 0 _ _ _ HX34.out).trans rfl
    go_wp2_with fail
    refine (name_calls p.f0 _ hs).mono ?_
    rintro e w5 ⟨rfl, hb5⟩
    rw [HNM.out]
    have HB5 := Aside0.mk (below_step HB4.out hb5)
    have HX25 := Aside0.mk (blk_below HX24.out hb5)
    have HX35 := Aside0.mk (blk_below HX34.out hb5)
    clear hb5 hc20w4 hc21w4 hc22w4 hc30w4
    have hc20w5 : w5.cell? ⟨b2, 0, none⟩ = some (.string p.f0) := (cell_of_row w5 b2 0 _ _ _ HX25.out).trans rfl
    have hc21w5 : w5.cell? ⟨b2, 1, none⟩ = some (.slice A1 p.f1.length c1) := (cell_of_row w5 b2 1 _ _ _ HX25.out).trans rfl
    have hc22w5 : w5.cell? ⟨b2, 2, none⟩ = some (.int .i64 p.f2) := (cell_of_row w5 b2 2 _ _ _ HX25.out).trans rfl
    have hc30w5 : w5.cell? ⟨b3, 0, none⟩ = some (.int .i64 n) := (cell_of_row w5 b3 0 _ _ _ HX35.out).trans rfl
    go_wp2_with fail
    refine (twice_int (.func (.func 139) #[] #[]) (fun x => x) A1 c1 p.f1 _ (Kd.C_below HR.out HB5.out) hl HG.out (fun i hi w2 hb => CallsV.of Try.func139 (by kernel_rfl) rfl (num_key p.f1[i] w2))).mono ?_
    rintro e w6 ⟨rfl, hb6⟩
    have HB6 := Aside0.mk (below_step HB5.out hb6)
    clear hb6 hc20w5 hc21w5 hc22w5 hc30w5
    go_wp2_with fail
    go_ret
    refine ⟨?_, HB6.out⟩
    rw [HP.out, decide_eq_true q0, decide_eq_true q1, decide_eq_true q2, decide_eq_true q3]
    simp
end Go.Proofs.Ytgjclhhjigflkac.Sc

/- The walks of schema.Super, whole, may, Check. (Written by genmay.py.) -/
namespace Go.Proofs.Ytgjclhhjigflkac.Sc
open Go Go.RowKit Go.Proofs.Ytgjclhhjigflkac.C Go.Proofs.Ytgjclhhjigflkac.MyWords Go.Proofs.Ytgjclhhjigflkac.Hand Go.Proofs.YtgjclhhjigflkacW.PrintWords Go.Proofs.YtgjclhhjigflkacW.PrintLast Go.Proofs.YtgjclhhjigflkacW.PrintMore
set_option linter.unusedVariables false
set_option linter.unusedSimpArgs false
theorem size_T : (Try.prog.info? TT).map (·.size) = some 3 := by kernel_rfl
theorem size_P : (Try.prog.info? TP).map (·.size) = some 3 := by kernel_rfl
theorem superP_not (t : Tab) (p : Prj) (k : Nat) (hk : k < t.f1.length) (h : ¬ (k : Int) ∈ p.f1) : superP t p = false := by
  unfold superP
  have : (List.range t.f1.length).all (fun (c : Nat) => decide ((c : Int) ∈ p.f1)) = false := by
    rw [List.all_eq_false]
    exact ⟨k, List.mem_range.2 hk, by simpa using h⟩
  rw [this]
  rfl
theorem superP_all (t : Tab) (p : Prj) (h : ∀ k, k < t.f1.length → (k : Int) ∈ p.f1) : superP t p = decide (p.f1.length = t.f1.length) := by
  unfold superP
  have : (List.range t.f1.length).all (fun (c : Nat) => decide ((c : Int) ∈ p.f1)) = true := by
    rw [List.all_eq_true]
    exact fun k hk => decide_eq_true (h k (List.mem_range.1 hk))
  rw [this]
  rfl
set_option maxHeartbeats 2000000 in
set_option maxRecDepth 100000 in
theorem super_calls (t : Tab) (At : Option Addr) (ct : Nat) (Bt : Option Addr) (dt : Nat) (p : Prj) (Ap : Option Addr) (cp : Nat) (w : World) (hp : Kd.C (Kd.int .i64) w Ap p.f1.length p.f1) (hcp : p.f1.length ≤ cp) (hl : p.f1.length ≤ 1000000) (hlt : t.f1.length ≤ 1000000) :
    Calls Try.prog 35 #[.agg #[.string t.f0, .slice At t.f1.length ct, .slice Bt t.f2.length dt], .agg #[.string p.f0, .slice Ap p.f1.length cp, .int .i64 p.f2]] w fun e w' => e = .returned (.bool (superP t p)) ∧ Below w.heap.size w w' := by
  have HP := Aside0.mk hp
  clear hp
  go_enter Try.func35, Try.ntmps35
  go_wp2_with (first | ((with_reducible refine gate_dst (N := 2) rfl ?_); refine box_event rfl (N := 2) rfl (cs := #[.string t.f0, .slice At t.f1.length ct, .slice Bt t.f2.length dt]) (t := TT) ?hr ?_; (case hr => first | (go_simp; done) | (go_simp; rfl)); intro b2 hgb2 w2 hb2 hBb2; have HXb2 := Aside0.mk hb2; have HBb2 := Aside0.mk hBb2; clear hgb2 hb2 hBb2) | ((with_reducible refine gate_dst (N := 3) rfl ?_); refine box_event rfl (N := 3) rfl (cs := #[.string p.f0, .slice Ap p.f1.length cp, .int .i64 p.f2]) (t := TP) ?hr ?_; (case hr => first | (go_simp; done) | (go_simp; rfl)); intro b3 hgb3 w3 hb3 hBb3; have HXb3 := Aside0.mk hb3; have HBb3 := Aside0.mk hBb3; have HX23 := Aside0.mk (blk_below HXb2.out hBb3); have hc21w3 : w3.cell? ⟨b2, 1, none⟩ = some (.slice At t.f1.length ct) := (cell_of_row w3 b2 1 _ _ _ HX23.out).trans rfl; clear hgb3 hb3 hBb3))
  have HB0 := Aside0.mk (below_step HBb2.out HBb3.out)
  clear HXb2
  go_loopw [9] (fun v9 wr => ∃ k : Nat, v9 = .int .i64 (k : Int) ∧ k ≤ t.f1.length ∧ Aside0 (∀ i, i < k → (i : Int) ∈ p.f1) ∧ Aside0 (Below w3.heap.size w3 wr)) (fun v9 _ => t.f1.length - (intOf v9).toNat)
  case atStart => exact ⟨0, rfl, Nat.zero_le _, ⟨fun i hi => absurd hi (by omega)⟩, ⟨Below.refl _ _⟩⟩
  case round =>
    obtain ⟨k, rfl, hk, HI, HB⟩ := hrel
    have HX2 := Aside0.mk (blk_below HX23.out HB.out)
    have HX3 := Aside0.mk (blk_below HXb3.out HB.out)
    have hc31 : wr.cell? ⟨b3, 1, none⟩ = some (.slice Ap p.f1.length cp) := (cell_of_row wr b3 1 _ _ _ HX3.out).trans rfl
    have hc21 : wr.cell? ⟨b2, 1, none⟩ = some (.slice At t.f1.length ct) := (cell_of_row wr b2 1 _ _ _ HX2.out).trans rfl
    clear hc21w3
    by_cases hkl : k < t.f1.length
    · obtain ⟨kk, hkk⟩ := (has_ev p.f1 hl (k : Int)).rounds
      by_cases hin : (k : Int) ∈ p.f1
      · rw [decide_eq_true hin] at hkk
        have HKK := Aside0.mk hkk
        have HIN := Aside0.mk hin
        clear hkk hin
        go_wp2_with fail
        refine (slices_Contains_int_int.calls kk Ap cp p.f1 (k : Int) true _ (Kd.C_below HP.out (below_step HB0.out HB.out)) hcp HKK.out).mono ?_
        rintro e w5 ⟨rfl, hd5⟩
        have HB5 := Aside0.mk (below_step HB.out hd5.below)
        clear hd5 hc31 hc21
        go_wp2_with fail
        exact ⟨⟨k + 1, by simp, by omega, ⟨fun i hi => by
          by_cases e : i = k
          · subst e; exact HIN.out
          · exact HI.out i (by omega)⟩, HB5⟩, by simp [intOf]; omega⟩
      · rw [decide_eq_false hin] at hkk
        have HKK := Aside0.mk hkk
        have HS := Aside0.mk (superP_not t p k hkl hin)
        clear hkk hin
        go_wp2_with fail
        refine (slices_Contains_int_int.calls kk Ap cp p.f1 (k : Int) false _ (Kd.C_below HP.out (below_step HB0.out HB.out)) hcp HKK.out).mono ?_
        rintro e w5 ⟨rfl, hd5⟩
        have HB5 := Aside0.mk (below_step HB.out hd5.below)
        clear hd5
        go_wp2_with fail
        go_ret
        exact ⟨by rw [HS.out]; rfl, below_step HB0.out HB5.out⟩
    · obtain rfl : k = t.f1.length := by omega
      have HS := Aside0.mk (superP_all t p HI.out)
      by_cases he : p.f1.length = t.f1.length
      · have e1 : (((p.f1.length : Nat) : Int) == ((t.f1.length : Nat) : Int)) = true := by simp [he]
        have e2 : (p.f1.length == t.f1.length) = true := by simp [he]
        have HE := Aside0.mk he
        clear he
        go_wp2_with fail
        go_ret
        exact ⟨by rw [HS.out, decide_eq_true HE.out]; rfl, below_step HB0.out HB.out⟩
      · have e1 : (((p.f1.length : Nat) : Int) == ((t.f1.length : Nat) : Int)) = false := by simp; omega
        have e2 : (p.f1.length == t.f1.length) = false := by simp [he]
        have HE := Aside0.mk he
        clear he
        go_wp2_with fail
        go_ret
        exact ⟨by rw [HS.out, decide_eq_false HE.out]; rfl, below_step HB0.out HB.out⟩
/-- a table's parts are few, its names are texts -/
structure GT (t : Tab) : Prop where
  s : t.f0.size ≤ 9223372036854775807
  c : t.f1.length ≤ 1000000
  p : t.f2.length ≤ 1000000
  cs : ∀ x ∈ t.f1, x.f0.size ≤ 9223372036854775807
  ps : ∀ x ∈ t.f2, x.f0.size ≤ 9223372036854775807 ∧ x.f1.length ≤ 1000000
/-! whole -/
theorem whole_fn (t : Tab) (At : Option Addr) (ct : Nat) (Bt : Option Addr) (dt : Nat) (p : Prj) (c : List Value) (b : Nat) (w : World) (hK : kP.K w p c) (hl : p.f1.length ≤ 1000000) (hlt : t.f1.length ≤ 1000000) (hb : w.heap[b]? = some (.cells #[.string t.f0, .slice At t.f1.length ct, .slice Bt t.f2.length dt] TT (0, 0))) :
    Calls Try.prog 142 #[.agg c.toArray, .pointer (some ⟨b, 0, none⟩)] w fun e w' => e = .returned (.bool (superP t p)) ∧ Below w.heap.size w w' := by
  obtain ⟨Ap, cp, rfl, hcp, hC⟩ := k52_open hK
  have HC := Aside0.mk hC
  have HT := Aside0.mk hb
  clear hK hC hb
  go_enter Try.func142, Try.ntmps142
  go_wp2_with (first | ((with_reducible refine gate_dst (N := 2) rfl ?_); refine box_event rfl (N := 2) rfl (cs := #[.string p.f0, .slice Ap p.f1.length cp, .int .i64 p.f2]) (t := TP) ?hr ?_; (case hr => first | (go_simp; done) | (go_simp; rfl)); intro b2 hgb2 w2 hb2 hBb2; have HXb2 := Aside0.mk hb2; have HBb2 := Aside0.mk hBb2; have HT2 := Aside0.mk (blk_below HT.out hBb2); clear hgb2 hb2 hBb2) | ((with_reducible refine gate_dst (N := 4) rfl ?_); refine wpList_load_row rfl TT (.tmp 1) rfl b rfl TT #[.string t.f0, .slice At t.f1.length ct, .slice Bt t.f2.length dt] (0, 0) _ HT2.out Try.underlying47 rfl size_T ?_) | ((with_reducible refine gate_dst (N := 5) rfl ?_); refine wpList_load_row rfl TP (.tmp 2) rfl b2 rfl TP #[.string p.f0, .slice Ap p.f1.length cp, .int .i64 p.f2] (0, 0) _ HXb2.out Try.underlying52 rfl size_P ?_))
  refine (super_calls t At ct Bt dt p Ap cp _ (Kd.C_below HC.out HBb2.out) hcp hl hlt).mono ?_
  rintro e w3 ⟨rfl, hb3⟩
  go_wp2_with fail
  go_ret
  exact ⟨rfl, below_step HBb2.out hb3⟩
theorem whole_calls (t : Tab) (At : Option Addr) (ct : Nat) (Bt : Option Addr) (dt : Nat) (w : World) (hp : Kd.C kP w Bt t.f2.length t.f2) (hdt : t.f2.length ≤ dt) (hg : GT t) :
    Calls Try.prog 106 #[.agg #[.string t.f0, .slice At t.f1.length ct, .slice Bt t.f2.length dt]] w fun e w' => e = .returned (.bool (t.f2.any (superP t))) ∧ Below w.heap.size w w' := by
  have HP := Aside0.mk hp
  have HG := Aside0.mk hg
  clear hp hg
  go_enter Try.func106, Try.ntmps106
  go_wp2_with (first | ((with_reducible refine gate_dst (N := 1) rfl ?_); refine box_event rfl (N := 1) rfl (cs := #[.string t.f0, .slice At t.f1.length ct, .slice Bt t.f2.length dt]) (t := TT) ?hr ?_; (case hr => first | (go_simp; done) | (go_simp; rfl)); intro b1 hgb1 w1 hb1 hBb1; have HXb1 := Aside0.mk hb1; have HBb1 := Aside0.mk hBb1; have hc12 : w1.cell? ⟨b1, 2, none⟩ = some (.slice Bt t.f2.length dt) := (cell_of_row w1 b1 2 _ _ _ hb1).trans rfl; clear hgb1 hb1 hBb1))
  refine (contains_proj (.func (.func 142) #[] #[.pointer (some ⟨b1, 0, none⟩)]) (superP t) Bt dt t.f2 _ (Kd.C_below HP.out HBb1.out) hdt (by have := HG.out.p; omega) (fun i hi c w2 hb hcl hk => CallsV.of Try.func142 (by kernel_rfl) rfl (whole_fn t At ct Bt dt t.f2[i] c b1 w2 hk (HG.out.ps _ (List.getElem_mem hi)).2 HG.out.c (blk_below HXb1.out hb)))).mono ?_
  rintro e w3 ⟨rfl, hb3⟩
  go_wp2_with fail
  go_ret
  exact ⟨rfl, below_step HBb1.out hb3⟩
/-! may -/
theorem may_fn (t : Tab) (At : Option Addr) (ct : Nat) (Bt : Option Addr) (dt : Nat) (p : Prj) (c : List Value) (b : Nat) (w : World) (hK : kP.K w p c) (hl : p.f1.length ≤ 1000000) (hs : p.f0.size ≤ 9223372036854775807) (hlt : t.f1.length ≤ 1000000) (hb : w.heap[b]? = some (.cells #[.string t.f0, .slice At t.f1.length ct, .slice Bt t.f2.length dt] TT (0, 0))) :
    Calls Try.prog 124 #[.agg c.toArray, .pointer (some ⟨b, 0, none⟩)] w fun e w' => e = .returned (.bool (!projP p t.f1.length)) ∧ Below w.heap.size w w' := by
  obtain ⟨Ap, cp, rfl, hcp, hC⟩ := k52_open hK
  have HC := Aside0.mk hC
  have HT := Aside0.mk hb
  clear hK hC hb
  go_enter Try.func124, Try.ntmps124
  go_wp2_with (first | ((with_reducible refine gate_dst (N := 2) rfl ?_); refine box_event rfl (N := 2) rfl (cs := #[.string p.f0, .slice Ap p.f1.length cp, .int .i64 p.f2]) (t := TP) ?hr ?_; (case hr => first | (go_simp; done) | (go_simp; rfl)); intro b2 hgb2 w2 hb2 hBb2; have HXb2 := Aside0.mk hb2; have HBb2 := Aside0.mk hBb2; have hct1 : w2.cell? ⟨b, 1, none⟩ = some (.slice At t.f1.length ct) := (cell_of_row w2 b 1 _ _ _ (blk_below HT.out hBb2)).trans rfl; clear hgb2 hb2 hBb2) | ((with_reducible refine gate_dst (N := 4) rfl ?_); refine wpList_load_row rfl TP (.tmp 2) rfl b2 rfl TP #[.string p.f0, .slice Ap p.f1.length cp, .int .i64 p.f2] (0, 0) _ HXb2.out Try.underlying52 rfl size_P ?_))
  refine (projects_calls p Ap cp (t.f1.length : Int) _ (Kd.C_below HC.out HBb2.out) hcp hl hs (by omega)).mono ?_
  rintro e w3 ⟨rfl, hb3⟩
  go_wp2_with fail
  go_ret
  exact ⟨rfl, below_step HBb2.out hb3⟩
set_option maxHeartbeats 4000000 in
set_option maxRecDepth 100000 in
theorem may_calls (t : Tab) (At : Option Addr) (ct : Nat) (Bt : Option Addr) (dt : Nat) (w : World) (hc : Kd.C kC w At t.f1.length t.f1) (hct : t.f1.length ≤ ct) (hp : Kd.C kP w Bt t.f2.length t.f2) (hdt : t.f2.length ≤ dt) (hg : GT t) :
    Calls Try.prog 85 #[.agg #[.string t.f0, .slice At t.f1.length ct, .slice Bt t.f2.length dt]] w fun e w' => e = .returned (.bool (mayP t)) ∧ Below w.heap.size w w' := by
  have HC := Aside0.mk hc
  have HP := Aside0.mk hp
  have HG := Aside0.mk hg
  clear hc hp hg
  cases h0 : t.f2.all (fun p => projP p t.f1.length) with
  | false =>
    have E0 := Aside0.mk h0
    have HM : Aside0 (mayP t = false) := ⟨by unfold mayP; rw [h0]; rfl⟩
    clear h0
    go_enter Try.func85, Try.ntmps85
    go_wp2_with (first | ((with_reducible refine gate_dst (N := 1) rfl ?_); refine box_event rfl (N := 1) rfl (cs := #[.string t.f0, .slice At t.f1.length ct, .slice Bt t.f2.length dt]) (t := TT) ?hr ?_; (case hr => first | (go_simp; done) | (go_simp; rfl)); intro b1 hgb1 w1 hb1 hBb1; have HXb1 := Aside0.mk hb1; have HBb1 := Aside0.mk hBb1; have hc2w1 : w1.cell? ⟨b1, 2, none⟩ = some (.slice Bt t.f2.length dt) := (cell_of_row w1 b1 2 _ _ _ hb1).trans rfl; clear hgb1 hb1 hBb1))
    refine (contains_proj (.func (.func 124) #[] #[.pointer (some ⟨b1, 0, none⟩)]) (fun p => !projP p t.f1.length) Bt dt t.f2 _ (Kd.C_below HP.out HBb1.out) hdt (by have := HG.out.p; omega) (fun i hi c w2 hb hcl hk => CallsV.of Try.func124 (by kernel_rfl) rfl (may_fn t At ct Bt dt t.f2[i] c b1 w2 hk (HG.out.ps _ (List.getElem_mem hi)).2 (HG.out.ps _ (List.getElem_mem hi)).1 HG.out.c (blk_below HXb1.out hb)))).mono ?_
    rintro e w2 ⟨rfl, hb2⟩
    rw [any_not, E0.out]
    have HB2 := Aside0.mk (below_step HBb1.out hb2)
    have HX2 := Aside0.mk (blk_below HXb1.out hb2)
    clear hb2 hc2w1
    have hc0w2 : w2.cell? ⟨b1, 0, none⟩ = some (.string t.f0) := (cell_of_row w2 b1 0 _ _ _ HX2.out).trans rfl
    have hc1w2 : w2.cell? ⟨b1, 1, none⟩ = some (.slice At t.f1.length ct) := (cell_of_row w2 b1 1 _ _ _ HX2.out).trans rfl
    have hc2w2 : w2.cell? ⟨b1, 2, none⟩ = some (.slice Bt t.f2.length dt) := (cell_of_row w2 b1 2 _ _ _ HX2.out).trans rfl
    go_wp2_with fail
    go_ret
    exact ⟨by rw [HM.out]; rfl, HB2.out⟩
  | true =>
  have E0 := Aside0.mk h0
  cases h1 : nameP t.f0 with
  | false =>
    have E1 := Aside0.mk h1
    have HM : Aside0 (mayP t = false) := ⟨by unfold mayP; rw [h0, h1]; rfl⟩
    clear h0 h1
    go_enter Try.func85, Try.ntmps85
    go_wp2_with (first | ((with_reducible refine gate_dst (N := 1) rfl ?_); refine box_event rfl (N := 1) rfl (cs := #[.string t.f0, .slice At t.f1.length ct, .slice Bt t.f2.length dt]) (t := TT) ?hr ?_; (case hr => first | (go_simp; done) | (go_simp; rfl)); intro b1 hgb1 w1 hb1 hBb1; have HXb1 := Aside0.mk hb1; have HBb1 := Aside0.mk hBb1; have hc2w1 : w1.cell? ⟨b1, 2, none⟩ = some (.slice Bt t.f2.length dt) := (cell_of_row w1 b1 2 _ _ _ hb1).trans rfl; clear hgb1 hb1 hBb1))
    refine (contains_proj (.func (.func 124) #[] #[.pointer (some ⟨b1, 0, none⟩)]) (fun p => !projP p t.f1.length) Bt dt t.f2 _ (Kd.C_below HP.out HBb1.out) hdt (by have := HG.out.p; omega) (fun i hi c w2 hb hcl hk => CallsV.of Try.func124 (by kernel_rfl) rfl (may_fn t At ct Bt dt t.f2[i] c b1 w2 hk (HG.out.ps _ (List.getElem_mem hi)).2 (HG.out.ps _ (List.getElem_mem hi)).1 HG.out.c (blk_below HXb1.out hb)))).mono ?_
    rintro e w2 ⟨rfl, hb2⟩
    rw [any_not, E0.out]
    have HB2 := Aside0.mk (below_step HBb1.out hb2)
    have HX2 := Aside0.mk (blk_below HXb1.out hb2)
    clear hb2 hc2w1
    have hc0w2 : w2.cell? ⟨b1, 0, none⟩ = some (.string t.f0) := (cell_of_row w2 b1 0 _ _ _ HX2.out).trans rfl
    have hc1w2 : w2.cell? ⟨b1, 1, none⟩ = some (.slice At t.f1.length ct) := (cell_of_row w2 b1 1 _ _ _ HX2.out).trans rfl
    have hc2w2 : w2.cell? ⟨b1, 2, none⟩ = some (.slice Bt t.f2.length dt) := (cell_of_row w2 b1 2 _ _ _ HX2.out).trans rfl
    go_wp2_with fail
    refine (name_calls t.f0 _ HG.out.s).mono ?_
    rintro e w3 ⟨rfl, hb3⟩
    rw [E1.out]
    have HB3 := Aside0.mk (below_step HB2.out hb3)
    have HX3 := Aside0.mk (blk_below HX2.out hb3)
    clear hb3 hc0w2 hc1w2 hc2w2
    have hc0w3 : w3.cell? ⟨b1, 0, none⟩ = some (.string t.f0) := (cell_of_row w3 b1 0 _ _ _ HX3.out).trans rfl
    have hc1w3 : w3.cell? ⟨b1, 1, none⟩ = some (.slice At t.f1.length ct) := (cell_of_row w3 b1 1 _ _ _ HX3.out).trans rfl
    have hc2w3 : w3.cell? ⟨b1, 2, none⟩ = some (.slice Bt t.f2.length dt) := (cell_of_row w3 b1 2 _ _ _ HX3.out).trans rfl
    go_wp2_with fail
    go_ret
    exact ⟨by rw [HM.out]; rfl, HB3.out⟩
  | true =>
  have E1 := Aside0.mk h1
  cases h2 : colsP t.f1 with
  | false =>
    have E2 := Aside0.mk h2
    have HM : Aside0 (mayP t = false) := ⟨by unfold mayP; rw [h0, h1, h2]; rfl⟩
    clear h0 h1 h2
    go_enter Try.func85, Try.ntmps85
    go_wp2_with (first | ((with_reducible refine gate_dst (N := 1) rfl ?_); refine box_event rfl (N := 1) rfl (cs := #[.string t.f0, .slice At t.f1.length ct, .slice Bt t.f2.length dt]) (t := TT) ?hr ?_; (case hr => first | (go_simp; done) | (go_simp; rfl)); intro b1 hgb1 w1 hb1 hBb1; have HXb1 := Aside0.mk hb1; have HBb1 := Aside0.mk hBb1; have hc2w1 : w1.cell? ⟨b1, 2, none⟩ = some (.slice Bt t.f2.length dt) := (cell_of_row w1 b1 2 _ _ _ hb1).trans rfl; clear hgb1 hb1 hBb1))
    refine (contains_proj (.func (.func 124) #[] #[.pointer (some ⟨b1, 0, none⟩)]) (fun p => !projP p t.f1.length) Bt dt t.f2 _ (Kd.C_below HP.out HBb1.out) hdt (by have := HG.out.p; omega) (fun i hi c w2 hb hcl hk => CallsV.of Try.func124 (by kernel_rfl) rfl (may_fn t At ct Bt dt t.f2[i] c b1 w2 hk (HG.out.ps _ (List.getElem_mem hi)).2 (HG.out.ps _ (List.getElem_mem hi)).1 HG.out.c (blk_below HXb1.out hb)))).mono ?_
    rintro e w2 ⟨rfl, hb2⟩
    rw [any_not, E0.out]
    have HB2 := Aside0.mk (below_step HBb1.out hb2)
    have HX2 := Aside0.mk (blk_below HXb1.out hb2)
    clear hb2 hc2w1
    have hc0w2 : w2.cell? ⟨b1, 0, none⟩ = some (.string t.f0) := (cell_of_row w2 b1 0 _ _ _ HX2.out).trans rfl
    have hc1w2 : w2.cell? ⟨b1, 1, none⟩ = some (.slice At t.f1.length ct) := (cell_of_row w2 b1 1 _ _ _ HX2.out).trans rfl
    have hc2w2 : w2.cell? ⟨b1, 2, none⟩ = some (.slice Bt t.f2.length dt) := (cell_of_row w2 b1 2 _ _ _ HX2.out).trans rfl
    go_wp2_with fail
    refine (name_calls t.f0 _ HG.out.s).mono ?_
    rintro e w3 ⟨rfl, hb3⟩
    rw [E1.out]
    have HB3 := Aside0.mk (below_step HB2.out hb3)
    have HX3 := Aside0.mk (blk_below HX2.out hb3)
    clear hb3 hc0w2 hc1w2 hc2w2
    have hc0w3 : w3.cell? ⟨b1, 0, none⟩ = some (.string t.f0) := (cell_of_row w3 b1 0 _ _ _ HX3.out).trans rfl
    have hc1w3 : w3.cell? ⟨b1, 1, none⟩ = some (.slice At t.f1.length ct) := (cell_of_row w3 b1 1 _ _ _ HX3.out).trans rfl
    have hc2w3 : w3.cell? ⟨b1, 2, none⟩ = some (.slice Bt t.f2.length dt) := (cell_of_row w3 b1 2 _ _ _ HX3.out).trans rfl
    go_wp2_with fail
    refine (cols_calls t.f1 At ct _ (Kd.C_below HC.out HB3.out) hct HG.out.c HG.out.cs).mono ?_
    rintro e w4 ⟨rfl, hb4⟩
    rw [E2.out]
    have HB4 := Aside0.mk (below_step HB3.out hb4)
    have HX4 := Aside0.mk (blk_below HX3.out hb4)
    clear hb4 hc0w3 hc1w3 hc2w3
    have hc0w4 : w4.cell? ⟨b1, 0, none⟩ = some (.string t.f0) := (cell_of_row w4 b1 0 _ _ _ HX4.out).trans rfl
    have hc1w4 : w4.cell? ⟨b1, 1, none⟩ = some (.slice At t.f1.length ct) := (cell_of_row w4 b1 1 _ _ _ HX4.out).trans rfl
    have hc2w4 : w4.cell? ⟨b1, 2, none⟩ = some (.slice Bt t.f2.length dt) := (cell_of_row w4 b1 2 _ _ _ HX4.out).trans rfl
    go_wp2_with fail
    go_ret
    exact ⟨by rw [HM.out]; rfl, HB4.out⟩
  | true =>
  have E2 := Aside0.mk h2
  cases h3 : t.f2.any (superP t) with
  | false =>
    have E3 := Aside0.mk h3
    have HM : Aside0 (mayP t = false) := ⟨by unfold mayP; rw [h0, h1, h2, h3]; rfl⟩
    clear h0 h1 h2 h3
    go_enter Try.func85, Try.ntmps85
    go_wp2_with (first | ((with_reducible refine gate_dst (N := 1) rfl ?_); refine box_event rfl (N := 1) rfl (cs := #[.string t.f0, .slice At t.f1.length ct, .slice Bt t.f2.length dt]) (t := TT) ?hr ?_; (case hr => first | (go_simp; done) | (go_simp; rfl)); intro b1 hgb1 w1 hb1 hBb1; have HXb1 := Aside0.mk hb1; have HBb1 := Aside0.mk hBb1; have hc2w1 : w1.cell? ⟨b1, 2, none⟩ = some (.slice Bt t.f2.length dt) := (cell_of_row w1 b1 2 _ _ _ hb1).trans rfl; clear hgb1 hb1 hBb1))
    refine (contains_proj (.func (.func 124) #[] #[.pointer (some ⟨b1, 0, none⟩)]) (fun p => !projP p t.f1.length) Bt dt t.f2 _ (Kd.C_below HP.out HBb1.out) hdt (by have := HG.out.p; omega) (fun i hi c w2 hb hcl hk => CallsV.of Try.func124 (by kernel_rfl) rfl (may_fn t At ct Bt dt t.f2[i] c b1 w2 hk (HG.out.ps _ (List.getElem_mem hi)).2 (HG.out.ps _ (List.getElem_mem hi)).1 HG.out.c (blk_below HXb1.out hb)))).mono ?_
    rintro e w2 ⟨rfl, hb2⟩
    rw [any_not, E0.out]
    have HB2 := Aside0.mk (below_step HBb1.out hb2)
    have HX2 := Aside0.mk (blk_below HXb1.out hb2)
    clear hb2 hc2w1
    have hc0w2 : w2.cell? ⟨b1, 0, none⟩ = some (.string t.f0) := (cell_of_row w2 b1 0 _ _ _ HX2.out).trans rfl
    have hc1w2 : w2.cell? ⟨b1, 1, none⟩ = some (.slice At t.f1.length ct) := (cell_of_row w2 b1 1 _ _ _ HX2.out).trans rfl
    have hc2w2 : w2.cell? ⟨b1, 2, none⟩ = some (.slice Bt t.f2.length dt) := (cell_of_row w2 b1 2 _ _ _ HX2.out).trans rfl
    go_wp2_with fail
    refine (name_calls t.f0 _ HG.out.s).mono ?_
    rintro e w3 ⟨rfl, hb3⟩
    rw [E1.out]
    have HB3 := Aside0.mk (below_step HB2.out hb3)
    have HX3 := Aside0.mk (blk_below HX2.out hb3)
    clear hb3 hc0w2 hc1w2 hc2w2
    have hc0w3 : w3.cell? ⟨b1, 0, none⟩ = some (.string t.f0) := (cell_of_row w3 b1 0 _ _ _ HX3.out).trans rfl
    have hc1w3 : w3.cell? ⟨b1, 1, none⟩ = some (.slice At t.f1.length ct) := (cell_of_row w3 b1 1 _ _ _ HX3.out).trans rfl
    have hc2w3 : w3.cell? ⟨b1, 2, none⟩ = some (.slice Bt t.f2.length dt) := (cell_of_row w3 b1 2 _ _ _ HX3.out).trans rfl
    go_wp2_with fail
    refine (cols_calls t.f1 At ct _ (Kd.C_below HC.out HB3.out) hct HG.out.c HG.out.cs).mono ?_
    rintro e w4 ⟨rfl, hb4⟩
    rw [E2.out]
    have HB4 := Aside0.mk (below_step HB3.out hb4)
    have HX4 := Aside0.mk (blk_below HX3.out hb4)
    clear hb4 hc0w3 hc1w3 hc2w3
    have hc0w4 : w4.cell? ⟨b1, 0, none⟩ = some (.string t.f0) := (cell_of_row w4 b1 0 _ _ _ HX4.out).trans rfl
    have hc1w4 : w4.cell? ⟨b1, 1, none⟩ = some (.slice At t.f1.length ct) := (cell_of_row w4 b1 1 _ _ _ HX4.out).trans rfl
    have hc2w4 : w4.cell? ⟨b1, 2, none⟩ = some (.slice Bt t.f2.length dt) := (cell_of_row w4 b1 2 _ _ _ HX4.out).trans rfl
    go_wp2_with (first | ((with_reducible refine gate_dst (N := 21) rfl ?_); refine gate_guard (by rfl) ?_; dsimp only; refine wpList_load_row rfl TT (.tmp 1) rfl b1 rfl TT #[.string t.f0, .slice At t.f1.length ct, .slice Bt t.f2.length dt] (0, 0) _ HX4.out Try.underlying47 rfl size_T ?_))
    refine (whole_calls t At ct Bt dt _ (Kd.C_below HP.out HB4.out) hdt HG.out).mono ?_
    rintro e w5 ⟨rfl, hb5⟩
    rw [E3.out]
    have HB5 := Aside0.mk (below_step HB4.out hb5)
    have HX5 := Aside0.mk (blk_below HX4.out hb5)
    clear hb5 hc0w4 hc1w4 hc2w4
    have hc0w5 : w5.cell? ⟨b1, 0, none⟩ = some (.string t.f0) := (cell_of_row w5 b1 0 _ _ _ HX5.out).trans rfl
    have hc1w5 : w5.cell? ⟨b1, 1, none⟩ = some (.slice At t.f1.length ct) := (cell_of_row w5 b1 1 _ _ _ HX5.out).trans rfl
    have hc2w5 : w5.cell? ⟨b1, 2, none⟩ = some (.slice Bt t.f2.length dt) := (cell_of_row w5 b1 2 _ _ _ HX5.out).trans rfl
    go_wp2_with fail
    go_ret
    exact ⟨by rw [HM.out]; rfl, HB5.out⟩
  | true =>
  have E3 := Aside0.mk h3
  have hM : mayP t = (decide (t.f2.length ≤ 6) && onceP (t.f2.map (·.f0))) := by unfold mayP; rw [h0, h1, h2, h3]; rfl
  have HM := Aside0.mk hM
  have HK : Aside0 (∀ x ∈ t.f2, x.f0.size ≤ maxLen) := ⟨fun x hx => by
    have h4 := List.all_eq_true.1 h0 x hx
    unfold projP at h4
    simp only [Bool.and_eq_true] at h4
    have := nameP_size h4.1.1.1.1.1.2
    unfold maxLen
    omega⟩
  clear h0 h1 h2 h3 hM
  by_cases h6 : t.f2.length ≤ 6
  · have t1 : decide (t.f2.length ≤ 6) = true := decide_eq_true h6
    have t2 : decide (((t.f2.length : Nat) : Int) ≤ 6) = true := decide_eq_true (by omega)
    go_enter Try.func85, Try.ntmps85
    go_wp2_with (first | ((with_reducible refine gate_dst (N := 1) rfl ?_); refine box_event rfl (N := 1) rfl (cs := #[.string t.f0, .slice At t.f1.length ct, .slice Bt t.f2.length dt]) (t := TT) ?hr ?_; (case hr => first | (go_simp; done) | (go_simp; rfl)); intro b1 hgb1 w1 hb1 hBb1; have HXb1 := Aside0.mk hb1; have HBb1 := Aside0.mk hBb1; have hc2w1 : w1.cell? ⟨b1, 2, none⟩ = some (.slice Bt t.f2.length dt) := (cell_of_row w1 b1 2 _ _ _ hb1).trans rfl; clear hgb1 hb1 hBb1))
    refine (contains_proj (.func (.func 124) #[] #[.pointer (some ⟨b1, 0, none⟩)]) (fun p => !projP p t.f1.length) Bt dt t.f2 _ (Kd.C_below HP.out HBb1.out) hdt (by have := HG.out.p; omega) (fun i hi c w2 hb hcl hk => CallsV.of Try.func124 (by kernel_rfl) rfl (may_fn t At ct Bt dt t.f2[i] c b1 w2 hk (HG.out.ps _ (List.getElem_mem hi)).2 (HG.out.ps _ (List.getElem_mem hi)).1 HG.out.c (blk_below HXb1.out hb)))).mono ?_
    rintro e w2 ⟨rfl, hb2⟩
    rw [any_not, E0.out]
    have HB2 := Aside0.mk (below_step HBb1.out hb2)
    have HX2 := Aside0.mk (blk_below HXb1.out hb2)
    clear hb2 hc2w1
    have hc0w2 : w2.cell? ⟨b1, 0, none⟩ = some (.string t.f0) := (cell_of_row w2 b1 0 _ _ _ HX2.out).trans rfl
    have hc1w2 : w2.cell? ⟨b1, 1, none⟩ = some (.slice At t.f1.length ct) := (cell_of_row w2 b1 1 _ _ _ HX2.out).trans rfl
    have hc2w2 : w2.cell? ⟨b1, 2, none⟩ = some (.slice Bt t.f2.length dt) := (cell_of_row w2 b1 2 _ _ _ HX2.out).trans rfl
    go_wp2_with fail
    refine (name_calls t.f0 _ HG.out.s).mono ?_
    rintro e w3 ⟨rfl, hb3⟩
    rw [E1.out]
    have HB3 := Aside0.mk (below_step HB2.out hb3)
    have HX3 := Aside0.mk (blk_below HX2.out hb3)
    clear hb3 hc0w2 hc1w2 hc2w2
    have hc0w3 : w3.cell? ⟨b1, 0, none⟩ = some (.string t.f0) := (cell_of_row w3 b1 0 _ _ _ HX3.out).trans rfl
    have hc1w3 : w3.cell? ⟨b1, 1, none⟩ = some (.slice At t.f1.length ct) := (cell_of_row w3 b1 1 _ _ _ HX3.out).trans rfl
    have hc2w3 : w3.cell? ⟨b1, 2, none⟩ = some (.slice Bt t.f2.length dt) := (cell_of_row w3 b1 2 _ _ _ HX3.out).trans rfl
    go_wp2_with fail
    refine (cols_calls t.f1 At ct _ (Kd.C_below HC.out HB3.out) hct HG.out.c HG.out.cs).mono ?_
    rintro e w4 ⟨rfl, hb4⟩
    rw [E2.out]
    have HB4 := Aside0.mk (below_step HB3.out hb4)
    have HX4 := Aside0.mk (blk_below HX3.out hb4)
    clear hb4 hc0w3 hc1w3 hc2w3
    have hc0w4 : w4.cell? ⟨b1, 0, none⟩ = some (.string t.f0) := (cell_of_row w4 b1 0 _ _ _ HX4.out).trans rfl
    have hc1w4 : w4.cell? ⟨b1, 1, none⟩ = some (.slice At t.f1.length ct) := (cell_of_row w4 b1 1 _ _ _ HX4.out).trans rfl
    have hc2w4 : w4.cell? ⟨b1, 2, none⟩ = some (.slice Bt t.f2.length dt) := (cell_of_row w4 b1 2 _ _ _ HX4.out).trans rfl
    go_wp2_with (first | ((with_reducible refine gate_dst (N := 21) rfl ?_); refine gate_guard (by rfl) ?_; dsimp only; refine wpList_load_row rfl TT (.tmp 1) rfl b1 rfl TT #[.string t.f0, .slice At t.f1.length ct, .slice Bt t.f2.length dt] (0, 0) _ HX4.out Try.underlying47 rfl size_T ?_))
    refine (whole_calls t At ct Bt dt _ (Kd.C_below HP.out HB4.out) hdt HG.out).mono ?_
    rintro e w5 ⟨rfl, hb5⟩
    rw [E3.out]
    have HB5 := Aside0.mk (below_step HB4.out hb5)
    have HX5 := Aside0.mk (blk_below HX4.out hb5)
    clear hb5 hc0w4 hc1w4 hc2w4
    have hc0w5 : w5.cell? ⟨b1, 0, none⟩ = some (.string t.f0) := (cell_of_row w5 b1 0 _ _ _ HX5.out).trans rfl
    have hc1w5 : w5.cell? ⟨b1, 1, none⟩ = some (.slice At t.f1.length ct) := (cell_of_row w5 b1 1 _ _ _ HX5.out).trans rfl
    have hc2w5 : w5.cell? ⟨b1, 2, none⟩ = some (.slice Bt t.f2.length dt) := (cell_of_row w5 b1 2 _ _ _ HX5.out).trans rfl
    go_wp2_with fail
    refine (twice_proj (.func (.func 126) #[] #[]) (·.f0) Bt dt t.f2 _ (Kd.C_below HP.out HB5.out) HG.out.p HK.out (fun i hi c w2 hb hcl hk => CallsV.of Try.func126 (by kernel_rfl) rfl (proj_key t.f2[i] c w2 hk))).mono ?_
    rintro e w6 ⟨rfl, hb6⟩
    have HB6 := Aside0.mk (below_step HB5.out hb6)
    clear hb6 hc0w5 hc1w5 hc2w5
    go_wp2_with fail
    go_ret
    exact ⟨by rw [HM.out, t1]; simp, HB6.out⟩
  · have t1 : decide (t.f2.length ≤ 6) = false := decide_eq_false h6
    have t2 : decide (((t.f2.length : Nat) : Int) ≤ 6) = false := decide_eq_false (by omega)
    go_enter Try.func85, Try.ntmps85
    go_wp2_with (first | ((with_reducible refine gate_dst (N := 1) rfl ?_); refine box_event rfl (N := 1) rfl (cs := #[.string t.f0, .slice At t.f1.length ct, .slice Bt t.f2.length dt]) (t := TT) ?hr ?_; (case hr => first | (go_simp; done) | (go_simp; rfl)); intro b1 hgb1 w1 hb1 hBb1; have HXb1 := Aside0.mk hb1; have HBb1 := Aside0.mk hBb1; have hc2w1 : w1.cell? ⟨b1, 2, none⟩ = some (.slice Bt t.f2.length dt) := (cell_of_row w1 b1 2 _ _ _ hb1).trans rfl; clear hgb1 hb1 hBb1))
    refine (contains_proj (.func (.func 124) #[] #[.pointer (some ⟨b1, 0, none⟩)]) (fun p => !projP p t.f1.length) Bt dt t.f2 _ (Kd.C_below HP.out HBb1.out) hdt (by have := HG.out.p; omega) (fun i hi c w2 hb hcl hk => CallsV.of Try.func124 (by kernel_rfl) rfl (may_fn t At ct Bt dt t.f2[i] c b1 w2 hk (HG.out.ps _ (List.getElem_mem hi)).2 (HG.out.ps _ (List.getElem_mem hi)).1 HG.out.c (blk_below HXb1.out hb)))).mono ?_
    rintro e w2 ⟨rfl, hb2⟩
    rw [any_not, E0.out]
    have HB2 := Aside0.mk (below_step HBb1.out hb2)
    have HX2 := Aside0.mk (blk_below HXb1.out hb2)
    clear hb2 hc2w1
    have hc0w2 : w2.cell? ⟨b1, 0, none⟩ = some (.string t.f0) := (cell_of_row w2 b1 0 _ _ _ HX2.out).trans rfl
    have hc1w2 : w2.cell? ⟨b1, 1, none⟩ = some (.slice At t.f1.length ct) := (cell_of_row w2 b1 1 _ _ _ HX2.out).trans rfl
    have hc2w2 : w2.cell? ⟨b1, 2, none⟩ = some (.slice Bt t.f2.length dt) := (cell_of_row w2 b1 2 _ _ _ HX2.out).trans rfl
    go_wp2_with fail
    refine (name_calls t.f0 _ HG.out.s).mono ?_
    rintro e w3 ⟨rfl, hb3⟩
    rw [E1.out]
    have HB3 := Aside0.mk (below_step HB2.out hb3)
    have HX3 := Aside0.mk (blk_below HX2.out hb3)
    clear hb3 hc0w2 hc1w2 hc2w2
    have hc0w3 : w3.cell? ⟨b1, 0, none⟩ = some (.string t.f0) := (cell_of_row w3 b1 0 _ _ _ HX3.out).trans rfl
    have hc1w3 : w3.cell? ⟨b1, 1, none⟩ = some (.slice At t.f1.length ct) := (cell_of_row w3 b1 1 _ _ _ HX3.out).trans rfl
    have hc2w3 : w3.cell? ⟨b1, 2, none⟩ = some (.slice Bt t.f2.length dt) := (cell_of_row w3 b1 2 _ _ _ HX3.out).trans rfl
    go_wp2_with fail
    refine (cols_calls t.f1 At ct _ (Kd.C_below HC.out HB3.out) hct HG.out.c HG.out.cs).mono ?_
    rintro e w4 ⟨rfl, hb4⟩
    rw [E2.out]
    have HB4 := Aside0.mk (below_step HB3.out hb4)
    have HX4 := Aside0.mk (blk_below HX3.out hb4)
    clear hb4 hc0w3 hc1w3 hc2w3
    have hc0w4 : w4.cell? ⟨b1, 0, none⟩ = some (.string t.f0) := (cell_of_row w4 b1 0 _ _ _ HX4.out).trans rfl
    have hc1w4 : w4.cell? ⟨b1, 1, none⟩ = some (.slice At t.f1.length ct) := (cell_of_row w4 b1 1 _ _ _ HX4.out).trans rfl
    have hc2w4 : w4.cell? ⟨b1, 2, none⟩ = some (.slice Bt t.f2.length dt) := (cell_of_row w4 b1 2 _ _ _ HX4.out).trans rfl
    go_wp2_with (first | ((with_reducible refine gate_dst (N := 21) rfl ?_); refine gate_guard (by rfl) ?_; dsimp only; refine wpList_load_row rfl TT (.tmp 1) rfl b1 rfl TT #[.string t.f0, .slice At t.f1.length ct, .slice Bt t.f2.length dt] (0, 0) _ HX4.out Try.underlying47 rfl size_T ?_))
    refine (whole_calls t At ct Bt dt _ (Kd.C_below HP.out HB4.out) hdt HG.out).mono ?_
    rintro e w5 ⟨rfl, hb5⟩
    rw [E3.out]
    have HB5 := Aside0.mk (below_step HB4.out hb5)
    have HX5 := Aside0.mk (blk_below HX4.out hb5)
    clear hb5 hc0w4 hc1w4 hc2w4
    have hc0w5 : w5.cell? ⟨b1, 0, none⟩ = some (.string t.f0) := (cell_of_row w5 b1 0 _ _ _ HX5.out).trans rfl
    have hc1w5 : w5.cell? ⟨b1, 1, none⟩ = some (.slice At t.f1.length ct) := (cell_of_row w5 b1 1 _ _ _ HX5.out).trans rfl
    have hc2w5 : w5.cell? ⟨b1, 2, none⟩ = some (.slice Bt t.f2.length dt) := (cell_of_row w5 b1 2 _ _ _ HX5.out).trans rfl
    go_wp2_with fail
    go_ret
    exact ⟨by rw [HM.out, t1]; rfl, HB5.out⟩
/-! Check -/
def chkE (l : List Tab) : Int := if checkP l = true then 0 else 1
theorem chkE_yes {l : List Tab} (h : checkP l = true) : chkE l = 0 := by unfold chkE; rw [if_pos h]
theorem chkE_no {l : List Tab} (h : checkP l = false) : chkE l = 1 := by unfold chkE; rw [if_neg (by rw [h]; decide)]
theorem tab_key (x : Tab) (c : List Value) (w : World) (hK : kT.K w x c) : Calls Try.prog 87 #[.agg c.toArray] w fun e w' => e = .returned (.string x.f0) ∧ Below w.heap.size w w' := by
  obtain ⟨At, ct, Bt, dt, rfl, _⟩ := k47_open hK
  go_enter Try.func87, Try.ntmps87
  go_wp2_with (first | ((with_reducible refine gate_dst (N := 1) rfl ?_); refine box_event rfl (N := 1) rfl (cs := #[.string x.f0, .slice At x.f1.length ct, .slice Bt x.f2.length dt]) (t := TT) ?hr ?_; (case hr => first | (go_simp; done) | (go_simp; rfl)); intro b hgb w1 hb hBb; have HXb := Aside0.mk hb; have HBb := Aside0.mk hBb; have hc0 : w1.cell? ⟨b, 0, none⟩ = some (.string x.f0) := (cell_of_row w1 b 0 _ _ _ hb).trans rfl; clear hgb hb hBb))
  go_ret
  exact ⟨rfl, HBb.out⟩
theorem tab_bad (x : Tab) (c : List Value) (w : World) (hK : kT.K w x c) (hg : GT x) : Calls Try.prog 84 #[.agg c.toArray] w fun e w' => e = .returned (.bool (!mayP x)) ∧ Below w.heap.size w w' := by
  obtain ⟨At, ct, Bt, dt, rfl, hct, hC, hdt, hP⟩ := k47_open hK
  have HC := Aside0.mk hC
  have HP := Aside0.mk hP
  clear hK hC hP
  go_enter Try.func84, Try.ntmps84
  go_wp2_with (first | ((with_reducible refine gate_dst (N := 1) rfl ?_); refine box_event rfl (N := 1) rfl (cs := #[.string x.f0, .slice At x.f1.length ct, .slice Bt x.f2.length dt]) (t := TT) ?hr ?_; (case hr => first | (go_simp; done) | (go_simp; rfl)); intro b hgb w1 hb hBb; have HXb := Aside0.mk hb; have HBb := Aside0.mk hBb; clear hgb hb hBb) | ((with_reducible refine gate_dst (N := 3) rfl ?_); refine wpList_load_row rfl TT (.tmp 1) rfl b rfl TT #[.string x.f0, .slice At x.f1.length ct, .slice Bt x.f2.length dt] (0, 0) _ HXb.out Try.underlying47 rfl size_T ?_))
  refine (may_calls x At ct Bt dt _ (Kd.C_below HC.out HBb.out) hct (Kd.C_below HP.out HBb.out) hdt hg).mono ?_
  rintro e w3 ⟨rfl, hb3⟩
  go_wp2_with fail
  go_ret
  exact ⟨rfl, below_step HBb.out hb3⟩
set_option maxHeartbeats 2000000 in
set_option maxRecDepth 100000 in
theorem check_calls (l : List Tab) (A : Option Addr) (c0 : Nat) (w : World) (hr : Kd.C kT w A l.length l) (hc : l.length ≤ c0) (hl : l.length ≤ 1000000) (hg : ∀ x ∈ l, GT x) :
    Calls Try.prog 39 #[.slice A l.length c0] w fun e w' => e = .returned (.int .i64 (chkE l)) ∧ Below w.heap.size w w' := by
  have H1 := Aside0.mk (contains_table (.func (.func 84) #[] #[]) (fun c => !mayP c) A c0 l w hr hc (by omega) (fun i hi c w1 hb hcl hk => CallsV.of Try.func84 (by kernel_rfl) rfl (tab_bad l[i] c w1 hk (hg _ (List.getElem_mem hi)))))
  rw [any_not] at H1
  have HR := Aside0.mk hr
  clear hr hg
  cases ha : l.all mayP with
  | false =>
    have HP : Aside0 (chkE l = 1) := ⟨chkE_no (by unfold checkP; rw [ha]; rfl)⟩
    rw [ha] at H1
    clear ha
    go_enter Try.func39, Try.ntmps39
    go_wp2_with fail
    refine H1.out.mono ?_
    rintro e w1 ⟨rfl, hb1⟩
    go_wp2_with fail
    go_ret
    exact ⟨by rw [HP.out]; rfl, hb1⟩
  | true =>
    have hP : checkP l = (decide (l.length ≤ 8) && onceP (l.map (·.f0))) := by unfold checkP; rw [ha]; rfl
    have HP := Aside0.mk hP
    have HK : Aside0 (∀ x ∈ l, x.f0.size ≤ maxLen) := ⟨fun x hx => by
      have h1 := List.all_eq_true.1 ha x hx
      unfold mayP at h1
      simp only [Bool.and_eq_true] at h1
      have := nameP_size h1.1.1.1.1.2
      unfold maxLen
      omega⟩
    rw [ha] at H1
    clear ha hP
    by_cases h8 : l.length ≤ 8
    · have t1 : decide (8 < l.length) = false := decide_eq_false (by omega)
      have t2 : decide (8 < ((l.length : Nat) : Int)) = false := decide_eq_false (by omega)
      cases ho : onceP (l.map (·.f0)) with
      | true =>
        have HQ : Aside0 (chkE l = 0) := ⟨chkE_yes (by rw [HP.out, ho, decide_eq_true h8]; rfl)⟩
        have HO := Aside0.mk ho
        clear ho
        go_enter Try.func39, Try.ntmps39
        go_wp2_with fail
        refine H1.out.mono ?_
        rintro e w1 ⟨rfl, hb1⟩
        have HB1 := Aside0.mk hb1
        clear hb1
        go_wp2_with fail
        refine (twice_table (.func (.func 87) #[] #[]) (·.f0) A c0 l _ (Kd.C_below HR.out HB1.out) hl HK.out (fun i hi c w2 hb hcl hk => CallsV.of Try.func87 (by kernel_rfl) rfl (tab_key l[i] c w2 hk))).mono ?_
        rintro e w2 ⟨rfl, hb2⟩
        rw [HO.out]
        go_wp2_with fail
        go_ret
        exact ⟨by rw [HQ.out]; rfl, below_step HB1.out hb2⟩
      | false =>
        have HQ : Aside0 (chkE l = 1) := ⟨chkE_no (by rw [HP.out, ho, decide_eq_true h8]; rfl)⟩
        have HO := Aside0.mk ho
        clear ho
        go_enter Try.func39, Try.ntmps39
        go_wp2_with fail
        refine H1.out.mono ?_
        rintro e w1 ⟨rfl, hb1⟩
        have HB1 := Aside0.mk hb1
        clear hb1
        go_wp2_with fail
        refine (twice_table (.func (.func 87) #[] #[]) (·.f0) A c0 l _ (Kd.C_below HR.out HB1.out) hl HK.out (fun i hi c w2 hb hcl hk => CallsV.of Try.func87 (by kernel_rfl) rfl (tab_key l[i] c w2 hk))).mono ?_
        rintro e w2 ⟨rfl, hb2⟩
        rw [HO.out]
        go_wp2_with fail
        go_ret
        exact ⟨by rw [HQ.out]; rfl, below_step HB1.out hb2⟩
    · have t1 : decide (8 < l.length) = true := decide_eq_true (by omega)
      have t2 : decide (8 < ((l.length : Nat) : Int)) = true := decide_eq_true (by omega)
      have HQ : Aside0 (chkE l = 1) := ⟨chkE_no (by rw [HP.out, decide_eq_false h8]; rfl)⟩
      go_enter Try.func39, Try.ntmps39
      go_wp2_with fail
      refine H1.out.mono ?_
      rintro e w1 ⟨rfl, hb1⟩
      go_wp2_with fail
      go_ret
      exact ⟨by rw [HQ.out]; rfl, hb1⟩
end Go.Proofs.Ytgjclhhjigflkac.Sc

/- The walks of slices.Clone: a row of the call's own, with what its elements lead to. (Written by genclone.py.) -/
namespace Go.Proofs.Ytgjclhhjigflkac.Sc
open Go Go.RowKit Go.Proofs.Ytgjclhhjigflkac.C Go.Proofs.Ytgjclhhjigflkac.MyWords Go.Proofs.Ytgjclhhjigflkac.Hand Go.Proofs.YtgjclhhjigflkacW.PrintWords Go.Proofs.YtgjclhhjigflkacW.PrintLast Go.Proofs.YtgjclhhjigflkacW.PrintMore
set_option linter.unusedVariables false
set_option linter.unusedSimpArgs false
theorem eql_nil {P : Program} (w : World) (t e : TypeId) (a : Option Addr) (l c : Nat) (h : P.underlying t = some (.slice e)) : (binOp .eql t (.slice a l c) (.slice none 0 0)).run P w = .ok (.bool a.isNone) w := by
  simp only [binOp]
  simp [run_equal_slice_nil w t e a l c h]
theorem C_none {α : Type} {d : Kd α} {w : World} {l : List α} (h : Kd.C d w none l.length l) : l = [] := by
  have h1 := h.2.2
  cases l with
  | nil => rfl
  | cons x l =>
    obtain ⟨ad, h2, _⟩ := h1 (by simp)
    cases h2
theorem F_none {α : Type} {d : Kd α} {w : World} {ok : Nat → Prop} {l : List α} (h : Kd.F d w ok none l.length l) : l = [] := by
  have h1 := (Kd.F_now h).2.2
  cases l with
  | nil => rfl
  | cons x l =>
    obtain ⟨ad, h2, _⟩ := h1 (by simp)
    cases h2
theorem info_int : (Try.prog.info? 3).map (fun i => (i.zero, i.size, i.bytes)) = some (some (.int .i64 0), (Kd.int .i64).sz, 8) := by kernel_rfl
set_option maxHeartbeats 1000000 in
set_option maxRecDepth 100000 in
theorem clone_int (A : Option Addr) (c0 : Nat) (l : List Int) (w : World) (hf : Kd.C (Kd.int .i64) w A l.length l) (hl : l.length ≤ 1000000) :
    Calls Try.prog 104 #[.slice A l.length c0] w fun e w' => ∃ v, e = .returned v ∧ Kd.R (Kd.int .i64) 3 w' w.heap.size (fun k => w.heap.size ≤ k) v l ∧ Below w.heap.size w w' := by
  have HF := Aside0.mk hf
  have HB0 := Aside0.mk (Below.refl w.heap.size w)
  cases A with
  | none =>
    obtain rfl : l = [] := C_none hf
    clear HF hf
    have hcmp : ∀ w' : World, (binOp .eql 43 (.slice none 0 c0) (.slice none 0 0)).run Try.prog w' = .ok (.bool true) w' := fun w' => eql_nil w' _ _ _ _ _ Try.underlying43
    go_enter Try.func104, Try.ntmps104
    go_wp2
    go_ret
    exact ⟨_, rfl, Kd.R_nil _ _ _ _ _, HB0.out⟩
  | some ad =>
    clear hf
    have hcmp : ∀ w' : World, (binOp .eql 43 (.slice (some ad) l.length c0) (.slice none 0 0)).run Try.prog w' = .ok (.bool false) w' := fun w' => eql_nil w' _ _ _ _ _ Try.underlying43
    go_enter Try.func104, Try.ntmps104
    go_wp2_with (first | ((with_reducible refine gate_dst (N := 5) rfl ?_); refine Kd.R_lit (Kd.int .i64) (w0 := w) w.heap.size 3 rfl (N := 5) rfl (xs := ([] : List Int)) (inner := []) (ok := fun k => w.heap.size ≤ k) (okp := fun _ => False) ?hr (Reps.none _ _) (fun _ hk => hk.elim) (Nat.le_refl _) HB0.out (Nat.le_refl _) (by simp) ?_; (case hr => first | rfl | (go_simp; done) | (go_simp; rfl)); intro v5 w5 ho5 hB5 hg5 hn5; have HO5 := Aside0.mk ho5; have HB5 := Aside0.mk hB5; clear ho5 hB5 hg5 hn5) | ((with_reducible refine gate_dst (N := 7) rfl ?_); refine Kd.R_append_rows (Kd.int .i64) (Rr := (Kd.int .i64).K w5) (w0 := w) w.heap.size rfl (.tmp 5) (.tmp 6) 43 3 (.int .i64 0) 8 rfl Try.underlying43 info_int rfl (by decide) (by omega) v5 ([] : List Int) l (some ad) l.length c0 (fun k => w.heap.size ≤ k) (fun _ => False) rfl rfl HO5.out (Kd.C_below HF.out HB5.out) (fun x cs hx => hx) (fun _ hk => hk.elim) (fun k hk => Nat.le_trans HB5.out.size hk) HB5.out HB5.out.size ?hl ?_; (case hl => show (0 + l.length) * 8 ≤ _; omega); intro v7 w7 ho7 hB7 hg7 hn7; have HO7 := Aside0.mk ho7; have HB7 := Aside0.mk hB7; clear ho7 hB7 hg7 hn7))
    go_ret
    exact ⟨_, rfl, HO7.out, HB7.out⟩
theorem info_col : (Try.prog.info? TC).map (fun i => (i.zero, i.size, i.bytes)) = some (some (.agg #[(.string ⟨#[]⟩), (.int .i64 0), (.bool false)]), kC.sz, 32) := by kernel_rfl
set_option maxHeartbeats 1000000 in
set_option maxRecDepth 100000 in
theorem clone_col (A : Option Addr) (c0 : Nat) (l : List Col) (w : World) (hf : Kd.C kC w A l.length l) (hl : l.length ≤ 1000000) :
    Calls Try.prog 135 #[.slice A l.length c0] w fun e w' => ∃ v, e = .returned v ∧ Kd.R kC TC w' w.heap.size (fun k => w.heap.size ≤ k) v l ∧ Below w.heap.size w w' := by
  have HF := Aside0.mk hf
  have HB0 := Aside0.mk (Below.refl w.heap.size w)
  cases A with
  | none =>
    obtain rfl : l = [] := C_none hf
    clear HF hf
    have hcmp : ∀ w' : World, (binOp .eql 44 (.slice none 0 c0) (.slice none 0 0)).run Try.prog w' = .ok (.bool true) w' := fun w' => eql_nil w' _ _ _ _ _ Try.underlying44
    go_enter Try.func135, Try.ntmps135
    go_wp2
    go_ret
    exact ⟨_, rfl, Kd.R_nil _ _ _ _ _, HB0.out⟩
  | some ad =>
    clear hf
    have hcmp : ∀ w' : World, (binOp .eql 44 (.slice (some ad) l.length c0) (.slice none 0 0)).run Try.prog w' = .ok (.bool false) w' := fun w' => eql_nil w' _ _ _ _ _ Try.underlying44
    go_enter Try.func135, Try.ntmps135
    go_wp2_with (first | ((with_reducible refine gate_dst (N := 5) rfl ?_); refine Kd.R_lit kC (w0 := w) w.heap.size TC rfl (N := 5) rfl (xs := ([] : List Col)) (inner := []) (ok := fun k => w.heap.size ≤ k) (okp := fun _ => False) ?hr (Reps.none _ _) (fun _ hk => hk.elim) (Nat.le_refl _) HB0.out (Nat.le_refl _) (by simp) ?_; (case hr => first | rfl | (go_simp; done) | (go_simp; rfl)); intro v5 w5 ho5 hB5 hg5 hn5; have HO5 := Aside0.mk ho5; have HB5 := Aside0.mk hB5; clear ho5 hB5 hg5 hn5) | ((with_reducible refine gate_dst (N := 7) rfl ?_); refine Kd.R_append_rows kC (Rr := kC.K w5) (w0 := w) w.heap.size rfl (.tmp 5) (.tmp 6) 44 TC (.agg #[(.string ⟨#[]⟩), (.int .i64 0), (.bool false)]) 32 rfl Try.underlying44 info_col rfl (by decide) (by omega) v5 ([] : List Col) l (some ad) l.length c0 (fun k => w.heap.size ≤ k) (fun _ => False) rfl rfl HO5.out (Kd.C_below HF.out HB5.out) (fun x cs hx => by obtain rfl := k96_open hx; exact k96_mkM _ _ _ x) (fun _ hk => hk.elim) (fun k hk => Nat.le_trans HB5.out.size hk) HB5.out HB5.out.size ?hl ?_; (case hl => show (0 + l.length) * 32 ≤ _; omega); intro v7 w7 ho7 hB7 hg7 hn7; have HO7 := Aside0.mk ho7; have HB7 := Aside0.mk hB7; clear ho7 hB7 hg7 hn7))
    go_ret
    exact ⟨_, rfl, HO7.out, HB7.out⟩
theorem info_proj : (Try.prog.info? TP).map (fun i => (i.zero, i.size, i.bytes)) = some (some (.agg #[(.string ⟨#[]⟩), (.slice none 0 0), (.int .i64 0)]), kP.sz, 48) := by kernel_rfl
set_option maxHeartbeats 1000000 in
set_option maxRecDepth 100000 in
theorem clone_proj (A : Option Addr) (c0 : Nat) (l : List Prj) (okp : Nat → Prop) (w : World) (hf : Kd.F kP w okp A l.length l) (hl : l.length ≤ 1000000) :
    Calls Try.prog 136 #[.slice A l.length c0] w fun e w' => ∃ v, e = .returned v ∧ Kd.N kP TP w' w.heap.size (fun k => okp k ∨ w.heap.size ≤ k) v l ∧ Below w.heap.size w w' := by
  have HF := Aside0.mk (Kd.F_bound hf)
  have HB0 := Aside0.mk (Below.refl w.heap.size w)
  cases A with
  | none =>
    obtain rfl : l = [] := F_none hf
    clear HF hf
    have hcmp : ∀ w' : World, (binOp .eql 45 (.slice none 0 c0) (.slice none 0 0)).run Try.prog w' = .ok (.bool true) w' := fun w' => eql_nil w' _ _ _ _ _ Try.underlying45
    go_enter Try.func136, Try.ntmps136
    go_wp2
    go_ret
    exact ⟨_, rfl, Kd.N_nil _ _ _ _ _, HB0.out⟩
  | some ad =>
    clear hf
    have hcmp : ∀ w' : World, (binOp .eql 45 (.slice (some ad) l.length c0) (.slice none 0 0)).run Try.prog w' = .ok (.bool false) w' := fun w' => eql_nil w' _ _ _ _ _ Try.underlying45
    go_enter Try.func136, Try.ntmps136
    go_wp2_with (first | ((with_reducible refine gate_dst (N := 5) rfl ?_); refine Kd.N_lit kP (w0 := w) w.heap.size TP rfl (N' := 5) rfl (xs := ([] : List Prj)) (inner := []) (ok := fun k => w.heap.size ≤ k) (okp := fun _ => False) ?hr (Reps.none _ _) (fun _ hk => hk.elim) (Nat.le_refl _) HB0.out (Nat.le_refl _) (by simp) ?_; (case hr => first | rfl | (go_simp; done) | (go_simp; rfl)); intro v5 w5 ho5 hB5 hg5 hn5; have HO5 := Aside0.mk ho5; have HB5 := Aside0.mk hB5; have HN5 := Aside0.mk hn5; clear ho5 hB5 hg5 hn5) | ((with_reducible refine gate_dst (N := 7) rfl ?_); refine Kd.N_append_rows kP (w0 := w) w.heap.size rfl (.tmp 5) (.tmp 6) 45 TP (.agg #[(.string ⟨#[]⟩), (.slice none 0 0), (.int .i64 0)]) 48 rfl Try.underlying45 info_proj rfl (by decide) (by omega) v5 ([] : List Prj) l (some ad) l.length c0 (fun k => okp k ∨ w.heap.size ≤ k) (fun k => okp k ∧ k < w.heap.size) rfl rfl (Kd.N_mono HO5.out (fun _ hk => Or.inr hk)) (Kd.F_below HF.out HB5.out) ?hk (fun k hk => Or.inr (Nat.le_trans HB5.out.size hk)) HB5.out HB5.out.size ?hl ?_; (case hk => intro k hk; refine ⟨Or.inl hk.1, fun he => ?_⟩; obtain ⟨b, hb1, hb2⟩ := HN5.out; rw [hb1] at he; injection he with he; have := hk.2; omega); (case hl => show (0 + l.length) * 48 ≤ _; omega); intro v7 w7 ho7 hB7 hg7 hn7; have HO7 := Aside0.mk ho7; have HB7 := Aside0.mk hB7; clear ho7 hB7 hg7 hn7))
    go_ret
    exact ⟨_, rfl, HO7.out, HB7.out⟩
end Go.Proofs.Ytgjclhhjigflkac.Sc

/- Projections that are copied one by one: those ahead of j have columns of the call's own. -/
namespace Go.Proofs.Ytgjclhhjigflkac.Sc
open Go Go.RowKit Go.Proofs.Ytgjclhhjigflkac.C Go.Proofs.Ytgjclhhjigflkac.MyWords Go.Proofs.Ytgjclhhjigflkac.Hand Go.Proofs.YtgjclhhjigflkacW.PrintWords Go.Proofs.YtgjclhhjigflkacW.PrintLast Go.Proofs.YtgjclhhjigflkacW.PrintMore
set_option linter.unusedVariables false
set_option linter.unusedSimpArgs false
def Mix (W : World) (b j : Nat) (v : Value) (xs : List Prj) : Prop :=
  (∀ k, v.ownBlock = some k → b ≤ k) ∧ ∃ rows : List (List Value), rows.length = xs.length ∧ (Kd.raw 3).R TP W b (fun k => some k = v.ownBlock) v rows ∧
    ∀ (i : Nat) (x : Prj) (c : List Value), xs[i]? = some x → rows[i]? = some c → (i < j → kP.M W b (fun k => b ≤ k ∧ some k ≠ v.ownBlock) x c) ∧ Kd.FK kP W (fun k => some k ≠ v.ownBlock) x c
theorem mix_start {W : World} {b : Nat} {ok : Nat → Prop} {v : Value} {xs : List Prj} (h : Kd.N kP TP W b ok v xs) : Mix W b 0 v xs := by
  have hb := Kd.N_base h
  obtain ⟨h0, rows, hl, hR, hf⟩ := h
  exact ⟨hb, rows, hl, hR, fun i x c hx hc => ⟨fun h => by omega, Kd.FK_mono (hf i x c hx hc) (fun k hk => hk.2)⟩⟩
theorem mix_end {W : World} {b j : Nat} {v : Value} {xs : List Prj} (h : Mix W b j v xs) (hj : xs.length ≤ j) : Kd.R kP TP W b (fun k => b ≤ k) v xs := by
  obtain ⟨h0, rows, hl, hR, hf⟩ := h
  obtain ⟨_, inner, ho, hr⟩ := hR
  refine ⟨h0, inner, by rw [← hl]; exact ho, by rw [← hl]; exact hr.1, fun i x hx => ?_⟩
  have hi : i < rows.length := by have := (List.getElem?_eq_some_iff.1 hx).1; omega
  have h1 := hr.2 i _ (List.getElem?_eq_getElem hi)
  have h2 := (hf i x _ hx (List.getElem?_eq_getElem hi)).1 (by have := (List.getElem?_eq_some_iff.1 hx).1; omega)
  have h3 : ((inner.drop (i * 3)).take 3) = rows[i] := h1.1
  show kP.M W b _ x ((inner.drop (i * 3)).take 3)
  rw [h3]
  exact h2
theorem mix_N {W : World} {b j : Nat} {v : Value} {xs : List Prj} (h : Mix W b j v xs) : Kd.N kP TP W b (fun _ => True) v xs := by
  obtain ⟨h0, rows, hl, hR, hf⟩ := h
  exact ⟨fun _ _ => trivial, rows, hl, hR, fun i x c hx hc => Kd.FK_mono (hf i x c hx hc).2 (fun k hk => ⟨trivial, hk⟩)⟩
theorem mix_below {W W1 : World} {b j : Nat} {v : Value} {xs : List Prj} (h : Mix W b j v xs) (hb : Below W.heap.size W W1) : Mix W1 b j v xs := by
  obtain ⟨h0, rows, hl, hR, hf⟩ := h
  exact ⟨h0, rows, hl, Kd.R_below hR hb, fun i x c hx hc => ⟨fun h => Kd.M_below ((hf i x c hx hc).1 h) hb, Kd.FK_below (hf i x c hx hc).2 hb⟩⟩
/-- Element j gets columns of the call's own. -/
theorem mix_set {W : World} {b j g n cap : Nat} {xs : List Prj} (h : Mix W b j (.slice (some ⟨g, 0, none⟩) n cap) xs) (hj : j < xs.length) {u : Value} {bu : Nat} (hbu : b ≤ bu) (hu : (Kd.int .i64).R 3 W bu (fun k => b ≤ k ∧ k ≠ g) u xs[j].f1) :
    (∀ P : Program, (P.info? 43).map (·.size) = some 1 → (Instr.storeAt 43 (.pointer (some ⟨g, j * 3 + 1, none⟩)) u).run P W = .ok () (W.setCells g (j * 3 + 1) [u])) ∧ Mix (W.setCells g (j * 3 + 1) [u]) b (j + 1) (.slice (some ⟨g, 0, none⟩) n cap) xs ∧ W.grownBy (W.setCells g (j * 3 + 1) [u]) (some g) := by
  obtain ⟨h0, rows, hl, hR, hf⟩ := h
  have hn : n = rows.length := (Kd.R_reads' hR).1
  obtain ⟨c, hcl, hM, hcc, _⟩ := Kd.R_elem (Kd.raw_any hR) [] (j : Int) (by omega) (by omega)
  simp only [Int.toNat_natCast] at hcl hM hcc
  have hjr : j < rows.length := by omega
  have hc : c = rows[j] := by
    have h2 := hM.1
    rwa [List.getD_eq_getElem?_getD, List.getElem?_eq_getElem hjr] at h2
  have hk := (hf j xs[j] c (List.getElem?_eq_getElem hj) (by rw [hc]; exact List.getElem?_eq_getElem hjr)).2
  obtain ⟨A1, c1, hce, hl1, hF1⟩ := k52_openF hk
  obtain ⟨Au, cu, rfl⟩ := Kd.R_slice hu
  have hgo : some g = (Value.slice (some ⟨g, 0, none⟩) n cap).ownBlock := by simp [Value.ownBlock]
  have hMx : kP.M W b (fun k => b ≤ k ∧ k ≠ g) xs[j] [.string xs[j].f0, .slice Au xs[j].f1.length cu, .int .i64 xs[j].f2] := k52_mkM W b _ xs[j] (Kd.R_lower hu hbu)
  have hFK : Kd.FK kP W (fun k => b ≤ k ∧ k ≠ g) xs[j] [.string xs[j].f0, .slice Au xs[j].f1.length cu, .int .i64 xs[j].f2] := Kd.FK_of_M hMx
  have hseg : c.take 1 ++ [Value.slice Au xs[j].f1.length cu] ++ c.drop (1 + [Value.slice Au xs[j].f1.length cu].length) = [.string xs[j].f0, .slice Au xs[j].f1.length cu, .int .i64 xs[j].f2] := by rw [hce]; rfl
  obtain ⟨hrow, hg⟩ := Kd.R_seg (Kd.raw_any hR) (j : Int) (by omega) (by omega) (c := c) (seg := [Value.slice Au xs[j].f1.length cu]) (j := 1) (x' := [.string xs[j].f0, .slice Au xs[j].f1.length cu, .int .i64 xs[j].f2]) (okp := fun _ => False) hcl (by simpa using hcc) (by show 1 + 1 ≤ 3; omega) (by rw [hseg]; exact Kd.FK_raw hFK) (fun _ h => h.elim)
  simp only [Int.toNat_natCast] at hrow hg
  have hw3 : (Kd.raw 3).sz = 3 := rfl
  rw [hw3] at hrow hg
  refine ⟨fun P hP => ?_, ⟨h0, rows.set j _, by rw [List.length_set, hl], Kd.raw_tight hrow, fun i x c' hx hc' => ?_⟩, hg⟩
  · obtain ⟨inner, hown⟩ := Kd.R_own hR
    rcases hown.2 with ⟨hv, _⟩ | ⟨g', cap', cur, hv, hb, hh, hnc, hcm, hcs, _⟩
    · cases hv
    injection hv with ha _ hcp
    injection ha with ha
    injection ha with hg'
    subst hg'; subst hcp
    refine run_store_run _ _ _ hh rfl hP ?_ (by simp [Value.oneCell'])
    have h3 : (Kd.raw 3).sz = 3 := rfl
    rw [h3] at hcs
    simp only [List.length_singleton]
    omega
  · by_cases hij : i = j
    · subst hij
      rw [List.getElem?_eq_getElem hj] at hx
      rw [List.getElem?_set_self hjr] at hc'
      injection hx with hx
      injection hc' with hc'
      rw [← hx, ← hc']
      have hM1 := Kd.M_grown hMx hg (fun k hk he => hk.2 (by injection he))
      refine ⟨fun _ => kP.M_mono (fun k hk => ⟨hk.1, fun he => hk.2 (by rw [← hgo] at he; injection he)⟩) hM1, Kd.FK_mono (Kd.FK_of_M hM1) (fun k hk he => hk.2 (by rw [← hgo] at he; injection he))⟩
    · rw [List.getElem?_set_ne (Ne.symm hij)] at hc'
      exact ⟨fun h => Kd.M_grown ((hf i x c' hx hc').1 (by omega)) hg (fun k hk => by rw [hgo]; exact hk.2), Kd.FK_step (hf i x c' hx hc').2 (fun k hk hlt => hg.block k hlt (by rw [hgo]; exact hk))⟩
end Go.Proofs.Ytgjclhhjigflkac.Sc
