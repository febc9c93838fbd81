import Derived.Test.YtgjclhhjigflkacScCreate
import Derived.Test.YtgjclhhjigflkacHand
/- The walk of schema.Add. (Written by genadd.py.) -/
namespace Go.Proofs.Ytgjclhhjigflkac.Sc
open Go Go.RowKit Go.Proofs.Ytgjclhhjigflkac.C Go.Proofs.Ytgjclhhjigflkac.MyWords Go.Proofs.Ytgjclhhjigflkac.Hand Go.Proofs.YtgjclhhjigflkacW.PrintWords Go.Proofs.YtgjclhhjigflkacW.PrintLast Go.Proofs.YtgjclhhjigflkacW.PrintMore
set_option linter.unusedVariables false
set_option linter.unusedSimpArgs false
section
variable {P : Program} {ops : Array Oper} {S : World → Prop} {op : Oper} {a : Act}
theorem yieldsIf_load_any (hw : Region.wanted op (yielded ops a.tmps) = true) (ty : TypeId) (x : Operand) (ho : op.op = .load ty x) (ad : Addr) (hx : a.eval x = .pointer (some ad)) (c : List Value)
    (hS : ∀ w, S w → ∀ j v, c[j]? = some v → w.cell? (ad.add j) = some v) (d : TypeDesc) (hu : P.underlying ty = some d) (hd : (match d with | .struct _ | .array _ _ => true | _ => false) = true) (hi : (P.info? ty).map (·.size) = some c.length) : YieldsIf P ops S op (.agg c.toArray) a :=
  .inl ⟨hw, fun w hw' => by
    have hl := run_loadCells_list (P := P) w ad c (hS w hw')
    cases hq : P.info? ty with
    | none => simp [hq] at hi
    | some i =>
      have hs : i.size = c.length := by simpa [hq] using hi
      have hagg : (isAgg ty).run P w = .ok true w := by
        unfold isAgg
        rw [Sem.run_bind, run_underlying hu w]
        cases d <;> simp_all
      have hv : (loadVar ty ad).run P w = .ok (.agg c.toArray) w := by simp [loadVar, Sem.run_bind, hagg, sizeOf, typeInfo, hq, hs, hl]
      unfold execOp
      simp only [ho, hx, Instr.loadAt, Instr.sureAddr, Sem.run_bind, Sem.run_pure, Result.andThen_ok, hv]⟩
end
theorem rdT_at (l : List Tab) (i : Nat) (h : i < l.length) : rd_T47 l (i : Int) = l[i] := by
  unfold rd_T47
  rw [Int.toNat_natCast, List.getD_eq_getElem?_getD, List.getElem?_eq_getElem h]
  rfl
theorem size_SP : (Try.prog.info? 45).map (·.size) = some 1 := by kernel_rfl
theorem addj (g n j : Nat) : (⟨(Addr.add ⟨g, 0, none⟩ n).block, (Addr.add ⟨g, 0, none⟩ n).off + j, none⟩ : Addr) = ⟨g, n + j, none⟩ := by
  unfold Addr.add
  split
  · rename_i h
    simp_all
  · simp
def addP (l : List Tab) (n : ByteArray) (p : Prj) : List Tab × Int :=
  if checkP l = true then (if idxF (fun t : Tab => isN n t.f0) l 0 < 0 then ([], 3) else
    if projP p (rd_T47 l (idxF (fun t : Tab => isN n t.f0) l 0)).f1.length = true then
      (if 0 ≤ idxF (fun q : Prj => isN p.f0 q.f0) (rd_T47 l (idxF (fun t : Tab => isN n t.f0) l 0)).f2 0 then ([], 251)
      else if 6 ≤ (rd_T47 l (idxF (fun t : Tab => isN n t.f0) l 0)).f2.length then ([], 4)
      else (l.set (idxF (fun t : Tab => isN n t.f0) l 0).toNat ⟨(rd_T47 l (idxF (fun t : Tab => isN n t.f0) l 0)).f0, (rd_T47 l (idxF (fun t : Tab => isN n t.f0) l 0)).f1, (rd_T47 l (idxF (fun t : Tab => isN n t.f0) l 0)).f2 ++ [p]⟩, 0))
    else ([], 1)) else ([], 1)
set_option maxHeartbeats 1500000 in
set_option maxRecDepth 100000 in
theorem add_calls (l : List Tab) (A : Option Addr) (c0 : Nat) (n : ByteArray) (p : Prj) (Ap : Option Addr) (cp : Nat) (w : World) (hr : Kd.C kT w A l.length l) (hc : l.length ≤ c0) (hl : l.length ≤ 1000000) (hg : ∀ t ∈ l, GT t)
    (hrp : Kd.C (Kd.int .i64) w Ap p.f1.length p.f1) (hcp : p.f1.length ≤ cp) (hlp : p.f1.length ≤ 1000000) (hnp : p.f0.size ≤ 9223372036854775807) :
    Calls Try.prog 59 #[.slice A l.length c0, .string n, .agg #[.string p.f0, .slice Ap p.f1.length cp, .int .i64 p.f2]] w fun e w' => ∃ v, e = .returned (.tuple #[v, .int .i64 (addP l n p).2]) ∧ Kd.N kT TT w' w.heap.size (fun k => w.heap.size ≤ k) v (addP l n p).1 ∧ Below w.heap.size w w' := by
  have HR := Aside0.mk hr
  have HG := Aside0.mk hg
  have HRp := Aside0.mk hrp
  clear hg hrp
  by_cases h0 : checkP l = true
  rotate_left
  · have E0 : Aside0 (checkP l = false) := ⟨by simpa using h0⟩
    have HE : Aside0 (addP l n p = ([], 1)) := ⟨by unfold addP; rw [if_neg h0]⟩
    clear h0 hr
    go_enter Try.func59, Try.ntmps59
    go_wp2_with (first | ((with_reducible refine gate_dst (N := 5) rfl ?_); refine box_event rfl (N := 5) rfl (cs := #[.string p.f0, .slice Ap p.f1.length cp, .int .i64 p.f2]) (t := TP) ?hr ?_; (case hr => first | (go_simp; done) | (go_simp; rfl)); intro b5 hg5 w1 hx1 hb1; have HX1 := Aside0.mk hx1; have HB1 := Aside0.mk hb1; have HG5 : Aside0 (w.heap.size ≤ b5) := ⟨Nat.le_of_eq hg5.symm⟩; clear hg5 hx1 hb1))
    refine (check_calls l A c0 _ (Kd.C_below HR.out HB1.out) hc hl HG.out).mono ?_
    rintro e w2 ⟨rfl, hb2⟩
    rw [chkE_no E0.out]
    have HB2 := Aside0.mk (below_step HB1.out hb2)
    have HX2 := Aside0.mk (blk_below HX1.out hb2)
    clear hb2
    go_wp2_with fail
    go_ret2
    rw [HE.out]
    exact ⟨_, rfl, Kd.N_nil _ _ _ _ _, HB2.out⟩
  have E0 : Aside0 (checkP l = true) := ⟨h0⟩
  obtain ⟨r, hr1⟩ : ∃ r, idxF (fun t : Tab => isN n t.f0) l 0 = r := ⟨_, rfl⟩
  have E1 := Aside0.mk hr1
  by_cases h1 : r < 0
  · have HE : Aside0 (addP l n p = ([], 3)) := ⟨by unfold addP; rw [if_pos h0, hr1, if_pos h1]⟩
    have hd : decide (r < 0) = true := decide_eq_true h1
    clear h0 hr1 hr
    go_enter Try.func59, Try.ntmps59
    go_wp2_with (first | ((with_reducible refine gate_dst (N := 5) rfl ?_); refine box_event rfl (N := 5) rfl (cs := #[.string p.f0, .slice Ap p.f1.length cp, .int .i64 p.f2]) (t := TP) ?hr ?_; (case hr => first | (go_simp; done) | (go_simp; rfl)); intro b5 hg5 w1 hx1 hb1; have HX1 := Aside0.mk hx1; have HB1 := Aside0.mk hb1; have HG5 : Aside0 (w.heap.size ≤ b5) := ⟨Nat.le_of_eq hg5.symm⟩; clear hg5 hx1 hb1))
    refine (check_calls l A c0 _ (Kd.C_below HR.out HB1.out) hc hl HG.out).mono ?_
    rintro e w2 ⟨rfl, hb2⟩
    rw [chkE_yes E0.out]
    have HB2 := Aside0.mk (below_step HB1.out hb2)
    have HX2 := Aside0.mk (blk_below HX1.out hb2)
    clear hb2
    go_wp2_with fail
    refine (find_calls l A c0 n _ (Kd.C_below HR.out HB2.out) hc hl).mono ?_
    rintro e w3 ⟨rfl, hb3⟩
    rw [E1.out]
    have HB3 := Aside0.mk (below_step HB2.out hb3)
    have HX3 := Aside0.mk (blk_below HX2.out hb3)
    clear hb3
    go_wp2_with fail
    go_ret2
    rw [HE.out]
    exact ⟨_, rfl, Kd.N_nil _ _ _ _ _, HB3.out⟩
  obtain ⟨m, hm, rfl⟩ : ∃ m : Nat, m < l.length ∧ r = (m : Int) := by
    rcases idxF_range (fun t : Tab => isN n t.f0) l 0 with ⟨h2, _⟩ | ⟨i, hi, h2, _, _⟩
    · omega
    · exact ⟨i, hi, by rw [← hr1, h2, Nat.zero_add]⟩
  have hd : decide ((m : Int) < 0) = false := decide_eq_false h1
  obtain ⟨ad, cl, hA, hcl, hK, hcc⟩ := at_cells hr m hm
  have hgt := HG.out l[m] (List.getElem_mem hm)
  obtain ⟨t, ht⟩ : ∃ t, l[m] = t := ⟨_, rfl⟩
  have hrd : rd_T47 l (m : Int) = t := by rw [rdT_at l m hm, ht]
  rw [ht] at hK hgt
  have HGT := Aside0.mk hgt
  obtain ⟨A1, c1, A2, c2, rfl, hl1, hC1, hl2, hC2⟩ := k47_open hK
  subst hA
  have HCP := Aside0.mk hC2
  have HCROW : Aside0 (∀ w', Below w.heap.size w w' → ∀ j u, ([.string t.f0, .slice A1 t.f1.length c1, .slice A2 t.f2.length c2] : List Value)[j]? = some u → w'.cell? ((ad.add (m * 3)).add j) = some u) := ⟨fun w' hb j u hu => pw_cell_below hb (hcc j u hu)⟩
  have HCELL : Aside0 (∀ w', Below w.heap.size w w' → ∀ j u, 0 < j → ([.string t.f0, .slice A1 t.f1.length c1, .slice A2 t.f2.length c2] : List Value)[j]? = some u → w'.cell? ⟨(ad.add (m * 3)).block, (ad.add (m * 3)).off + j, none⟩ = some u) := ⟨fun w' hb j u hj0 hu => by
    have hj : j < 3 := (List.getElem?_eq_some_iff.1 hu).1
    have h2 := HCROW.out w' hb j u hu
    rw [Go.Addr.add_add] at h2
    rcases j with _ | _ | _ | j
    · omega
    · rw [← add_field _ _ 1 (by omega)]; exact h2
    · rw [← add_field _ _ 2 (by omega)]; exact h2
    · omega⟩
  clear hcc hK hcl hC1 hC2 hgt hr
  cases h2 : projP p t.f1.length with
  | false =>
    have E2 := Aside0.mk h2
    have HE : Aside0 (addP l n p = ([], 1)) := ⟨by unfold addP; rw [if_pos h0, hr1, if_neg h1, hrd, if_neg (by rw [h2]; decide)]⟩
    clear h0 hr1 h2 hrd ht
    go_enter Try.func59, Try.ntmps59
    go_wp2_with (first | ((with_reducible refine gate_dst (N := 5) rfl ?_); refine box_event rfl (N := 5) rfl (cs := #[.string p.f0, .slice Ap p.f1.length cp, .int .i64 p.f2]) (t := TP) ?hr ?_; (case hr => first | (go_simp; done) | (go_simp; rfl)); intro b5 hg5 w1 hx1 hb1; have HX1 := Aside0.mk hx1; have HB1 := Aside0.mk hb1; have HG5 : Aside0 (w.heap.size ≤ b5) := ⟨Nat.le_of_eq hg5.symm⟩; clear hg5 hx1 hb1))
    refine (check_calls l (some ad) c0 _ (Kd.C_below HR.out HB1.out) hc hl HG.out).mono ?_
    rintro e w2 ⟨rfl, hb2⟩
    rw [chkE_yes E0.out]
    have HB2 := Aside0.mk (below_step HB1.out hb2)
    have HX2 := Aside0.mk (blk_below HX1.out hb2)
    clear hb2
    go_wp2_with fail
    refine (find_calls l (some ad) c0 n _ (Kd.C_below HR.out HB2.out) hc hl).mono ?_
    rintro e w3 ⟨rfl, hb3⟩
    rw [E1.out]
    have HB3 := Aside0.mk (below_step HB2.out hb3)
    have HX3 := Aside0.mk (blk_below HX2.out hb3)
    clear hb3
    go_wp2_with fail
    have HRA := Aside0.mk (show w3.rangeAt b5 0 [.string p.f0, .slice Ap p.f1.length cp, .int .i64 p.f2] from fun j v hv => by rw [cell_of_row w3 b5 _ _ _ _ HX3.out]; simpa using hv)
    have HC1w := Aside0.mk (show w3.cell? ⟨(ad.add (m * 3)).block, (ad.add (m * 3)).off + 1, none⟩ = _ from HCELL.out w3 HB3.out 1 _ (by omega) rfl)
    refine start_ (n := 10) (S := fun w' => w'.rangeAt b5 0 [.string p.f0, .slice Ap p.f1.length cp, .int .i64 p.f2] ∧ w'.cell? ⟨(ad.add (m * 3)).block, (ad.add (m * 3)).off + 1, none⟩ = some (.slice A1 t.f1.length c1)) (ds := []) #[Z,Z,Z,Z,Z,Z,Z,Z,Z,Z] (by kernel_rfl) rfl rfl (⟨by rw [World.rangeAt_drew]; exact HRA.out, HC1w.out⟩) (fun hHeld => ?_)
    refine take_ (i := 0) (N := (some 20)) (v := .agg #[.string p.f0, .slice Ap p.f1.length cp, .int .i64 p.f2]) (a' := ?_) #[Y,Z,Z,Z,Z,Z,Z,Z,Z,Z] rfl rfl (by kernel_rfl) (fun _ _ _ h => h) (yieldsIf_load_mid (by rfl) TP (.tmp 5) rfl b5 0 rfl [.string p.f0, .slice Ap p.f1.length cp, .int .i64 p.f2] _ (fun w (h : _ ∧ _) => h.1) Try.underlying52 rfl size_P) hHeld ?_ ?_
    rotate_left
    · simp only [Act.put, List.setIfInBounds_toArray, List.set_cons_zero, List.set_cons_succ, i64_w, i32_w]
      rfl
    refine pure_ (i := 1) (N := (some 21)) (v := ?_) (a' := ?_) #[Y,Y,Z,Z,Z,Z,Z,Z,Z,Z] rfl rfl (by kernel_rfl) (fun _ _ _ h => h) (Or.inl ⟨by rfl, ?_⟩) ?_ ?_
    rotate_left
    · intro w'
      go_simp
      with_reducible rfl
    rotate_left
    · simp only [Act.put, List.setIfInBounds_toArray, List.set_cons_zero, List.set_cons_succ, i64_w, i32_w]
      rfl
    refine pure_ (i := 2) (N := (some 22)) (v := ?_) (a' := ?_) #[Y,Y,Y,Z,Z,Z,Z,Z,Z,Z] rfl rfl (by kernel_rfl) (fun _ _ _ h => h) (Or.inl ⟨by rfl, ?_⟩) ?_ ?_
    rotate_left
    · intro w'
      go_simp
      with_reducible rfl
    rotate_left
    · simp only [Act.put, List.setIfInBounds_toArray, List.set_cons_zero, List.set_cons_succ, i64_w, i32_w]
      rfl
    refine pure_ (i := 3) (N := (some 23)) (v := ?_) (a' := ?_) #[Y,Y,Y,Y,Z,Z,Z,Z,Z,Z] rfl rfl (by kernel_rfl) (fun _ _ _ h => h) (Or.inl ⟨by rfl, ?_⟩) ?_ ?_
    rotate_left
    · intro w'
      go_simp
      with_reducible rfl
    rotate_left
    · simp only [Act.put, List.setIfInBounds_toArray, List.set_cons_zero, List.set_cons_succ, i64_w, i32_w]
      rfl
    refine pure_ (i := 4) (N := (some 24)) (v := ?_) (a' := ?_) #[Y,Y,Y,Y,Y,Z,Z,Z,Z,Z] rfl rfl (by kernel_rfl) (fun _ _ _ h => h) (Or.inl ⟨by rfl, ?_⟩) ?_ ?_
    rotate_left
    · intro w'
      go_simp
      with_reducible rfl
    rotate_left
    · simp only [Act.put, List.setIfInBounds_toArray, List.set_cons_zero, List.set_cons_succ, i64_w, i32_w]
      rfl
    refine take_ (i := 5) (N := (some 25)) (v := ?_) (a' := ?_) #[Y,Y,Y,Y,Y,Y,Z,Z,Z,Z] rfl rfl (by kernel_rfl) (fun _ _ _ h => h) (Or.inl ⟨by rfl, ?_⟩) hHeld ?_ ?_
    rotate_left
    · intro w' s0
      go_simp
      with_reducible rfl
    rotate_left
    · simp only [Act.put, List.setIfInBounds_toArray, List.set_cons_zero, List.set_cons_succ, i64_w, i32_w]
      rfl
    refine pure_ (i := 6) (N := (some 26)) (v := ?_) (a' := ?_) #[Y,Y,Y,Y,Y,Y,Y,Z,Z,Z] rfl rfl (by kernel_rfl) (fun _ _ _ h => h) (Or.inl ⟨by rfl, ?_⟩) ?_ ?_
    rotate_left
    · intro w'
      go_simp
      with_reducible rfl
    rotate_left
    · simp only [Act.put, List.setIfInBounds_toArray, List.set_cons_zero, List.set_cons_succ, i64_w, i32_w]
      rfl
    refine one_ (i := 7) (N := (some 27)) #[Y,Y,Y,Y,Y,Y,Y,Y,Z,Z] rfl rfl (by kernel_rfl) (by decide) (fun K hK => ?_)
    refine goes_ Try.func102 (by kernel_rfl) rfl #[.agg #[.string p.f0, .slice Ap p.f1.length cp, .int .i64 p.f2], .int .i64 (t.f1.length : Int)] (by rfl) rfl rfl (by (try simp only [List.map_toArray, List.map_cons, List.map_nil]); first | done | rfl) ?_
    refine (projects_calls p Ap cp (t.f1.length : Int) _ (Kd.C_below HRp.out (below_step HB3.out (below_drew (Below.refl _ _)))) hcp hlp hnp (by have := HGT.out.c; omega)).mono ?_
    rintro e w4 ⟨rfl, hb4d⟩
    have hb4 : Below w3.heap.size w3 w4 := below_then (below_drew (Below.refl _ _)) (Nat.le_refl _) hb4d
    refine ⟨_, rfl, ?_⟩
    rw [E2.out]
    refine hK.out _ _ ⟨fun j v hv => pw_cell_below hb4 (HRA.out j v hv), pw_cell_below hb4 HC1w.out⟩ (fun hHeld => ?_)
    have HB4 := Aside0.mk (below_step HB3.out hb4)
    have HX4 := Aside0.mk (blk_below HX3.out hb4)
    clear hb4
    clear hb4d HRA HC1w
    clear hK K
    refine norm_ (a' := ?_) ?_ ?_
    rotate_left
    · show Act.put _ (some 27) _ = _
      simp only [Act.put, List.setIfInBounds_toArray, List.set_cons_zero, List.set_cons_succ, i64_w, i32_w]
      rfl
    refine pure_ (i := 8) (N := (some 28)) (v := ?_) (a' := ?_) #[Y,Y,Y,Y,Y,Y,Y,Y,Y,Z] rfl rfl (by kernel_rfl) (fun _ _ _ h => h) (Or.inl ⟨by rfl, ?_⟩) ?_ ?_
    rotate_left
    · intro w'
      go_simp
      with_reducible rfl
    rotate_left
    · simp only [Act.put, List.setIfInBounds_toArray, List.set_cons_zero, List.set_cons_succ, i64_w, i32_w]
      rfl
    refine pure_ (i := 9) (N := (some 19)) (v := ?_) (a' := ?_) #[Y,Y,Y,Y,Y,Y,Y,Y,Y,Y] rfl rfl (by kernel_rfl) (fun _ _ _ h => h) (Or.inl ⟨by rfl, ?_⟩) ?_ ?_
    rotate_left
    · intro w'
      go_simp
      with_reducible rfl
    rotate_left
    · simp only [Act.put, List.setIfInBounds_toArray, List.set_cons_zero, List.set_cons_succ, i64_w, i32_w]
      rfl
    refine done_ (by kernel_rfl) ?_
    go_wp2_with fail
    go_ret2
    rw [HE.out]
    exact ⟨_, rfl, Kd.N_nil _ _ _ _ _, HB4.out⟩
  | true =>
  have E2 := Aside0.mk h2
  obtain ⟨r2, hr2⟩ : ∃ r2, idxF (fun q : Prj => isN p.f0 q.f0) t.f2 0 = r2 := ⟨_, rfl⟩
  have E3 := Aside0.mk hr2
  by_cases h3 : 0 ≤ r2
  · have HE : Aside0 (addP l n p = ([], 251)) := ⟨by unfold addP; rw [if_pos h0, hr1, if_neg h1, hrd, if_pos h2, hr2, if_pos h3]⟩
    have hd2 : decide (r2 ≥ 0) = true := decide_eq_true h3
    clear h0 hr1 h2 hrd ht hr2
    go_enter Try.func59, Try.ntmps59
    go_wp2_with (first | ((with_reducible refine gate_dst (N := 5) rfl ?_); refine box_event rfl (N := 5) rfl (cs := #[.string p.f0, .slice Ap p.f1.length cp, .int .i64 p.f2]) (t := TP) ?hr ?_; (case hr => first | (go_simp; done) | (go_simp; rfl)); intro b5 hg5 w1 hx1 hb1; have HX1 := Aside0.mk hx1; have HB1 := Aside0.mk hb1; have HG5 : Aside0 (w.heap.size ≤ b5) := ⟨Nat.le_of_eq hg5.symm⟩; clear hg5 hx1 hb1))
    refine (check_calls l (some ad) c0 _ (Kd.C_below HR.out HB1.out) hc hl HG.out).mono ?_
    rintro e w2 ⟨rfl, hb2⟩
    rw [chkE_yes E0.out]
    have HB2 := Aside0.mk (below_step HB1.out hb2)
    have HX2 := Aside0.mk (blk_below HX1.out hb2)
    clear hb2
    go_wp2_with fail
    refine (find_calls l (some ad) c0 n _ (Kd.C_below HR.out HB2.out) hc hl).mono ?_
    rintro e w3 ⟨rfl, hb3⟩
    rw [E1.out]
    have HB3 := Aside0.mk (below_step HB2.out hb3)
    have HX3 := Aside0.mk (blk_below HX2.out hb3)
    clear hb3
    go_wp2_with fail
    have HRA := Aside0.mk (show w3.rangeAt b5 0 [.string p.f0, .slice Ap p.f1.length cp, .int .i64 p.f2] from fun j v hv => by rw [cell_of_row w3 b5 _ _ _ _ HX3.out]; simpa using hv)
    have HC1w := Aside0.mk (show w3.cell? ⟨(ad.add (m * 3)).block, (ad.add (m * 3)).off + 1, none⟩ = _ from HCELL.out w3 HB3.out 1 _ (by omega) rfl)
    refine start_ (n := 10) (S := fun w' => w'.rangeAt b5 0 [.string p.f0, .slice Ap p.f1.length cp, .int .i64 p.f2] ∧ w'.cell? ⟨(ad.add (m * 3)).block, (ad.add (m * 3)).off + 1, none⟩ = some (.slice A1 t.f1.length c1)) (ds := []) #[Z,Z,Z,Z,Z,Z,Z,Z,Z,Z] (by kernel_rfl) rfl rfl (⟨by rw [World.rangeAt_drew]; exact HRA.out, HC1w.out⟩) (fun hHeld => ?_)
    refine take_ (i := 0) (N := (some 20)) (v := .agg #[.string p.f0, .slice Ap p.f1.length cp, .int .i64 p.f2]) (a' := ?_) #[Y,Z,Z,Z,Z,Z,Z,Z,Z,Z] rfl rfl (by kernel_rfl) (fun _ _ _ h => h) (yieldsIf_load_mid (by rfl) TP (.tmp 5) rfl b5 0 rfl [.string p.f0, .slice Ap p.f1.length cp, .int .i64 p.f2] _ (fun w (h : _ ∧ _) => h.1) Try.underlying52 rfl size_P) hHeld ?_ ?_
    rotate_left
    · simp only [Act.put, List.setIfInBounds_toArray, List.set_cons_zero, List.set_cons_succ, i64_w, i32_w]
      rfl
    refine pure_ (i := 1) (N := (some 21)) (v := ?_) (a' := ?_) #[Y,Y,Z,Z,Z,Z,Z,Z,Z,Z] rfl rfl (by kernel_rfl) (fun _ _ _ h => h) (Or.inl ⟨by rfl, ?_⟩) ?_ ?_
    rotate_left
    · intro w'
      go_simp
      with_reducible rfl
    rotate_left
    · simp only [Act.put, List.setIfInBounds_toArray, List.set_cons_zero, List.set_cons_succ, i64_w, i32_w]
      rfl
    refine pure_ (i := 2) (N := (some 22)) (v := ?_) (a' := ?_) #[Y,Y,Y,Z,Z,Z,Z,Z,Z,Z] rfl rfl (by kernel_rfl) (fun _ _ _ h => h) (Or.inl ⟨by rfl, ?_⟩) ?_ ?_
    rotate_left
    · intro w'
      go_simp
      with_reducible rfl
    rotate_left
    · simp only [Act.put, List.setIfInBounds_toArray, List.set_cons_zero, List.set_cons_succ, i64_w, i32_w]
      rfl
    refine pure_ (i := 3) (N := (some 23)) (v := ?_) (a' := ?_) #[Y,Y,Y,Y,Z,Z,Z,Z,Z,Z] rfl rfl (by kernel_rfl) (fun _ _ _ h => h) (Or.inl ⟨by rfl, ?_⟩) ?_ ?_
    rotate_left
    · intro w'
      go_simp
      with_reducible rfl
    rotate_left
    · simp only [Act.put, List.setIfInBounds_toArray, List.set_cons_zero, List.set_cons_succ, i64_w, i32_w]
      rfl
    refine pure_ (i := 4) (N := (some 24)) (v := ?_) (a' := ?_) #[Y,Y,Y,Y,Y,Z,Z,Z,Z,Z] rfl rfl (by kernel_rfl) (fun _ _ _ h => h) (Or.inl ⟨by rfl, ?_⟩) ?_ ?_
    rotate_left
    · intro w'
      go_simp
      with_reducible rfl
    rotate_left
    · simp only [Act.put, List.setIfInBounds_toArray, List.set_cons_zero, List.set_cons_succ, i64_w, i32_w]
      rfl
    refine take_ (i := 5) (N := (some 25)) (v := ?_) (a' := ?_) #[Y,Y,Y,Y,Y,Y,Z,Z,Z,Z] rfl rfl (by kernel_rfl) (fun _ _ _ h => h) (Or.inl ⟨by rfl, ?_⟩) hHeld ?_ ?_
    rotate_left
    · intro w' s0
      go_simp
      with_reducible rfl
    rotate_left
    · simp only [Act.put, List.setIfInBounds_toArray, List.set_cons_zero, List.set_cons_succ, i64_w, i32_w]
      rfl
    refine pure_ (i := 6) (N := (some 26)) (v := ?_) (a' := ?_) #[Y,Y,Y,Y,Y,Y,Y,Z,Z,Z] rfl rfl (by kernel_rfl) (fun _ _ _ h => h) (Or.inl ⟨by rfl, ?_⟩) ?_ ?_
    rotate_left
    · intro w'
      go_simp
      with_reducible rfl
    rotate_left
    · simp only [Act.put, List.setIfInBounds_toArray, List.set_cons_zero, List.set_cons_succ, i64_w, i32_w]
      rfl
    refine one_ (i := 7) (N := (some 27)) #[Y,Y,Y,Y,Y,Y,Y,Y,Z,Z] rfl rfl (by kernel_rfl) (by decide) (fun K hK => ?_)
    refine goes_ Try.func102 (by kernel_rfl) rfl #[.agg #[.string p.f0, .slice Ap p.f1.length cp, .int .i64 p.f2], .int .i64 (t.f1.length : Int)] (by rfl) rfl rfl (by (try simp only [List.map_toArray, List.map_cons, List.map_nil]); first | done | rfl) ?_
    refine (projects_calls p Ap cp (t.f1.length : Int) _ (Kd.C_below HRp.out (below_step HB3.out (below_drew (Below.refl _ _)))) hcp hlp hnp (by have := HGT.out.c; omega)).mono ?_
    rintro e w4 ⟨rfl, hb4d⟩
    have hb4 : Below w3.heap.size w3 w4 := below_then (below_drew (Below.refl _ _)) (Nat.le_refl _) hb4d
    refine ⟨_, rfl, ?_⟩
    rw [E2.out]
    refine hK.out _ _ ⟨fun j v hv => pw_cell_below hb4 (HRA.out j v hv), pw_cell_below hb4 HC1w.out⟩ (fun hHeld => ?_)
    have HB4 := Aside0.mk (below_step HB3.out hb4)
    have HX4 := Aside0.mk (blk_below HX3.out hb4)
    clear hb4
    clear hb4d HRA HC1w
    clear hK K
    refine norm_ (a' := ?_) ?_ ?_
    rotate_left
    · show Act.put _ (some 27) _ = _
      simp only [Act.put, List.setIfInBounds_toArray, List.set_cons_zero, List.set_cons_succ, i64_w, i32_w]
      rfl
    refine pure_ (i := 8) (N := (some 28)) (v := ?_) (a' := ?_) #[Y,Y,Y,Y,Y,Y,Y,Y,Y,Z] rfl rfl (by kernel_rfl) (fun _ _ _ h => h) (Or.inl ⟨by rfl, ?_⟩) ?_ ?_
    rotate_left
    · intro w'
      go_simp
      with_reducible rfl
    rotate_left
    · simp only [Act.put, List.setIfInBounds_toArray, List.set_cons_zero, List.set_cons_succ, i64_w, i32_w]
      rfl
    refine pure_ (i := 9) (N := (some 19)) (v := ?_) (a' := ?_) #[Y,Y,Y,Y,Y,Y,Y,Y,Y,Y] rfl rfl (by kernel_rfl) (fun _ _ _ h => h) (Or.inl ⟨by rfl, ?_⟩) ?_ ?_
    rotate_left
    · intro w'
      go_simp
      with_reducible rfl
    rotate_left
    · simp only [Act.put, List.setIfInBounds_toArray, List.set_cons_zero, List.set_cons_succ, i64_w, i32_w]
      rfl
    refine done_ (by kernel_rfl) ?_
    go_wp2_with fail
    have HRW := Aside0.mk (fun j u hu => HCROW.out w4 HB4.out j u hu)
    have HC0 : Aside0 (w4.cell? ⟨b5, 0, none⟩ = some (.string p.f0)) := ⟨(cell_of_row w4 b5 0 _ _ _ HX4.out).trans rfl⟩
    refine start_ (n := 9) (S := fun w' => (∀ j v, ([.string t.f0, .slice A1 t.f1.length c1, .slice A2 t.f2.length c2] : List Value)[j]? = some v → w'.cell? ((ad.add (m * 3)).add j) = some v) ∧ w'.cell? ⟨b5, 0, none⟩ = some (.string p.f0)) (ds := []) #[Z,Z,Z,Z,Z,Z,Z,Z,Z] (by kernel_rfl) rfl rfl (⟨HRW.out, HC0.out⟩) (fun hHeld => ?_)
    refine pure_ (i := 0) (N := (some 30)) (v := ?_) (a' := ?_) #[Y,Z,Z,Z,Z,Z,Z,Z,Z] rfl rfl (by kernel_rfl) (fun _ _ _ h => h) (Or.inl ⟨by rfl, ?_⟩) ?_ ?_
    rotate_left
    · intro w'
      go_simp
      with_reducible rfl
    rotate_left
    · simp only [Act.put, List.setIfInBounds_toArray, List.set_cons_zero, List.set_cons_succ, i64_w, i32_w]
      rfl
    refine pure_ (i := 1) (N := (some 31)) (v := ?_) (a' := ?_) #[Y,Y,Z,Z,Z,Z,Z,Z,Z] rfl rfl (by kernel_rfl) (fun _ _ _ h => h) (Or.inl ⟨by rfl, ?_⟩) ?_ ?_
    rotate_left
    · intro w'
      go_simp
      with_reducible rfl
    rotate_left
    · simp only [Act.put, List.setIfInBounds_toArray, List.set_cons_zero, List.set_cons_succ, i64_w, i32_w]
      rfl
    refine pure_ (i := 2) (N := (some 32)) (v := ?_) (a' := ?_) #[Y,Y,Y,Z,Z,Z,Z,Z,Z] rfl rfl (by kernel_rfl) (fun _ _ _ h => h) (Or.inl ⟨by rfl, ?_⟩) ?_ ?_
    rotate_left
    · intro w'
      go_simp
      with_reducible rfl
    rotate_left
    · simp only [Act.put, List.setIfInBounds_toArray, List.set_cons_zero, List.set_cons_succ, i64_w, i32_w]
      rfl
    refine take_ (i := 3) (N := (some 33)) (v := .agg #[.string t.f0, .slice A1 t.f1.length c1, .slice A2 t.f2.length c2]) (a' := ?_) #[Y,Y,Y,Y,Z,Z,Z,Z,Z] rfl rfl (by kernel_rfl) (fun _ _ _ h => h) (yieldsIf_load_any (by rfl) TT (.tmp 32) rfl (ad.add (m * 3)) rfl [.string t.f0, .slice A1 t.f1.length c1, .slice A2 t.f2.length c2] (fun w (h : _ ∧ _) => h.1) _ Try.underlying47 rfl size_T) hHeld ?_ ?_
    rotate_left
    · simp only [Act.put, List.setIfInBounds_toArray, List.set_cons_zero, List.set_cons_succ, i64_w, i32_w]
      rfl
    refine pure_ (i := 4) (N := (some 34)) (v := ?_) (a' := ?_) #[Y,Y,Y,Y,Y,Z,Z,Z,Z] rfl rfl (by kernel_rfl) (fun _ _ _ h => h) (Or.inl ⟨by rfl, ?_⟩) ?_ ?_
    rotate_left
    · intro w'
      go_simp
      with_reducible rfl
    rotate_left
    · simp only [Act.put, List.setIfInBounds_toArray, List.set_cons_zero, List.set_cons_succ, i64_w, i32_w]
      rfl
    refine take_ (i := 5) (N := (some 35)) (v := ?_) (a' := ?_) #[Y,Y,Y,Y,Y,Y,Z,Z,Z] rfl rfl (by kernel_rfl) (fun _ _ _ h => h) (Or.inl ⟨by rfl, ?_⟩) hHeld ?_ ?_
    rotate_left
    · intro w' s0
      go_simp
      with_reducible rfl
    rotate_left
    · simp only [Act.put, List.setIfInBounds_toArray, List.set_cons_zero, List.set_cons_succ, i64_w, i32_w]
      rfl
    refine one_ (i := 6) (N := (some 36)) #[Y,Y,Y,Y,Y,Y,Y,Z,Z] rfl rfl (by kernel_rfl) (by decide) (fun K hK => ?_)
    refine goes_ Try.func103 (by kernel_rfl) rfl #[.agg #[.string t.f0, .slice A1 t.f1.length c1, .slice A2 t.f2.length c2], .string p.f0] (by rfl) rfl rfl (by (try simp only [List.map_toArray, List.map_cons, List.map_nil]); first | done | rfl) ?_
    refine (proj_calls t A1 c1 A2 c2 p.f0 _ (Kd.C_below HCP.out (below_step HB4.out (below_drew (Below.refl _ _)))) hl2 HGT.out.p).mono ?_
    rintro e w5 ⟨rfl, hb5d⟩
    have hb5 : Below w4.heap.size w4 w5 := below_then (below_drew (Below.refl _ _)) (Nat.le_refl _) hb5d
    refine ⟨_, rfl, ?_⟩
    rw [E3.out]
    refine hK.out _ _ ⟨fun j v hv => pw_cell_below hb5 (HRW.out j v hv), pw_cell_below hb5 HC0.out⟩ (fun hHeld => ?_)
    have HB5 := Aside0.mk (below_step HB4.out hb5)
    have HX5 := Aside0.mk (blk_below HX4.out hb5)
    clear hb5
    clear hb5d HRW HC0
    clear hK K
    refine norm_ (a' := ?_) ?_ ?_
    rotate_left
    · show Act.put _ (some 36) _ = _
      simp only [Act.put, List.setIfInBounds_toArray, List.set_cons_zero, List.set_cons_succ, i64_w, i32_w]
      rfl
    refine pure_ (i := 7) (N := (some 37)) (v := ?_) (a' := ?_) #[Y,Y,Y,Y,Y,Y,Y,Y,Z] rfl rfl (by kernel_rfl) (fun _ _ _ h => h) (Or.inl ⟨by rfl, ?_⟩) ?_ ?_
    rotate_left
    · intro w'
      go_simp
      with_reducible rfl
    rotate_left
    · simp only [Act.put, List.setIfInBounds_toArray, List.set_cons_zero, List.set_cons_succ, i64_w, i32_w]
      rfl
    refine pure_ (i := 8) (N := (some 29)) (v := ?_) (a' := ?_) #[Y,Y,Y,Y,Y,Y,Y,Y,Y] rfl rfl (by kernel_rfl) (fun _ _ _ h => h) (Or.inl ⟨by rfl, ?_⟩) ?_ ?_
    rotate_left
    · intro w'
      go_simp
      with_reducible rfl
    rotate_left
    · simp only [Act.put, List.setIfInBounds_toArray, List.set_cons_zero, List.set_cons_succ, i64_w, i32_w]
      rfl
    refine done_ (by kernel_rfl) ?_
    have hc25 : w5.cell? ⟨(ad.add (m * 3)).block, (ad.add (m * 3)).off + 2, none⟩ = some (.slice A2 t.f2.length c2) := HCELL.out w5 HB5.out 2 _ (by omega) rfl
    go_wp2_with fail
    go_ret2
    rw [HE.out]
    exact ⟨_, rfl, Kd.N_nil _ _ _ _ _, HB5.out⟩
  have hd2 : decide (r2 ≥ 0) = false := decide_eq_false h3
  by_cases h6 : 6 ≤ t.f2.length
  · have HE : Aside0 (addP l n p = ([], 4)) := ⟨by unfold addP; rw [if_pos h0, hr1, if_neg h1, hrd, if_pos h2, hr2, if_neg h3, if_pos h6]⟩
    clear h0 hr1 h2 hrd ht hr2
    go_enter Try.func59, Try.ntmps59
    go_wp2_with (first | ((with_reducible refine gate_dst (N := 5) rfl ?_); refine box_event rfl (N := 5) rfl (cs := #[.string p.f0, .slice Ap p.f1.length cp, .int .i64 p.f2]) (t := TP) ?hr ?_; (case hr => first | (go_simp; done) | (go_simp; rfl)); intro b5 hg5 w1 hx1 hb1; have HX1 := Aside0.mk hx1; have HB1 := Aside0.mk hb1; have HG5 : Aside0 (w.heap.size ≤ b5) := ⟨Nat.le_of_eq hg5.symm⟩; clear hg5 hx1 hb1))
    refine (check_calls l (some ad) c0 _ (Kd.C_below HR.out HB1.out) hc hl HG.out).mono ?_
    rintro e w2 ⟨rfl, hb2⟩
    rw [chkE_yes E0.out]
    have HB2 := Aside0.mk (below_step HB1.out hb2)
    have HX2 := Aside0.mk (blk_below HX1.out hb2)
    clear hb2
    go_wp2_with fail
    refine (find_calls l (some ad) c0 n _ (Kd.C_below HR.out HB2.out) hc hl).mono ?_
    rintro e w3 ⟨rfl, hb3⟩
    rw [E1.out]
    have HB3 := Aside0.mk (below_step HB2.out hb3)
    have HX3 := Aside0.mk (blk_below HX2.out hb3)
    clear hb3
    go_wp2_with fail
    have HRA := Aside0.mk (show w3.rangeAt b5 0 [.string p.f0, .slice Ap p.f1.length cp, .int .i64 p.f2] from fun j v hv => by rw [cell_of_row w3 b5 _ _ _ _ HX3.out]; simpa using hv)
    have HC1w := Aside0.mk (show w3.cell? ⟨(ad.add (m * 3)).block, (ad.add (m * 3)).off + 1, none⟩ = _ from HCELL.out w3 HB3.out 1 _ (by omega) rfl)
    refine start_ (n := 10) (S := fun w' => w'.rangeAt b5 0 [.string p.f0, .slice Ap p.f1.length cp, .int .i64 p.f2] ∧ w'.cell? ⟨(ad.add (m * 3)).block, (ad.add (m * 3)).off + 1, none⟩ = some (.slice A1 t.f1.length c1)) (ds := []) #[Z,Z,Z,Z,Z,Z,Z,Z,Z,Z] (by kernel_rfl) rfl rfl (⟨by rw [World.rangeAt_drew]; exact HRA.out, HC1w.out⟩) (fun hHeld => ?_)
    refine take_ (i := 0) (N := (some 20)) (v := .agg #[.string p.f0, .slice Ap p.f1.length cp, .int .i64 p.f2]) (a' := ?_) #[Y,Z,Z,Z,Z,Z,Z,Z,Z,Z] rfl rfl (by kernel_rfl) (fun _ _ _ h => h) (yieldsIf_load_mid (by rfl) TP (.tmp 5) rfl b5 0 rfl [.string p.f0, .slice Ap p.f1.length cp, .int .i64 p.f2] _ (fun w (h : _ ∧ _) => h.1) Try.underlying52 rfl size_P) hHeld ?_ ?_
    rotate_left
    · simp only [Act.put, List.setIfInBounds_toArray, List.set_cons_zero, List.set_cons_succ, i64_w, i32_w]
      rfl
    refine pure_ (i := 1) (N := (some 21)) (v := ?_) (a' := ?_) #[Y,Y,Z,Z,Z,Z,Z,Z,Z,Z] rfl rfl (by kernel_rfl) (fun _ _ _ h => h) (Or.inl ⟨by rfl, ?_⟩) ?_ ?_
    rotate_left
    · intro w'
      go_simp
      with_reducible rfl
    rotate_left
    · simp only [Act.put, List.setIfInBounds_toArray, List.set_cons_zero, List.set_cons_succ, i64_w, i32_w]
      rfl
    refine pure_ (i := 2) (N := (some 22)) (v := ?_) (a' := ?_) #[Y,Y,Y,Z,Z,Z,Z,Z,Z,Z] rfl rfl (by kernel_rfl) (fun _ _ _ h => h) (Or.inl ⟨by rfl, ?_⟩) ?_ ?_
    rotate_left
    · intro w'
      go_simp
      with_reducible rfl
    rotate_left
    · simp only [Act.put, List.setIfInBounds_toArray, List.set_cons_zero, List.set_cons_succ, i64_w, i32_w]
      rfl
    refine pure_ (i := 3) (N := (some 23)) (v := ?_) (a' := ?_) #[Y,Y,Y,Y,Z,Z,Z,Z,Z,Z] rfl rfl (by kernel_rfl) (fun _ _ _ h => h) (Or.inl ⟨by rfl, ?_⟩) ?_ ?_
    rotate_left
    · intro w'
      go_simp
      with_reducible rfl
    rotate_left
    · simp only [Act.put, List.setIfInBounds_toArray, List.set_cons_zero, List.set_cons_succ, i64_w, i32_w]
      rfl
    refine pure_ (i := 4) (N := (some 24)) (v := ?_) (a' := ?_) #[Y,Y,Y,Y,Y,Z,Z,Z,Z,Z] rfl rfl (by kernel_rfl) (fun _ _ _ h => h) (Or.inl ⟨by rfl, ?_⟩) ?_ ?_
    rotate_left
    · intro w'
      go_simp
      with_reducible rfl
    rotate_left
    · simp only [Act.put, List.setIfInBounds_toArray, List.set_cons_zero, List.set_cons_succ, i64_w, i32_w]
      rfl
    refine take_ (i := 5) (N := (some 25)) (v := ?_) (a' := ?_) #[Y,Y,Y,Y,Y,Y,Z,Z,Z,Z] rfl rfl (by kernel_rfl) (fun _ _ _ h => h) (Or.inl ⟨by rfl, ?_⟩) hHeld ?_ ?_
    rotate_left
    · intro w' s0
      go_simp
      with_reducible rfl
    rotate_left
    · simp only [Act.put, List.setIfInBounds_toArray, List.set_cons_zero, List.set_cons_succ, i64_w, i32_w]
      rfl
    refine pure_ (i := 6) (N := (some 26)) (v := ?_) (a' := ?_) #[Y,Y,Y,Y,Y,Y,Y,Z,Z,Z] rfl rfl (by kernel_rfl) (fun _ _ _ h => h) (Or.inl ⟨by rfl, ?_⟩) ?_ ?_
    rotate_left
    · intro w'
      go_simp
      with_reducible rfl
    rotate_left
    · simp only [Act.put, List.setIfInBounds_toArray, List.set_cons_zero, List.set_cons_succ, i64_w, i32_w]
      rfl
    refine one_ (i := 7) (N := (some 27)) #[Y,Y,Y,Y,Y,Y,Y,Y,Z,Z] rfl rfl (by kernel_rfl) (by decide) (fun K hK => ?_)
    refine goes_ Try.func102 (by kernel_rfl) rfl #[.agg #[.string p.f0, .slice Ap p.f1.length cp, .int .i64 p.f2], .int .i64 (t.f1.length : Int)] (by rfl) rfl rfl (by (try simp only [List.map_toArray, List.map_cons, List.map_nil]); first | done | rfl) ?_
    refine (projects_calls p Ap cp (t.f1.length : Int) _ (Kd.C_below HRp.out (below_step HB3.out (below_drew (Below.refl _ _)))) hcp hlp hnp (by have := HGT.out.c; omega)).mono ?_
    rintro e w4 ⟨rfl, hb4d⟩
    have hb4 : Below w3.heap.size w3 w4 := below_then (below_drew (Below.refl _ _)) (Nat.le_refl _) hb4d
    refine ⟨_, rfl, ?_⟩
    rw [E2.out]
    refine hK.out _ _ ⟨fun j v hv => pw_cell_below hb4 (HRA.out j v hv), pw_cell_below hb4 HC1w.out⟩ (fun hHeld => ?_)
    have HB4 := Aside0.mk (below_step HB3.out hb4)
    have HX4 := Aside0.mk (blk_below HX3.out hb4)
    clear hb4
    clear hb4d HRA HC1w
    clear hK K
    refine norm_ (a' := ?_) ?_ ?_
    rotate_left
    · show Act.put _ (some 27) _ = _
      simp only [Act.put, List.setIfInBounds_toArray, List.set_cons_zero, List.set_cons_succ, i64_w, i32_w]
      rfl
    refine pure_ (i := 8) (N := (some 28)) (v := ?_) (a' := ?_) #[Y,Y,Y,Y,Y,Y,Y,Y,Y,Z] rfl rfl (by kernel_rfl) (fun _ _ _ h => h) (Or.inl ⟨by rfl, ?_⟩) ?_ ?_
    rotate_left
    · intro w'
      go_simp
      with_reducible rfl
    rotate_left
    · simp only [Act.put, List.setIfInBounds_toArray, List.set_cons_zero, List.set_cons_succ, i64_w, i32_w]
      rfl
    refine pure_ (i := 9) (N := (some 19)) (v := ?_) (a' := ?_) #[Y,Y,Y,Y,Y,Y,Y,Y,Y,Y] rfl rfl (by kernel_rfl) (fun _ _ _ h => h) (Or.inl ⟨by rfl, ?_⟩) ?_ ?_
    rotate_left
    · intro w'
      go_simp
      with_reducible rfl
    rotate_left
    · simp only [Act.put, List.setIfInBounds_toArray, List.set_cons_zero, List.set_cons_succ, i64_w, i32_w]
      rfl
    refine done_ (by kernel_rfl) ?_
    go_wp2_with fail
    have HRW := Aside0.mk (fun j u hu => HCROW.out w4 HB4.out j u hu)
    have HC0 : Aside0 (w4.cell? ⟨b5, 0, none⟩ = some (.string p.f0)) := ⟨(cell_of_row w4 b5 0 _ _ _ HX4.out).trans rfl⟩
    refine start_ (n := 9) (S := fun w' => (∀ j v, ([.string t.f0, .slice A1 t.f1.length c1, .slice A2 t.f2.length c2] : List Value)[j]? = some v → w'.cell? ((ad.add (m * 3)).add j) = some v) ∧ w'.cell? ⟨b5, 0, none⟩ = some (.string p.f0)) (ds := []) #[Z,Z,Z,Z,Z,Z,Z,Z,Z] (by kernel_rfl) rfl rfl (⟨HRW.out, HC0.out⟩) (fun hHeld => ?_)
    refine pure_ (i := 0) (N := (some 30)) (v := ?_) (a' := ?_) #[Y,Z,Z,Z,Z,Z,Z,Z,Z] rfl rfl (by kernel_rfl) (fun _ _ _ h => h) (Or.inl ⟨by rfl, ?_⟩) ?_ ?_
    rotate_left
    · intro w'
      go_simp
      with_reducible rfl
    rotate_left
    · simp only [Act.put, List.setIfInBounds_toArray, List.set_cons_zero, List.set_cons_succ, i64_w, i32_w]
      rfl
    refine pure_ (i := 1) (N := (some 31)) (v := ?_) (a' := ?_) #[Y,Y,Z,Z,Z,Z,Z,Z,Z] rfl rfl (by kernel_rfl) (fun _ _ _ h => h) (Or.inl ⟨by rfl, ?_⟩) ?_ ?_
    rotate_left
    · intro w'
      go_simp
      with_reducible rfl
    rotate_left
    · simp only [Act.put, List.setIfInBounds_toArray, List.set_cons_zero, List.set_cons_succ, i64_w, i32_w]
      rfl
    refine pure_ (i := 2) (N := (some 32)) (v := ?_) (a' := ?_) #[Y,Y,Y,Z,Z,Z,Z,Z,Z] rfl rfl (by kernel_rfl) (fun _ _ _ h => h) (Or.inl ⟨by rfl, ?_⟩) ?_ ?_
    rotate_left
    · intro w'
      go_simp
      with_reducible rfl
    rotate_left
    · simp only [Act.put, List.setIfInBounds_toArray, List.set_cons_zero, List.set_cons_succ, i64_w, i32_w]
      rfl
    refine take_ (i := 3) (N := (some 33)) (v := .agg #[.string t.f0, .slice A1 t.f1.length c1, .slice A2 t.f2.length c2]) (a' := ?_) #[Y,Y,Y,Y,Z,Z,Z,Z,Z] rfl rfl (by kernel_rfl) (fun _ _ _ h => h) (yieldsIf_load_any (by rfl) TT (.tmp 32) rfl (ad.add (m * 3)) rfl [.string t.f0, .slice A1 t.f1.length c1, .slice A2 t.f2.length c2] (fun w (h : _ ∧ _) => h.1) _ Try.underlying47 rfl size_T) hHeld ?_ ?_
    rotate_left
    · simp only [Act.put, List.setIfInBounds_toArray, List.set_cons_zero, List.set_cons_succ, i64_w, i32_w]
      rfl
    refine pure_ (i := 4) (N := (some 34)) (v := ?_) (a' := ?_) #[Y,Y,Y,Y,Y,Z,Z,Z,Z] rfl rfl (by kernel_rfl) (fun _ _ _ h => h) (Or.inl ⟨by rfl, ?_⟩) ?_ ?_
    rotate_left
    · intro w'
      go_simp
      with_reducible rfl
    rotate_left
    · simp only [Act.put, List.setIfInBounds_toArray, List.set_cons_zero, List.set_cons_succ, i64_w, i32_w]
      rfl
    refine take_ (i := 5) (N := (some 35)) (v := ?_) (a' := ?_) #[Y,Y,Y,Y,Y,Y,Z,Z,Z] rfl rfl (by kernel_rfl) (fun _ _ _ h => h) (Or.inl ⟨by rfl, ?_⟩) hHeld ?_ ?_
    rotate_left
    · intro w' s0
      go_simp
      with_reducible rfl
    rotate_left
    · simp only [Act.put, List.setIfInBounds_toArray, List.set_cons_zero, List.set_cons_succ, i64_w, i32_w]
      rfl
    refine one_ (i := 6) (N := (some 36)) #[Y,Y,Y,Y,Y,Y,Y,Z,Z] rfl rfl (by kernel_rfl) (by decide) (fun K hK => ?_)
    refine goes_ Try.func103 (by kernel_rfl) rfl #[.agg #[.string t.f0, .slice A1 t.f1.length c1, .slice A2 t.f2.length c2], .string p.f0] (by rfl) rfl rfl (by (try simp only [List.map_toArray, List.map_cons, List.map_nil]); first | done | rfl) ?_
    refine (proj_calls t A1 c1 A2 c2 p.f0 _ (Kd.C_below HCP.out (below_step HB4.out (below_drew (Below.refl _ _)))) hl2 HGT.out.p).mono ?_
    rintro e w5 ⟨rfl, hb5d⟩
    have hb5 : Below w4.heap.size w4 w5 := below_then (below_drew (Below.refl _ _)) (Nat.le_refl _) hb5d
    refine ⟨_, rfl, ?_⟩
    rw [E3.out]
    refine hK.out _ _ ⟨fun j v hv => pw_cell_below hb5 (HRW.out j v hv), pw_cell_below hb5 HC0.out⟩ (fun hHeld => ?_)
    have HB5 := Aside0.mk (below_step HB4.out hb5)
    have HX5 := Aside0.mk (blk_below HX4.out hb5)
    clear hb5
    clear hb5d HRW HC0
    clear hK K
    refine norm_ (a' := ?_) ?_ ?_
    rotate_left
    · show Act.put _ (some 36) _ = _
      simp only [Act.put, List.setIfInBounds_toArray, List.set_cons_zero, List.set_cons_succ, i64_w, i32_w]
      rfl
    refine pure_ (i := 7) (N := (some 37)) (v := ?_) (a' := ?_) #[Y,Y,Y,Y,Y,Y,Y,Y,Z] rfl rfl (by kernel_rfl) (fun _ _ _ h => h) (Or.inl ⟨by rfl, ?_⟩) ?_ ?_
    rotate_left
    · intro w'
      go_simp
      with_reducible rfl
    rotate_left
    · simp only [Act.put, List.setIfInBounds_toArray, List.set_cons_zero, List.set_cons_succ, i64_w, i32_w]
      rfl
    refine pure_ (i := 8) (N := (some 29)) (v := ?_) (a' := ?_) #[Y,Y,Y,Y,Y,Y,Y,Y,Y] rfl rfl (by kernel_rfl) (fun _ _ _ h => h) (Or.inl ⟨by rfl, ?_⟩) ?_ ?_
    rotate_left
    · intro w'
      go_simp
      with_reducible rfl
    rotate_left
    · simp only [Act.put, List.setIfInBounds_toArray, List.set_cons_zero, List.set_cons_succ, i64_w, i32_w]
      rfl
    refine done_ (by kernel_rfl) ?_
    have hc25 : w5.cell? ⟨(ad.add (m * 3)).block, (ad.add (m * 3)).off + 2, none⟩ = some (.slice A2 t.f2.length c2) := HCELL.out w5 HB5.out 2 _ (by omega) rfl
    go_wp2_with fail
    go_ret2
    rw [HE.out]
    exact ⟨_, rfl, Kd.N_nil _ _ _ _ _, HB5.out⟩
  · have HE : Aside0 (addP l n p = (l.set m ⟨t.f0, t.f1, t.f2 ++ [p]⟩, 0)) := ⟨by unfold addP; rw [if_pos h0, hr1, if_neg h1, hrd, if_pos h2, hr2, if_neg h3, if_neg h6, Int.toNat_natCast]⟩
    have HT : Aside0 (l[m] = t) := ⟨ht⟩
    clear h0 hr1 h2 hrd ht hr2
    go_enter Try.func59, Try.ntmps59
    go_wp2_with (first | ((with_reducible refine gate_dst (N := 5) rfl ?_); refine box_event rfl (N := 5) rfl (cs := #[.string p.f0, .slice Ap p.f1.length cp, .int .i64 p.f2]) (t := TP) ?hr ?_; (case hr => first | (go_simp; done) | (go_simp; rfl)); intro b5 hg5 w1 hx1 hb1; have HX1 := Aside0.mk hx1; have HB1 := Aside0.mk hb1; have HG5 : Aside0 (w.heap.size ≤ b5) := ⟨Nat.le_of_eq hg5.symm⟩; clear hg5 hx1 hb1))
    refine (check_calls l (some ad) c0 _ (Kd.C_below HR.out HB1.out) hc hl HG.out).mono ?_
    rintro e w2 ⟨rfl, hb2⟩
    rw [chkE_yes E0.out]
    have HB2 := Aside0.mk (below_step HB1.out hb2)
    have HX2 := Aside0.mk (blk_below HX1.out hb2)
    clear hb2
    go_wp2_with fail
    refine (find_calls l (some ad) c0 n _ (Kd.C_below HR.out HB2.out) hc hl).mono ?_
    rintro e w3 ⟨rfl, hb3⟩
    rw [E1.out]
    have HB3 := Aside0.mk (below_step HB2.out hb3)
    have HX3 := Aside0.mk (blk_below HX2.out hb3)
    clear hb3
    go_wp2_with fail
    have HRA := Aside0.mk (show w3.rangeAt b5 0 [.string p.f0, .slice Ap p.f1.length cp, .int .i64 p.f2] from fun j v hv => by rw [cell_of_row w3 b5 _ _ _ _ HX3.out]; simpa using hv)
    have HC1w := Aside0.mk (show w3.cell? ⟨(ad.add (m * 3)).block, (ad.add (m * 3)).off + 1, none⟩ = _ from HCELL.out w3 HB3.out 1 _ (by omega) rfl)
    refine start_ (n := 10) (S := fun w' => w'.rangeAt b5 0 [.string p.f0, .slice Ap p.f1.length cp, .int .i64 p.f2] ∧ w'.cell? ⟨(ad.add (m * 3)).block, (ad.add (m * 3)).off + 1, none⟩ = some (.slice A1 t.f1.length c1)) (ds := []) #[Z,Z,Z,Z,Z,Z,Z,Z,Z,Z] (by kernel_rfl) rfl rfl (⟨by rw [World.rangeAt_drew]; exact HRA.out, HC1w.out⟩) (fun hHeld => ?_)
    refine take_ (i := 0) (N := (some 20)) (v := .agg #[.string p.f0, .slice Ap p.f1.length cp, .int .i64 p.f2]) (a' := ?_) #[Y,Z,Z,Z,Z,Z,Z,Z,Z,Z] rfl rfl (by kernel_rfl) (fun _ _ _ h => h) (yieldsIf_load_mid (by rfl) TP (.tmp 5) rfl b5 0 rfl [.string p.f0, .slice Ap p.f1.length cp, .int .i64 p.f2] _ (fun w (h : _ ∧ _) => h.1) Try.underlying52 rfl size_P) hHeld ?_ ?_
    rotate_left
    · simp only [Act.put, List.setIfInBounds_toArray, List.set_cons_zero, List.set_cons_succ, i64_w, i32_w]
      rfl
    refine pure_ (i := 1) (N := (some 21)) (v := ?_) (a' := ?_) #[Y,Y,Z,Z,Z,Z,Z,Z,Z,Z] rfl rfl (by kernel_rfl) (fun _ _ _ h => h) (Or.inl ⟨by rfl, ?_⟩) ?_ ?_
    rotate_left
    · intro w'
      go_simp
      with_reducible rfl
    rotate_left
    · simp only [Act.put, List.setIfInBounds_toArray, List.set_cons_zero, List.set_cons_succ, i64_w, i32_w]
      rfl
    refine pure_ (i := 2) (N := (some 22)) (v := ?_) (a' := ?_) #[Y,Y,Y,Z,Z,Z,Z,Z,Z,Z] rfl rfl (by kernel_rfl) (fun _ _ _ h => h) (Or.inl ⟨by rfl, ?_⟩) ?_ ?_
    rotate_left
    · intro w'
      go_simp
      with_reducible rfl
    rotate_left
    · simp only [Act.put, List.setIfInBounds_toArray, List.set_cons_zero, List.set_cons_succ, i64_w, i32_w]
      rfl
    refine pure_ (i := 3) (N := (some 23)) (v := ?_) (a' := ?_) #[Y,Y,Y,Y,Z,Z,Z,Z,Z,Z] rfl rfl (by kernel_rfl) (fun _ _ _ h => h) (Or.inl ⟨by rfl, ?_⟩) ?_ ?_
    rotate_left
    · intro w'
      go_simp
      with_reducible rfl
    rotate_left
    · simp only [Act.put, List.setIfInBounds_toArray, List.set_cons_zero, List.set_cons_succ, i64_w, i32_w]
      rfl
    refine pure_ (i := 4) (N := (some 24)) (v := ?_) (a' := ?_) #[Y,Y,Y,Y,Y,Z,Z,Z,Z,Z] rfl rfl (by kernel_rfl) (fun _ _ _ h => h) (Or.inl ⟨by rfl, ?_⟩) ?_ ?_
    rotate_left
    · intro w'
      go_simp
      with_reducible rfl
    rotate_left
    · simp only [Act.put, List.setIfInBounds_toArray, List.set_cons_zero, List.set_cons_succ, i64_w, i32_w]
      rfl
    refine take_ (i := 5) (N := (some 25)) (v := ?_) (a' := ?_) #[Y,Y,Y,Y,Y,Y,Z,Z,Z,Z] rfl rfl (by kernel_rfl) (fun _ _ _ h => h) (Or.inl ⟨by rfl, ?_⟩) hHeld ?_ ?_
    rotate_left
    · intro w' s0
      go_simp
      with_reducible rfl
    rotate_left
    · simp only [Act.put, List.setIfInBounds_toArray, List.set_cons_zero, List.set_cons_succ, i64_w, i32_w]
      rfl
    refine pure_ (i := 6) (N := (some 26)) (v := ?_) (a' := ?_) #[Y,Y,Y,Y,Y,Y,Y,Z,Z,Z] rfl rfl (by kernel_rfl) (fun _ _ _ h => h) (Or.inl ⟨by rfl, ?_⟩) ?_ ?_
    rotate_left
    · intro w'
      go_simp
      with_reducible rfl
    rotate_left
    · simp only [Act.put, List.setIfInBounds_toArray, List.set_cons_zero, List.set_cons_succ, i64_w, i32_w]
      rfl
    refine one_ (i := 7) (N := (some 27)) #[Y,Y,Y,Y,Y,Y,Y,Y,Z,Z] rfl rfl (by kernel_rfl) (by decide) (fun K hK => ?_)
    refine goes_ Try.func102 (by kernel_rfl) rfl #[.agg #[.string p.f0, .slice Ap p.f1.length cp, .int .i64 p.f2], .int .i64 (t.f1.length : Int)] (by rfl) rfl rfl (by (try simp only [List.map_toArray, List.map_cons, List.map_nil]); first | done | rfl) ?_
    refine (projects_calls p Ap cp (t.f1.length : Int) _ (Kd.C_below HRp.out (below_step HB3.out (below_drew (Below.refl _ _)))) hcp hlp hnp (by have := HGT.out.c; omega)).mono ?_
    rintro e w4 ⟨rfl, hb4d⟩
    have hb4 : Below w3.heap.size w3 w4 := below_then (below_drew (Below.refl _ _)) (Nat.le_refl _) hb4d
    refine ⟨_, rfl, ?_⟩
    rw [E2.out]
    refine hK.out _ _ ⟨fun j v hv => pw_cell_below hb4 (HRA.out j v hv), pw_cell_below hb4 HC1w.out⟩ (fun hHeld => ?_)
    have HB4 := Aside0.mk (below_step HB3.out hb4)
    have HX4 := Aside0.mk (blk_below HX3.out hb4)
    clear hb4
    clear hb4d HRA HC1w
    clear hK K
    refine norm_ (a' := ?_) ?_ ?_
    rotate_left
    · show Act.put _ (some 27) _ = _
      simp only [Act.put, List.setIfInBounds_toArray, List.set_cons_zero, List.set_cons_succ, i64_w, i32_w]
      rfl
    refine pure_ (i := 8) (N := (some 28)) (v := ?_) (a' := ?_) #[Y,Y,Y,Y,Y,Y,Y,Y,Y,Z] rfl rfl (by kernel_rfl) (fun _ _ _ h => h) (Or.inl ⟨by rfl, ?_⟩) ?_ ?_
    rotate_left
    · intro w'
      go_simp
      with_reducible rfl
    rotate_left
    · simp only [Act.put, List.setIfInBounds_toArray, List.set_cons_zero, List.set_cons_succ, i64_w, i32_w]
      rfl
    refine pure_ (i := 9) (N := (some 19)) (v := ?_) (a' := ?_) #[Y,Y,Y,Y,Y,Y,Y,Y,Y,Y] rfl rfl (by kernel_rfl) (fun _ _ _ h => h) (Or.inl ⟨by rfl, ?_⟩) ?_ ?_
    rotate_left
    · intro w'
      go_simp
      with_reducible rfl
    rotate_left
    · simp only [Act.put, List.setIfInBounds_toArray, List.set_cons_zero, List.set_cons_succ, i64_w, i32_w]
      rfl
    refine done_ (by kernel_rfl) ?_
    go_wp2_with fail
    have HRW := Aside0.mk (fun j u hu => HCROW.out w4 HB4.out j u hu)
    have HC0 : Aside0 (w4.cell? ⟨b5, 0, none⟩ = some (.string p.f0)) := ⟨(cell_of_row w4 b5 0 _ _ _ HX4.out).trans rfl⟩
    refine start_ (n := 9) (S := fun w' => (∀ j v, ([.string t.f0, .slice A1 t.f1.length c1, .slice A2 t.f2.length c2] : List Value)[j]? = some v → w'.cell? ((ad.add (m * 3)).add j) = some v) ∧ w'.cell? ⟨b5, 0, none⟩ = some (.string p.f0)) (ds := []) #[Z,Z,Z,Z,Z,Z,Z,Z,Z] (by kernel_rfl) rfl rfl (⟨HRW.out, HC0.out⟩) (fun hHeld => ?_)
    refine pure_ (i := 0) (N := (some 30)) (v := ?_) (a' := ?_) #[Y,Z,Z,Z,Z,Z,Z,Z,Z] rfl rfl (by kernel_rfl) (fun _ _ _ h => h) (Or.inl ⟨by rfl, ?_⟩) ?_ ?_
    rotate_left
    · intro w'
      go_simp
      with_reducible rfl
    rotate_left
    · simp only [Act.put, List.setIfInBounds_toArray, List.set_cons_zero, List.set_cons_succ, i64_w, i32_w]
      rfl
    refine pure_ (i := 1) (N := (some 31)) (v := ?_) (a' := ?_) #[Y,Y,Z,Z,Z,Z,Z,Z,Z] rfl rfl (by kernel_rfl) (fun _ _ _ h => h) (Or.inl ⟨by rfl, ?_⟩) ?_ ?_
    rotate_left
    · intro w'
      go_simp
      with_reducible rfl
    rotate_left
    · simp only [Act.put, List.setIfInBounds_toArray, List.set_cons_zero, List.set_cons_succ, i64_w, i32_w]
      rfl
    refine pure_ (i := 2) (N := (some 32)) (v := ?_) (a' := ?_) #[Y,Y,Y,Z,Z,Z,Z,Z,Z] rfl rfl (by kernel_rfl) (fun _ _ _ h => h) (Or.inl ⟨by rfl, ?_⟩) ?_ ?_
    rotate_left
    · intro w'
      go_simp
      with_reducible rfl
    rotate_left
    · simp only [Act.put, List.setIfInBounds_toArray, List.set_cons_zero, List.set_cons_succ, i64_w, i32_w]
      rfl
    refine take_ (i := 3) (N := (some 33)) (v := .agg #[.string t.f0, .slice A1 t.f1.length c1, .slice A2 t.f2.length c2]) (a' := ?_) #[Y,Y,Y,Y,Z,Z,Z,Z,Z] rfl rfl (by kernel_rfl) (fun _ _ _ h => h) (yieldsIf_load_any (by rfl) TT (.tmp 32) rfl (ad.add (m * 3)) rfl [.string t.f0, .slice A1 t.f1.length c1, .slice A2 t.f2.length c2] (fun w (h : _ ∧ _) => h.1) _ Try.underlying47 rfl size_T) hHeld ?_ ?_
    rotate_left
    · simp only [Act.put, List.setIfInBounds_toArray, List.set_cons_zero, List.set_cons_succ, i64_w, i32_w]
      rfl
    refine pure_ (i := 4) (N := (some 34)) (v := ?_) (a' := ?_) #[Y,Y,Y,Y,Y,Z,Z,Z,Z] rfl rfl (by kernel_rfl) (fun _ _ _ h => h) (Or.inl ⟨by rfl, ?_⟩) ?_ ?_
    rotate_left
    · intro w'
      go_simp
      with_reducible rfl
    rotate_left
    · simp only [Act.put, List.setIfInBounds_toArray, List.set_cons_zero, List.set_cons_succ, i64_w, i32_w]
      rfl
    refine take_ (i := 5) (N := (some 35)) (v := ?_) (a' := ?_) #[Y,Y,Y,Y,Y,Y,Z,Z,Z] rfl rfl (by kernel_rfl) (fun _ _ _ h => h) (Or.inl ⟨by rfl, ?_⟩) hHeld ?_ ?_
    rotate_left
    · intro w' s0
      go_simp
      with_reducible rfl
    rotate_left
    · simp only [Act.put, List.setIfInBounds_toArray, List.set_cons_zero, List.set_cons_succ, i64_w, i32_w]
      rfl
    refine one_ (i := 6) (N := (some 36)) #[Y,Y,Y,Y,Y,Y,Y,Z,Z] rfl rfl (by kernel_rfl) (by decide) (fun K hK => ?_)
    refine goes_ Try.func103 (by kernel_rfl) rfl #[.agg #[.string t.f0, .slice A1 t.f1.length c1, .slice A2 t.f2.length c2], .string p.f0] (by rfl) rfl rfl (by (try simp only [List.map_toArray, List.map_cons, List.map_nil]); first | done | rfl) ?_
    refine (proj_calls t A1 c1 A2 c2 p.f0 _ (Kd.C_below HCP.out (below_step HB4.out (below_drew (Below.refl _ _)))) hl2 HGT.out.p).mono ?_
    rintro e w5 ⟨rfl, hb5d⟩
    have hb5 : Below w4.heap.size w4 w5 := below_then (below_drew (Below.refl _ _)) (Nat.le_refl _) hb5d
    refine ⟨_, rfl, ?_⟩
    rw [E3.out]
    refine hK.out _ _ ⟨fun j v hv => pw_cell_below hb5 (HRW.out j v hv), pw_cell_below hb5 HC0.out⟩ (fun hHeld => ?_)
    have HB5 := Aside0.mk (below_step HB4.out hb5)
    have HX5 := Aside0.mk (blk_below HX4.out hb5)
    clear hb5
    clear hb5d HRW HC0
    clear hK K
    refine norm_ (a' := ?_) ?_ ?_
    rotate_left
    · show Act.put _ (some 36) _ = _
      simp only [Act.put, List.setIfInBounds_toArray, List.set_cons_zero, List.set_cons_succ, i64_w, i32_w]
      rfl
    refine pure_ (i := 7) (N := (some 37)) (v := ?_) (a' := ?_) #[Y,Y,Y,Y,Y,Y,Y,Y,Z] rfl rfl (by kernel_rfl) (fun _ _ _ h => h) (Or.inl ⟨by rfl, ?_⟩) ?_ ?_
    rotate_left
    · intro w'
      go_simp
      with_reducible rfl
    rotate_left
    · simp only [Act.put, List.setIfInBounds_toArray, List.set_cons_zero, List.set_cons_succ, i64_w, i32_w]
      rfl
    refine pure_ (i := 8) (N := (some 29)) (v := ?_) (a' := ?_) #[Y,Y,Y,Y,Y,Y,Y,Y,Y] rfl rfl (by kernel_rfl) (fun _ _ _ h => h) (Or.inl ⟨by rfl, ?_⟩) ?_ ?_
    rotate_left
    · intro w'
      go_simp
      with_reducible rfl
    rotate_left
    · simp only [Act.put, List.setIfInBounds_toArray, List.set_cons_zero, List.set_cons_succ, i64_w, i32_w]
      rfl
    refine done_ (by kernel_rfl) ?_
    have hc25 : w5.cell? ⟨(ad.add (m * 3)).block, (ad.add (m * 3)).off + 2, none⟩ = some (.slice A2 t.f2.length c2) := HCELL.out w5 HB5.out 2 _ (by omega) rfl
    go_wp2_with fail
    refine (copied_calls l (some ad) c0 w5 (Kd.C_below HR.out HB5.out) hl HG.out).mono ?_
    rintro e w6 ⟨v9, rfl, hS, hb6⟩
    obtain ⟨g, cap, hv, hbg, hgl, cellsg, hcg⟩ := Kd.S_form hS (by omega)
    obtain ⟨adg, hadg⟩ : ∃ a, a = (⟨g, 0, none⟩ : Addr) := ⟨_, rfl⟩
    rw [← hadg] at hv
    subst hv
    have HAG := Aside0.mk hadg
    have HS6 := Aside0.mk (Kd.S_mono (Kd.S_bound hS) (ok' := fun k => w5.heap.size ≤ k ∧ ¬ w6.heap.size ≤ k) (fun k hk => ⟨hk.1, by have := hk.2.2.1; omega⟩))
    have HGG : Aside0 (w5.heap.size ≤ g ∧ g < w6.heap.size ∧ b5 < w5.heap.size) := ⟨⟨hbg, hgl, blk_lt HX5.out⟩⟩
    have HZ65 : Aside0 (w5.heap.size ≤ w6.heap.size) := ⟨hb6.size⟩
    clear hS hbg hgl hcg cellsg hadg hc25
    have HB6 := Aside0.mk (below_step HB5.out hb6)
    have HX6 := Aside0.mk (blk_below HX5.out hb6)
    clear hb6
    have hc61 : w6.cell? ⟨b5, 1, none⟩ = some (.slice Ap p.f1.length cp) := (cell_of_row w6 b5 1 _ _ _ HX6.out).trans rfl
    go_wp2_with fail
    clear hc61
    refine (clone_int Ap cp p.f1 w6 (Kd.C_below HRp.out HB6.out) hlp).mono ?_
    rintro e w7 ⟨v7, rfl, hR7, hb7⟩
    obtain ⟨A7, c7, rfl⟩ := Kd.R_slice hR7
    have HS7 := Aside0.mk (Kd.S_below HS6.out hb7)
    have HR7 := Aside0.mk hR7
    have HZ76 : Aside0 (w6.heap.size ≤ w7.heap.size) := ⟨hb7.size⟩
    have HB7 := Aside0.mk (below_step HB6.out hb7)
    have HX7 := Aside0.mk (blk_below HX6.out hb7)
    clear hb7
    have hc71 : w7.cell? ⟨b5, 1, none⟩ = some (.slice Ap p.f1.length cp) := (cell_of_row w7 b5 1 _ _ _ HX7.out).trans rfl
    have hf71 := frozen_of_row w7 b5 1 _ _ HX7.out
    have HSET := Aside0.mk (cellSet_mk (i := 1) (v := Value.slice A7 p.f1.length c7) HX7.out)
    clear hR7
    go_wp2_with fail
    clear hc71 hf71
    obtain ⟨w8, hw8⟩ : ∃ y, y = w7.setCell ⟨b5, 1, none⟩ (.slice A7 p.f1.length c7) := ⟨_, rfl⟩
    have hset := HSET.out
    have hS8 := Kd.S_far HS7.out (p := ⟨b5, 1, none⟩) (fun k hk => by show k ≠ b5; have hk2 : w5.heap.size ≤ k ∧ ¬ w6.heap.size ≤ k := hk; have := HGG.out; omega) (Value.slice A7 p.f1.length c7)
    have hR8 := Kd.R_far HR7.out (p := ⟨b5, 1, none⟩) (fun k hk => by show k ≠ b5; have hk2 : w6.heap.size ≤ k := hk; have := HGG.out; omega) (Value.slice A7 p.f1.length c7)
    rw [← hw8] at hset hS8 hR8 ⊢
    have HX8 : Aside0 (w8.heap[b5]? = some (.cells #[.string p.f0, .slice A7 p.f1.length c7, .int .i64 p.f2] TP (0, 0))) := ⟨hset.at_⟩
    have HZ87 : Aside0 (w8.heap.size = w7.heap.size) := ⟨hset.size⟩
    have HB8 : Aside0 (Below w.heap.size w w8) := ⟨hset.below HB7.out HG5.out⟩
    have HR8 := Aside0.mk hR8
    rw [HAG.out] at hS8
    obtain ⟨oki, c, hcl8, hM8, hcc8, hfr8, hoki, hH8⟩ := Kd.S_elem (ok := fun k => w5.heap.size ≤ k ∧ ¬ w6.heap.size ≤ k) hS8 (⟨ByteArray.empty, [], []⟩ : Tab) (m : Int) (by omega) (by omega)
    have e8 : l.getD (m : Int).toNat (⟨ByteArray.empty, [], []⟩ : Tab) = t := by rw [Int.toNat_natCast, List.getD_eq_getElem?_getD, List.getElem?_eq_getElem hm, ← HT.out]; rfl
    rw [e8] at hM8
    rw [Int.toNat_natCast] at hcc8
    obtain ⟨v81, v82, rfl, hR81, hR82⟩ := k47_openM hM8
    obtain ⟨A81, c81, rfl⟩ := Kd.R_slice hR81
    obtain ⟨A82, c82, rfl⟩ := Kd.R_slice hR82
    have HH8 := Aside0.mk hH8
    have HR81 := Aside0.mk hR81
    have HR82 := Aside0.mk hR82
    have HOKI := Aside0.mk hoki
    have HCG : Aside0 (w8.cell? ⟨(adg.add (m * 3)).block, (adg.add (m * 3)).off + 2, none⟩ = some (.slice A82 t.f2.length c82)) := ⟨by rw [HAG.out, addj]; exact hcc8 2 _ rfl⟩
    have HRA8 := Aside0.mk (show w8.rangeAt b5 0 [.string p.f0, .slice A7 p.f1.length c7, .int .i64 p.f2] from fun j v hv => by rw [cell_of_row w8 b5 _ _ _ _ HX8.out]; simpa using hv)
    clear hset hS8 hR8 hcl8 hM8 hcc8 hfr8 hoki hH8 hR81 hR82 e8 hw8 HSET HS7 HS6 HR7
    refine start_ (n := 13) (S := fun w' => w'.cell? ⟨(adg.add (m * 3)).block, (adg.add (m * 3)).off + 2, none⟩ = some (.slice A82 t.f2.length c82) ∧ w'.rangeAt b5 0 [.string p.f0, .slice A7 p.f1.length c7, .int .i64 p.f2]) (ds := [12]) #[Z,Z,Z,Z,Z,Z,Z,Z,Z,Z,Z,Z,Z] (by kernel_rfl) rfl rfl (⟨HCG.out, by rw [World.rangeAt_drew]; exact HRA8.out⟩) (fun hHeld => ?_)
    refine pure_ (i := 0) (N := (some 52)) (v := ?_) (a' := ?_) #[Y,Z,Z,Z,Z,Z,Z,Z,Z,Z,Z,Z,Z] rfl rfl (by kernel_rfl) (fun _ _ _ h => h) (Or.inl ⟨by rfl, ?_⟩) ?_ ?_
    rotate_left
    · intro w'
      go_simp
      with_reducible rfl
    rotate_left
    · simp only [Act.put, List.setIfInBounds_toArray, List.set_cons_zero, List.set_cons_succ, i64_w, i32_w]
      rfl
    refine pure_ (i := 1) (N := (some 53)) (v := ?_) (a' := ?_) #[Y,Y,Z,Z,Z,Z,Z,Z,Z,Z,Z,Z,Z] rfl rfl (by kernel_rfl) (fun _ _ _ h => h) (Or.inl ⟨by rfl, ?_⟩) ?_ ?_
    rotate_left
    · intro w'
      go_simp
      with_reducible rfl
    rotate_left
    · simp only [Act.put, List.setIfInBounds_toArray, List.set_cons_zero, List.set_cons_succ, i64_w, i32_w]
      rfl
    refine pure_ (i := 2) (N := (some 54)) (v := ?_) (a' := ?_) #[Y,Y,Y,Z,Z,Z,Z,Z,Z,Z,Z,Z,Z] rfl rfl (by kernel_rfl) (fun _ _ _ h => h) (Or.inl ⟨by rfl, ?_⟩) ?_ ?_
    rotate_left
    · intro w'
      go_simp
      with_reducible rfl
    rotate_left
    · simp only [Act.put, List.setIfInBounds_toArray, List.set_cons_zero, List.set_cons_succ, i64_w, i32_w]
      rfl
    refine pure_ (i := 3) (N := (some 55)) (v := ?_) (a' := ?_) #[Y,Y,Y,Y,Z,Z,Z,Z,Z,Z,Z,Z,Z] rfl rfl (by kernel_rfl) (fun _ _ _ h => h) (Or.inl ⟨by rfl, ?_⟩) ?_ ?_
    rotate_left
    · intro w'
      go_simp
      with_reducible rfl
    rotate_left
    · simp only [Act.put, List.setIfInBounds_toArray, List.set_cons_zero, List.set_cons_succ, i64_w, i32_w]
      rfl
    refine pure_ (i := 4) (N := (some 56)) (v := ?_) (a' := ?_) #[Y,Y,Y,Y,Y,Z,Z,Z,Z,Z,Z,Z,Z] rfl rfl (by kernel_rfl) (fun _ _ _ h => h) (Or.inl ⟨by rfl, ?_⟩) ?_ ?_
    rotate_left
    · intro w'
      go_simp
      with_reducible rfl
    rotate_left
    · simp only [Act.put, List.setIfInBounds_toArray, List.set_cons_zero, List.set_cons_succ, i64_w, i32_w]
      rfl
    refine pure_ (i := 5) (N := (some 57)) (v := ?_) (a' := ?_) #[Y,Y,Y,Y,Y,Y,Z,Z,Z,Z,Z,Z,Z] rfl rfl (by kernel_rfl) (fun _ _ _ h => h) (Or.inl ⟨by rfl, ?_⟩) ?_ ?_
    rotate_left
    · intro w'
      go_simp
      with_reducible rfl
    rotate_left
    · simp only [Act.put, List.setIfInBounds_toArray, List.set_cons_zero, List.set_cons_succ, i64_w, i32_w]
      rfl
    refine take_ (i := 6) (N := (some 58)) (v := ?_) (a' := ?_) #[Y,Y,Y,Y,Y,Y,Y,Z,Z,Z,Z,Z,Z] rfl rfl (by kernel_rfl) (fun _ _ _ h => h) (Or.inl ⟨by rfl, ?_⟩) hHeld ?_ ?_
    rotate_left
    · intro w' s0
      go_simp
      with_reducible rfl
    rotate_left
    · simp only [Act.put, List.setIfInBounds_toArray, List.set_cons_zero, List.set_cons_succ, i64_w, i32_w]
      rfl
    refine take_ (i := 7) (N := (some 59)) (v := .agg #[.string p.f0, .slice A7 p.f1.length c7, .int .i64 p.f2]) (a' := ?_) #[Y,Y,Y,Y,Y,Y,Y,Y,Z,Z,Z,Z,Z] rfl rfl (by kernel_rfl) (fun _ _ _ h => h) (yieldsIf_load_mid (by rfl) TP (.tmp 5) rfl b5 0 rfl [.string p.f0, .slice A7 p.f1.length c7, .int .i64 p.f2] _ (fun w (h : _ ∧ _) => h.2) Try.underlying52 rfl size_P) hHeld ?_ ?_
    rotate_left
    · simp only [Act.put, List.setIfInBounds_toArray, List.set_cons_zero, List.set_cons_succ, i64_w, i32_w]
      rfl
    refine one_ (i := 8) (N := (some 60)) #[Y,Y,Y,Y,Y,Y,Y,Y,Y,Z,Z,Z,Z] rfl rfl (by kernel_rfl) (by decide) (fun K hK => ?_)
    refine value_ (w1 := w8.drew.alloc (.cells ([.string p.f0, .slice A7 p.f1.length c7, .int .i64 p.f2] : List Value).toArray TP (0, 0))) (v := .slice (some ⟨w8.drew.heap.size, 0, none⟩) 1 1) (by rfl) rfl (by first | (go_simp; done) | (go_simp; rfl)) ?_
    have hB8a : Below w8.heap.size w8 (w8.drew.alloc (.cells ([.string p.f0, .slice A7 p.f1.length c7, .int .i64 p.f2] : List Value).toArray TP (0, 0))) := below_alloc (below_drew (Below.refl _ _)) _
    refine hK.out _ _ ⟨pw_cell_below hB8a HCG.out, fun j v hv => pw_cell_below hB8a (HRA8.out j v hv)⟩ (fun hHeld => ?_)
    clear hB8a
    clear hK K
    refine norm_ (a' := ?_) ?_ ?_
    rotate_left
    · show Act.put _ (some 60) _ = _
      simp only [Act.put, List.setIfInBounds_toArray, List.set_cons_zero, List.set_cons_succ, i64_w, i32_w]
      rfl
    have hls : (t.f2.length + 1) * 48 ≤ 140737488355328 := by omega
    have HOWN : Aside0 (∀ k, (Value.slice A82 t.f2.length c82).ownBlock = some k → oki k) := ⟨fun k hk => HR82.out.1 k hk⟩
    have HKK : Aside0 (∀ k, oki k → w5.heap.size ≤ k ∧ k < w6.heap.size ∧ k ≠ g) := ⟨fun k hk => by have h := HOKI.out k hk; have h2 : (w5.heap.size ≤ k ∧ ¬ w6.heap.size ≤ k) := h.1; exact ⟨h2.1, by omega, h.2⟩⟩
    refine one_ (i := 9) (N := (some 61)) #[Y,Y,Y,Y,Y,Y,Y,Y,Y,Y,Z,Z,Z] rfl rfl (by kernel_rfl) (by decide) (fun K hK => ?_)
    refine Kd.R_append_step kP (w0 := w8) w5.heap.size (by rfl) (.tmp 58) (.tmp 60) 45 TP (.agg #[(.string ⟨#[]⟩), (.slice none 0 0), (.int .i64 0)]) 48 rfl Try.underlying45 info_proj rfl (by decide) (by omega) (.slice A82 t.f2.length c82) t.f2 p [.string p.f0, .slice A7 p.f1.length c7, .int .i64 p.f2] (fun k => oki k ∨ w6.heap.size ≤ k) (fun k => w6.heap.size ≤ k) rfl rfl (k52_mkM _ _ _ p (Kd.R_drew (Kd.R_lower HR8.out HZ65.out))) (fun k hk => ⟨Or.inr hk, fun he => by have := HKK.out k (HOWN.out k he.symm); omega⟩) (fun k hk => Or.inr (by have h0 : w8.drew.heap.size = w8.heap.size := rfl; have h1 := HZ87.out; have h2 := HZ76.out; omega)) (Kd.R_drew (Kd.R_mono HR82.out (fun k hk => Or.inl hk))) (below_drew (Below.refl _ _)) (by have h0 : w8.drew.heap.size = w8.heap.size := rfl; have h1 := HZ87.out; have h2 := HZ76.out; have h3 := HZ65.out; omega) hls ?_
    intro v10 w9 hr9 hb9 hg9 hat9
    obtain ⟨A10, c10, rfl⟩ := Kd.R_slice hr9
    have hAG : (⟨(adg.add (m * 3)).block, (adg.add (m * 3)).off + 2, none⟩ : Addr) = ⟨g, m * 3 + 2, none⟩ := by rw [HAG.out, addj]
    have hneg : some g ≠ (Value.slice A82 t.f2.length c82).ownBlock := fun he => (HKK.out g (HOWN.out g he.symm)).2.2 rfl
    have hneb : some b5 ≠ (Value.slice A82 t.f2.length c82).ownBlock := fun he => by have h := (HKK.out b5 (HOWN.out b5 he.symm)).1; have := HGG.out; omega
    have hsz8 : w8.drew.heap.size = w8.heap.size := rfl
    have h87 := HZ87.out
    have h76 := HZ76.out
    have hgg := HGG.out
    have hcg8 := HCG.out
    rw [hAG] at hcg8
    have HCG9 : Aside0 (w9.cell? ⟨(adg.add (m * 3)).block, (adg.add (m * 3)).off + 2, none⟩ = some (.slice A82 t.f2.length c82)) := ⟨by rw [hAG]; exact (hg9.cell_far ⟨g, m * 3 + 2, none⟩ (by show g < w8.drew.heap.size; omega) hneg).trans hcg8⟩
    have HRA9 : Aside0 (w9.rangeAt b5 0 [.string p.f0, .slice A7 p.f1.length c7, .int .i64 p.f2]) := ⟨fun j v hv => (hg9.cell_far ⟨b5, 0 + j, none⟩ (by show b5 < w8.drew.heap.size; omega) hneb).trans (HRA8.out j v hv)⟩
    have hH9 := Kd.H_grown (Kd.H_drew HH8.out) hg9 (fun k hk => HOWN.out k hk)
    have hC9 := Kd.R_over' (e' := TP) (v := Value.slice A82 t.f2.length c82) (Kd.R_drew HR81.out) (Kd.R_typed (Kd.R_drew HR82.out)) (by decide) hg9
    have hM9 : kT.M w9 w5.heap.size (fun k => oki k ∨ w6.heap.size ≤ k) (⟨t.f0, t.f1, t.f2 ++ [p]⟩ : Tab) (([.string t.f0, .slice A81 t.f1.length c81, .slice A82 t.f2.length c82] : List Value).take 2 ++ [(Value.slice A10 (t.f2 ++ [p]).length c10)] ++ ([.string t.f0, .slice A81 t.f1.length c81, .slice A82 t.f2.length c82] : List Value).drop (2 + [(Value.slice A10 (t.f2 ++ [p]).length c10)].length)) := k47_mkM w9 _ _ (⟨t.f0, t.f1, t.f2 ++ [p]⟩ : Tab) (Kd.R_mono hC9 (fun k hk => Or.inl hk)) hr9
    obtain ⟨hS10, hg10⟩ := Kd.S_seg (okg := fun k => w6.heap.size ≤ k) (ok := fun k => w5.heap.size ≤ k) hH9 (by omega) (by omega) (j := 2) (seg := [(Value.slice A10 (t.f2 ++ [p]).length c10)]) (by show 2 + 1 ≤ 3; omega) hM9 (fun k hk => hk) (fun k hk => ⟨by have hk2 : w6.heap.size ≤ k := hk; show w5.heap.size ≤ k; omega, by have hk2 : w6.heap.size ≤ k := hk; omega⟩)
    rw [Int.toNat_natCast, show kT.sz = 3 from rfl] at hS10 hg10
    obtain ⟨rows9, hrl9, hraw9, _, _, _, _⟩ := Kd.H_raw hH9 (by omega) (by omega)
    obtain ⟨inner9, hown9⟩ := Kd.R_own hraw9
    have hrun : (Instr.storeAt 45 (.pointer (some ⟨g, m * 3 + 2, none⟩)) (Value.slice A10 (t.f2 ++ [p]).length c10)).run Try.prog w9 = .ok () (w9.setCells g (m * 3 + 2) [(Value.slice A10 (t.f2 ++ [p]).length c10)]) := by
      rcases hown9.2 with ⟨hv, _⟩ | ⟨g', cap', cur, hv, hb, hh, hnc, hcm, hcs, _⟩
      · cases hv
      injection hv with ha _ hcp
      injection ha with ha
      injection ha with hg'
      subst hg'; subst hcp
      refine run_store_run _ _ _ hh rfl size_SP ?_ (by simp [Value.oneCell'])
      have h3 : (Kd.raw kT.sz).sz = 3 := rfl
      rw [h3] at hcs
      simp only [List.length_singleton]
      omega
    have HRUN := Aside0.mk hrun
    have HAA := Aside0.mk hAG
    have HS10 := Aside0.mk hS10
    have HG10 := Aside0.mk hg10
    have HB9 := Aside0.mk (below_weaken HB8.out HB5.out.size hb9)
    refine hK.out _ _ ⟨HCG9.out, HRA9.out⟩ (fun hHeld => ?_)
    clear hAG hneg hneb hsz8 h87 h76 hgg hcg8 hH9 hC9 hM9 hS10 hg10 hrl9 hraw9 hown9 hrun hr9 hb9 hg9 hat9
    clear hK K
    refine norm_ (a' := ?_) ?_ ?_
    rotate_left
    · show Act.put _ (some 61) _ = _
      simp only [Act.put, List.setIfInBounds_toArray, List.set_cons_zero, List.set_cons_succ, i64_w, i32_w]
      rfl
    refine pure_ (i := 10) (N := (some 62)) (v := ?_) (a' := ?_) #[Y,Y,Y,Y,Y,Y,Y,Y,Y,Y,Y,Z,Z] rfl rfl (by kernel_rfl) (fun _ _ _ h => h) (Or.inl ⟨by rfl, ?_⟩) ?_ ?_
    rotate_left
    · intro w'
      go_simp
      with_reducible rfl
    rotate_left
    · simp only [Act.put, List.setIfInBounds_toArray, List.set_cons_zero, List.set_cons_succ, i64_w, i32_w]
      rfl
    refine pure_ (i := 11) (N := (some 63)) (v := ?_) (a' := ?_) #[Y,Y,Y,Y,Y,Y,Y,Y,Y,Y,Y,Y,Z] rfl rfl (by kernel_rfl) (fun _ _ _ h => h) (Or.inl ⟨by rfl, ?_⟩) ?_ ?_
    rotate_left
    · intro w'
      go_simp
      with_reducible rfl
    rotate_left
    · simp only [Act.put, List.setIfInBounds_toArray, List.set_cons_zero, List.set_cons_succ, i64_w, i32_w]
      rfl
    refine last_ (i := 12) (N := none) #[Y,Y,Y,Y,Y,Y,Y,Y,Y,Y,Y,Y,Y] rfl rfl (by kernel_rfl) (by decide) (fun K hK => ?_)
    refine skip_ (w1 := w9.setCells g (m * 3 + 2) [(Value.slice A10 (t.f2 ++ [p]).length c10)]) (by rfl) rfl (run_store_u 45 (.tmp 63) (.tmp 61) rfl (.pointer (some ⟨(adg.add (m * 3)).block, (adg.add (m * 3)).off + 2, none⟩)) (Value.slice A10 (t.f2 ++ [p]).length c10) (by first | rfl | (go_simp; done)) (by first | rfl | (go_simp; done)) (by rw [HAA.out]; exact HRUN.out)) ?_
    refine hK.out _ _ ?_
    clear hK K
    obtain ⟨w10, hw10⟩ : ∃ y, y = w9.setCells g (m * 3 + 2) [(Value.slice A10 (t.f2 ++ [p]).length c10)] := ⟨_, rfl⟩
    have hS10 := HS10.out
    have hg10 := HG10.out
    rw [← hw10] at hS10 hg10 ⊢
    rw [← HAG.out] at hS10
    have HS := Aside0.mk hS10
    have HB10 : Aside0 (Below w.heap.size w w10) := ⟨below_grown HB9.out hg10 (by have := HGG.out; have := HB5.out.size; omega)⟩
    have HZ5 : Aside0 (w.heap.size ≤ w5.heap.size) := ⟨HB5.out.size⟩
    clear hS10 hg10 hw10 HS10 HG10 HRUN
    refine done_ (by kernel_rfl) ?_
    go_wp2_with fail
    go_ret2
    rw [HE.out]
    exact ⟨_, rfl, Kd.N_lower (Kd.N_mono (Kd.S_N HS.out) (fun k hk => Nat.le_trans HZ5.out hk)) HZ5.out, HB10.out⟩
end Go.Proofs.Ytgjclhhjigflkac.Sc

/- A row of the call's own, whose tail is cleared. -/
namespace Go.Proofs.Ytgjclhhjigflkac.Hand
open Go Go.RowKit Go.Proofs.YtgjclhhjigflkacW.PrintWords Go.Proofs.YtgjclhhjigflkacW.PrintLast Go.Proofs.YtgjclhhjigflkacW.PrintMore
set_option linter.unusedVariables false
set_option linter.unusedSimpArgs false
section
variable {α : Type} {d : Kd α} {e base n cap g : Nat} {ok : Nat → Prop} {W : World} {xs : List α}
end
section
variable {P : Program} {ops : Array Oper} {rest : List Oper} {o : Oper} {a : Act} {Q : Exit → Act → World → Prop}
theorem clear_event {W : World} (hgd : o.guard = none) (x : Operand) (t e : TypeId) (ho : o.op = .call { callee := .builtin .clear, args := #[x], argTypes := #[t] }) (g off m c : Nat) (hx : a.eval x = .slice (some ⟨g, off, none⟩) m c)
    (ht : P.underlying t = some (.slice e)) (z : Value) (hz : (zeroValue e).run P W = .ok z W) (h1 : ∀ u ∈ z.cells.toList, u.oneCell' = true) (hzs : 0 < z.cells.size) (cur : Array Value) (te : TypeId) (hh : W.heap[g]? = some (.cells cur te (0, 0))) (hm : 0 < m) (hfit : off + m * z.cells.size ≤ cur.size)
    (h : ∀ vs, vs.length = m * z.cells.size → wpList P ops Q rest (a.put o.dst (.tuple #[])) (W.setCells g off vs)) : wpList P ops Q (o :: rest) a W := by
  obtain ⟨vs, hvs⟩ : ∃ vs, vs = (Builtin.zeroCells z.cells m).toList := ⟨_, rfl⟩
  have hl : vs.length = m * z.cells.size := by rw [hvs]; simp [Builtin.zeroCells]
  have hone : ∀ u ∈ vs, u.oneCell' = true := by
    intro u hu
    rw [hvs] at hu
    simp only [Builtin.zeroCells, Array.toList_map, List.mem_map] at hu
    obtain ⟨i, _, rfl⟩ := hu
    have hlt : i % z.cells.size < z.cells.size := Nat.mod_lt _ hzs
    rw [getElem!_pos z.cells _ hlt]
    exact h1 _ (by simp)
  have hst := run_storeCells_cells (P := P) g off vs 0 W (fun j hj => by rw [cell_of_row W g _ cur te (0, 0) hh]; simp; omega) (fun j _ => blk_frozen hh _) hone
  simp only [Nat.add_zero] at hst
  refine wpList_plain hgd fun K hK => ?_
  have hm0 : ∃ m', m = m' + 1 := ⟨m - 1, by omega⟩
  obtain ⟨m', rfl⟩ := hm0
  have hrun : (Builtin.clear_ #[t] o.type #[.slice (some ⟨g, off, none⟩) (m' + 1) c]).run P W = .ok (.tuple #[]) (W.setCells g off vs) := by
    simp [Builtin.clear_, run_underlying ht, hz, Result.andThen, ← hvs, hst]
  unfold Oper.wp execOp
  simp only [ho, resolve, invoke, builtin, Sem.run_bind, Sem.run_pure, Result.andThen_ok, List.map_toArray, List.map_cons, List.map_nil, hx, hrun]
  exact hK _ _ (h vs hl)
end
end Go.Proofs.Ytgjclhhjigflkac.Hand

/- The walk of slices.Delete over projections: one of them. (Written by gendel.py.) -/
namespace Go.Proofs.Ytgjclhhjigflkac.Sc
open Go Go.RowKit Go.Proofs.Ytgjclhhjigflkac.C Go.Proofs.Ytgjclhhjigflkac.MyWords Go.Proofs.Ytgjclhhjigflkac.Hand Go.Proofs.YtgjclhhjigflkacW.PrintWords Go.Proofs.YtgjclhhjigflkacW.PrintLast Go.Proofs.YtgjclhhjigflkacW.PrintMore
set_option linter.unusedVariables false
set_option linter.unusedSimpArgs false
theorem zero_proj (w : World) : (zeroValue TP).run Try.prog w = .ok (.agg #[(.string ⟨#[]⟩), (.slice none 0 0), (.int .i64 0)]) w := by kernel_rfl
/-- cells behind a row's last element are written: the row is as it was -/
theorem R_tail {α : Type} {d : Kd α} {e base n cap g : Nat} {ok : Nat → Prop} {W : World} {xs : List α} (h : d.R e W base ok (.slice (some ⟨g, 0, none⟩) n cap) xs) (vs : List Value) (hv : n * d.sz + vs.length ≤ cap * d.sz) :
    d.R e (W.setCells g (n * d.sz) vs) base ok (.slice (some ⟨g, 0, none⟩) n cap) xs ∧ W.grownBy (W.setCells g (n * d.sz) vs) (some g) := by
  have hn := (Kd.R_reads' h).1
  obtain ⟨s1, s2, s3, s4⟩ := setCells_same g vs (n * d.sz) W
  have hg : W.grownBy (W.setCells g (n * d.sz) vs) (some g) := ⟨s1, s2, s3, by omega, fun k hk hne => setCells_far vs _ k (fun hkg => hne (by rw [hkg]))⟩
  have hgo : (Value.slice (some ⟨g, 0, none⟩) n cap).ownBlock = some g := by simp [Value.ownBlock]
  refine ⟨?_, hg⟩
  obtain ⟨h0, inner, ho, hr⟩ := h
  refine ⟨h0, inner, ?_, hr.1, fun j x hx => Kd.M_grown (hr.2 j x hx) hg (fun k hk => by rw [← hgo]; exact hk.2)⟩
  obtain ⟨hil, ho⟩ := ho
  refine ⟨hil, ?_⟩
  rcases ho with ⟨he, _⟩ | ⟨g', cap', cur, he, hb, hh, hnc, hcm, hcs, ht⟩
  · cases he
  · injection he with h1 h2 h3
    injection h1 with h1
    injection h1 with h1 _ _
    subst h1 h3
    obtain ⟨cur', r1, r2, r3⟩ := setCells_row vs (n * d.sz) W cur hh (by omega)
    refine .inr ⟨g, cap, cur', by rw [hn], hb, r1, hnc, hcm, by rw [r2, hcs], ?_⟩
    rw [← ht, ← hn, r3, List.append_assoc, List.take_append_of_le_length (by rw [List.length_take, Array.length_toList]; omega), List.take_take, Nat.min_self]
theorem R_block {α : Type} {d : Kd α} {e base n cap g : Nat} {ok : Nat → Prop} {W : World} {xs : List α} (h : d.R e W base ok (.slice (some ⟨g, 0, none⟩) n cap) xs) : ∃ cur : Array Value, W.heap[g]? = some (.cells cur e (0, 0)) ∧ cur.size = cap * d.sz := by
  obtain ⟨h0, inner, ho, hr⟩ := h
  rcases ho.2 with ⟨he, _⟩ | ⟨g', cap', cur, he, hb, hh, hnc, hcm, hcs, ht⟩
  · cases he
  · injection he with h1 h2 h3
    injection h1 with h1
    injection h1 with h1 _ _
    subst h1 h3
    exact ⟨cur, hh, hcs⟩
set_option maxHeartbeats 1500000 in
set_option maxRecDepth 100000 in
theorem del_proj (g cap base : Nat) (ok : Nat → Prop) (xs : List Prj) (k : Nat) (w : World) (hR : Kd.R kP TP w base ok (.slice (some ⟨g, 0, none⟩) xs.length cap) xs) (hbase : base ≤ w.heap.size) (hk : k < xs.length) (hl : xs.length ≤ 1000000) :
    Calls Try.prog 105 #[.slice (some ⟨g, 0, none⟩) xs.length cap, .int .i64 (k : Int), .int .i64 ((k : Int) + 1)] w fun e w' => e = .returned (.slice (some ⟨g, 0, none⟩) (xs.length - 1) cap) ∧ Kd.R kP TP w' base ok (.slice (some ⟨g, 0, none⟩) (xs.length - 1) cap) (xs.eraseIdx k) ∧ w.grownBy w' (some g) := by
  have hlc := (Kd.R_reads' hR).2.1
  have HR := Aside0.mk hR
  have hne : ((k : Int) == (k : Int) + 1) = false := by rw [beq_eq_false_iff_ne]; omega
  have hk0 : 0 ≤ (k : Int) + 1 := by omega
  have hkl : (k : Int) + 1 ≤ (xs.length : Int) := by omega
  have hkc : k ≤ cap := by omega
  have hkk : (k : Int) ≤ (k : Int) + 1 := by omega
  have hne2 : ¬ (k : Int) = (k : Int) + 1 := by omega
  have hcn : ¬ cap = xs.length - 1 := by omega
  clear hR
  by_cases hck : cap = k + 1
  · have HAA : Aside0 ((some ⟨g, 0, none⟩ : Option Addr) = if cap = k + 1 then some ⟨g, 0, none⟩ else (some (⟨g, 0, none⟩ : Addr)).map (·.add ((k + 1) * kP.sz))) := ⟨by rw [if_pos hck]⟩
    subst hck
    go_enter Try.func105, Try.ntmps105
    go_wp2_with fail
    refine start_ (n := 8) (S := fun _ => True) (ds := []) #[Z,Z,Z,Z,Z,Z,Z,Z] (by kernel_rfl) rfl rfl (trivial) (fun hHeld => ?_)
    refine pure_ (i := 0) (N := (some 20)) (v := ?_) (a' := ?_) #[Y,Z,Z,Z,Z,Z,Z,Z] rfl rfl (by kernel_rfl) (fun _ _ _ h => h) (Or.inl ⟨by rfl, ?_⟩) ?_ ?_
    rotate_left
    · intro w'
      go_simp
      with_reducible rfl
    rotate_left
    · simp only [Act.put, List.setIfInBounds_toArray, List.set_cons_zero, List.set_cons_succ, i64_w, i32_w]
      rfl
    refine pure_ (i := 1) (N := (some 21)) (v := ?_) (a' := ?_) #[Y,Y,Z,Z,Z,Z,Z,Z] rfl rfl (by kernel_rfl) (fun _ _ _ h => h) (Or.inl ⟨by rfl, ?_⟩) ?_ ?_
    rotate_left
    · intro w'
      go_simp
      with_reducible rfl
    rotate_left
    · simp only [Act.put, List.setIfInBounds_toArray, List.set_cons_zero, List.set_cons_succ, i64_w, i32_w]
      rfl
    refine pure_ (i := 2) (N := (some 22)) (v := ?_) (a' := ?_) #[Y,Y,Y,Z,Z,Z,Z,Z] rfl rfl (by kernel_rfl) (fun _ _ _ h => h) (Or.inl ⟨by rfl, ?_⟩) ?_ ?_
    rotate_left
    · intro w'
      go_simp
      with_reducible rfl
    rotate_left
    · simp only [Act.put, List.setIfInBounds_toArray, List.set_cons_zero, List.set_cons_succ, i64_w, i32_w]
      rfl
    refine pure_ (i := 3) (N := (some 23)) (v := ?_) (a' := ?_) #[Y,Y,Y,Y,Z,Z,Z,Z] rfl rfl (by kernel_rfl) (fun _ _ _ h => h) (Or.inl ⟨by rfl, ?_⟩) ?_ ?_
    rotate_left
    · intro w'
      go_simp
      with_reducible rfl
    rotate_left
    · simp only [Act.put, List.setIfInBounds_toArray, List.set_cons_zero, List.set_cons_succ, i64_w, i32_w]
      rfl
    refine pure_ (i := 4) (N := (some 24)) (v := ?_) (a' := ?_) #[Y,Y,Y,Y,Y,Z,Z,Z] rfl rfl (by kernel_rfl) (fun _ _ _ h => h) (Or.inl ⟨by rfl, ?_⟩) ?_ ?_
    rotate_left
    · intro w'
      go_simp
      with_reducible rfl
    rotate_left
    · simp only [Act.put, List.setIfInBounds_toArray, List.set_cons_zero, List.set_cons_succ, i64_w, i32_w]
      rfl
    refine pure_ (i := 5) (N := (some 25)) (v := ?_) (a' := ?_) #[Y,Y,Y,Y,Y,Y,Z,Z] rfl rfl (by kernel_rfl) (fun _ _ _ h => h) (Or.inl ⟨by rfl, ?_⟩) ?_ ?_
    rotate_left
    · intro w'
      go_simp
      with_reducible rfl
    rotate_left
    · simp only [Act.put, List.setIfInBounds_toArray, List.set_cons_zero, List.set_cons_succ, i64_w, i32_w]
      rfl
    refine one_ (i := 6) (N := (some 26)) #[Y,Y,Y,Y,Y,Y,Y,Z] rfl rfl (by kernel_rfl) (by decide) (fun K hK => ?_)
    refine Kd.R_delete_step kP (w0 := w) base (by rfl) (.tmp 22) (.tmp 25) 45 TP rfl Try.underlying45 size_P (g := g) (n := xs.length) (c := (k + 1)) (k := k) (m := 0) (A := some ⟨g, 0, none⟩) rfl rfl (if_pos rfl).symm (by omega) (Kd.R_drew HR.out) hk (below_drew (Below.refl _ _)) hbase ?_
    intro w1 hr1 hb1 hg1
    refine hK.out _ _ trivial (fun hHeld => ?_)
    have HR1 := Aside0.mk hr1
    have HG1 := Aside0.mk hg1
    obtain ⟨cur, hcur, hcsz⟩ := R_block hr1
    have HCU := Aside0.mk hcur
    have HCZ := Aside0.mk hcsz
    clear hr1 hb1 hg1 hcur hcsz
    clear hK K
    refine norm_ (a' := ?_) ?_ ?_
    rotate_left
    · show Act.put _ (some 26) _ = _
      simp only [Act.put, List.setIfInBounds_toArray, List.set_cons_zero, List.set_cons_succ, i64_w, i32_w]
      rfl
    refine pure_ (i := 7) (N := (some 0)) (v := ?_) (a' := ?_) #[Y,Y,Y,Y,Y,Y,Y,Y] rfl rfl (by kernel_rfl) (fun _ _ _ h => h) (Or.inl ⟨by rfl, ?_⟩) ?_ ?_
    rotate_left
    · intro w'
      go_simp
      with_reducible rfl
    rotate_left
    · simp only [Act.put, List.setIfInBounds_toArray, List.set_cons_zero, List.set_cons_succ, i64_w, i32_w]
      rfl
    refine done_ (by kernel_rfl) ?_
    have hm1 : (xs.length : Int) - 1 = ((xs.length - 1 : Nat) : Int) := by omega
    go_wp2_with (first | ((with_reducible refine gate_builtin (b := .clear) (xs := #[.tmp 31]) rfl ?_); refine clear_event rfl (.tmp 31) 45 TP rfl g ((xs.length - 1) * 3) (xs.length - (xs.length - 1)) ((k + 1) - (xs.length - 1)) rfl Try.underlying45 (.agg #[(.string ⟨#[]⟩), (.slice none 0 0), (.int .i64 0)]) (zero_proj w1) ?z1 (by decide) cur TP HCU.out (by omega) (by rw [HCZ.out]; show (xs.length - 1) * 3 + (xs.length - (xs.length - 1)) * 3 ≤ (k + 1) * 3; omega) ?_; (case z1 => decide); intro vs hvs; have HVS := Aside0.mk hvs; clear hvs))
    go_ret
    have ht := R_tail HR1.out vs (by rw [HVS.out]; show (xs.length - 1) * 3 + (xs.length - (xs.length - 1)) * 3 ≤ (k + 1) * 3; omega)
    exact ⟨rfl, ht.1, World.grownBy.trans (show w.grownBy w1 (some g) from ⟨HG1.out.os, HG1.out.tape, HG1.out.output, HG1.out.size, HG1.out.block⟩) ht.2⟩
  · have HAA : Aside0 ((some (⟨g, (k + 1) * 3, none⟩ : Addr) : Option Addr) = if cap = k + 1 then some ⟨g, 0, none⟩ else (some (⟨g, 0, none⟩ : Addr)).map (·.add ((k + 1) * kP.sz))) := ⟨by rw [if_neg hck]; show _ = some (Addr.add ⟨g, 0, none⟩ ((k + 1) * 3)); rw [Addr.add_lit, Nat.zero_add]⟩
    go_enter Try.func105, Try.ntmps105
    go_wp2_with fail
    refine start_ (n := 8) (S := fun _ => True) (ds := []) #[Z,Z,Z,Z,Z,Z,Z,Z] (by kernel_rfl) rfl rfl (trivial) (fun hHeld => ?_)
    refine pure_ (i := 0) (N := (some 20)) (v := ?_) (a' := ?_) #[Y,Z,Z,Z,Z,Z,Z,Z] rfl rfl (by kernel_rfl) (fun _ _ _ h => h) (Or.inl ⟨by rfl, ?_⟩) ?_ ?_
    rotate_left
    · intro w'
      go_simp
      with_reducible rfl
    rotate_left
    · simp only [Act.put, List.setIfInBounds_toArray, List.set_cons_zero, List.set_cons_succ, i64_w, i32_w]
      rfl
    refine pure_ (i := 1) (N := (some 21)) (v := ?_) (a' := ?_) #[Y,Y,Z,Z,Z,Z,Z,Z] rfl rfl (by kernel_rfl) (fun _ _ _ h => h) (Or.inl ⟨by rfl, ?_⟩) ?_ ?_
    rotate_left
    · intro w'
      go_simp
      with_reducible rfl
    rotate_left
    · simp only [Act.put, List.setIfInBounds_toArray, List.set_cons_zero, List.set_cons_succ, i64_w, i32_w]
      rfl
    refine pure_ (i := 2) (N := (some 22)) (v := ?_) (a' := ?_) #[Y,Y,Y,Z,Z,Z,Z,Z] rfl rfl (by kernel_rfl) (fun _ _ _ h => h) (Or.inl ⟨by rfl, ?_⟩) ?_ ?_
    rotate_left
    · intro w'
      go_simp
      with_reducible rfl
    rotate_left
    · simp only [Act.put, List.setIfInBounds_toArray, List.set_cons_zero, List.set_cons_succ, i64_w, i32_w]
      rfl
    refine pure_ (i := 3) (N := (some 23)) (v := ?_) (a' := ?_) #[Y,Y,Y,Y,Z,Z,Z,Z] rfl rfl (by kernel_rfl) (fun _ _ _ h => h) (Or.inl ⟨by rfl, ?_⟩) ?_ ?_
    rotate_left
    · intro w'
      go_simp
      with_reducible rfl
    rotate_left
    · simp only [Act.put, List.setIfInBounds_toArray, List.set_cons_zero, List.set_cons_succ, i64_w, i32_w]
      rfl
    refine pure_ (i := 4) (N := (some 24)) (v := ?_) (a' := ?_) #[Y,Y,Y,Y,Y,Z,Z,Z] rfl rfl (by kernel_rfl) (fun _ _ _ h => h) (Or.inl ⟨by rfl, ?_⟩) ?_ ?_
    rotate_left
    · intro w'
      go_simp
      with_reducible rfl
    rotate_left
    · simp only [Act.put, List.setIfInBounds_toArray, List.set_cons_zero, List.set_cons_succ, i64_w, i32_w]
      rfl
    refine pure_ (i := 5) (N := (some 25)) (v := ?_) (a' := ?_) #[Y,Y,Y,Y,Y,Y,Z,Z] rfl rfl (by kernel_rfl) (fun _ _ _ h => h) (Or.inl ⟨by rfl, ?_⟩) ?_ ?_
    rotate_left
    · intro w'
      go_simp
      with_reducible rfl
    rotate_left
    · simp only [Act.put, List.setIfInBounds_toArray, List.set_cons_zero, List.set_cons_succ, i64_w, i32_w]
      rfl
    refine one_ (i := 6) (N := (some 26)) #[Y,Y,Y,Y,Y,Y,Y,Z] rfl rfl (by kernel_rfl) (by decide) (fun K hK => ?_)
    refine Kd.R_delete_step kP (w0 := w) base (by rfl) (.tmp 22) (.tmp 25) 45 TP rfl Try.underlying45 size_P (g := g) (n := xs.length) (c := cap) (k := k) (m := xs.length - (k + 1)) (A := some (⟨g, (k + 1) * 3, none⟩ : Addr)) rfl rfl HAA.out (by omega) (Kd.R_drew HR.out) hk (below_drew (Below.refl _ _)) hbase ?_
    intro w1 hr1 hb1 hg1
    refine hK.out _ _ trivial (fun hHeld => ?_)
    have HR1 := Aside0.mk hr1
    have HG1 := Aside0.mk hg1
    obtain ⟨cur, hcur, hcsz⟩ := R_block hr1
    have HCU := Aside0.mk hcur
    have HCZ := Aside0.mk hcsz
    clear hr1 hb1 hg1 hcur hcsz
    clear hK K
    refine norm_ (a' := ?_) ?_ ?_
    rotate_left
    · show Act.put _ (some 26) _ = _
      simp only [Act.put, List.setIfInBounds_toArray, List.set_cons_zero, List.set_cons_succ, i64_w, i32_w]
      rfl
    refine pure_ (i := 7) (N := (some 0)) (v := ?_) (a' := ?_) #[Y,Y,Y,Y,Y,Y,Y,Y] rfl rfl (by kernel_rfl) (fun _ _ _ h => h) (Or.inl ⟨by rfl, ?_⟩) ?_ ?_
    rotate_left
    · intro w'
      go_simp
      with_reducible rfl
    rotate_left
    · simp only [Act.put, List.setIfInBounds_toArray, List.set_cons_zero, List.set_cons_succ, i64_w, i32_w]
      rfl
    refine done_ (by kernel_rfl) ?_
    have hm1 : (xs.length : Int) - 1 = ((xs.length - 1 : Nat) : Int) := by omega
    go_wp2_with (first | ((with_reducible refine gate_builtin (b := .clear) (xs := #[.tmp 31]) rfl ?_); refine clear_event rfl (.tmp 31) 45 TP rfl g ((xs.length - 1) * 3) (xs.length - (xs.length - 1)) (cap - (xs.length - 1)) rfl Try.underlying45 (.agg #[(.string ⟨#[]⟩), (.slice none 0 0), (.int .i64 0)]) (zero_proj w1) ?z1 (by decide) cur TP HCU.out (by omega) (by rw [HCZ.out]; show (xs.length - 1) * 3 + (xs.length - (xs.length - 1)) * 3 ≤ cap * 3; omega) ?_; (case z1 => decide); intro vs hvs; have HVS := Aside0.mk hvs; clear hvs))
    go_ret
    have ht := R_tail HR1.out vs (by rw [HVS.out]; show (xs.length - 1) * 3 + (xs.length - (xs.length - 1)) * 3 ≤ cap * 3; omega)
    exact ⟨rfl, ht.1, World.grownBy.trans (show w.grownBy w1 (some g) from ⟨HG1.out.os, HG1.out.tape, HG1.out.output, HG1.out.size, HG1.out.block⟩) ht.2⟩
end Go.Proofs.Ytgjclhhjigflkac.Sc
