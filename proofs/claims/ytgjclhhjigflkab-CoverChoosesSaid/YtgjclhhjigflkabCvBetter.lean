/- The walk of the reference's better (law 32). (Written by genbetter.py.) -/
import Derived.Test.YtgjclhhjigflkabCvCheck
import Derived.Test.YtgjclhhjigflkabCx4
namespace Go.Proofs.Ytgjclhhjigflkab.Sc
open Go Go.RowKit Go.Proofs.Ytgjclhhjigflkab.C Go.Proofs.Ytgjclhhjigflkab.MyWords Go.Proofs.Ytgjclhhjigflkab.Hand Go.Proofs.Ytgjclhhjigflkab.EvW Go.Proofs.YtgjclhhjigflkabW.PrintWords Go.Proofs.YtgjclhhjigflkabW.PrintLast Go.Proofs.YtgjclhhjigflkabW.PrintMore
set_option linter.unusedVariables false
set_option linter.unusedSimpArgs false
section
variable {P : Program} {ops : Array Oper} {S : World → Prop} {op : Oper} {a : Act}
theorem yieldsIf_load_any (hw : Region.wanted op (yielded ops a.tmps) = true) (ty : TypeId) (x : Operand) (ho : op.op = .load ty x) (ad : Addr) (hx : a.eval x = .pointer (some ad)) (c : List Value)
    (hS : ∀ w, S w → ∀ j v, c[j]? = some v → w.cell? (ad.add j) = some v) (d : TypeDesc) (hu : P.underlying ty = some d) (hd : (match d with | .struct _ | .array _ _ => true | _ => false) = true) (hi : (P.info? ty).map (·.size) = some c.length) : YieldsIf P ops S op (.agg c.toArray) a :=
  .inl ⟨hw, fun w hw' => by
    have hl := run_loadCells_list (P := P) w ad c (hS w hw')
    cases hq : P.info? ty with
    | none => simp [hq] at hi
    | some i =>
      have hs : i.size = c.length := by simpa [hq] using hi
      have hagg : (isAgg ty).run P w = .ok true w := by
        unfold isAgg
        rw [Sem.run_bind, run_underlying hu w]
        cases d <;> simp_all
      have hv : (loadVar ty ad).run P w = .ok (.agg c.toArray) w := by simp [loadVar, Sem.run_bind, hagg, sizeOf, typeInfo, hq, hs, hl]
      unfold execOp
      simp only [ho, hx, Instr.loadAt, Instr.sureAddr, Sem.run_bind, Sem.run_pure, Result.andThen_ok, hv]⟩
end
theorem run_alloc_P {e : Operand → Value} {o : Oper} {W : World} (ho : o.op = .alloc TP) : (execOp e o).run Try.prog W = .ok (.value (.pointer (some ⟨W.heap.size, 0, none⟩))) (W.alloc (.cells #[.string ⟨#[]⟩, .slice none 0 0, .int .i64 0] TP (0, 0))) := by
  unfold execOp
  simp only [ho]
  kernel_rfl
theorem run_store_rowP {e : Operand → Value} {o : Oper} {W : World} (ty : TypeId) (x y : Operand) (ho : o.op = .store ty x y) (g : Nat) (cells : Array Value) (hx : e x = .pointer (some ⟨g, 0, none⟩)) (hy : e y = .agg cells)
    (t : TypeId) (old : Array Value) (hg : W.heap[g]? = some (.cells old t (0, 0))) (hi : (Try.prog.info? ty).map (·.size) = some cells.size) (hold : old.size = cells.size) (h1 : cells.all (·.oneCell') = true) :
    (execOp e o).run Try.prog W = .ok .skip (W.setRow g cells) := by
  unfold execOp
  simp only [ho, hx, hy, Instr.storeAt, Instr.sureAddr, Sem.run_bind, Sem.run_pure, Result.andThen_ok, run_storeVar_row W g t ty old cells hg hi hold h1]
theorem p_one (a b c : Value) (ha : a.oneCell' = true) (hb : b.oneCell' = true) (hc : c.oneCell' = true) : (#[a, b, c] : Array Value).all (·.oneCell') = true := by simp [ha, hb, hc]
def srt (q : Prj) (tested : List Int) : Bool := decide (q.f2 > 0) && decide (q.f1.getD 0 0 ∈ tested)
def betterP (x y : Prj) (tested : List Int) : Bool := if srt x tested != srt y tested then srt x tested else decide (x.f1.length < y.f1.length)
theorem rhas_l0 (l : List Int) (hl : l.length ≤ 1000000) (n : Int) (d : Nat) : ∀ i : Nat, i + d = l.length → Ev (fun k => peristyleref32_has.l0 k l n (i : Int)) (decide (n ∈ l.drop i)) := by
  induction d with
  | zero =>
    intro i hi
    refine Ev.step (f := fun _ => some (decide (n ∈ l.drop i))) (fun k => ?_) (Ev.now _)
    rw [peristyleref32_has.l0, if_neg (by omega), List.drop_of_length_le (by omega)]
    simp
  | succ d ih =>
    intro i hi
    have hlt : i < l.length := by omega
    by_cases hx : l[i] = n
    · refine Ev.step (f := fun _ => some (decide (n ∈ l.drop i))) (fun k => ?_) (Ev.now _)
      rw [peristyleref32_has.l0, if_pos (by omega), if_pos (by omega), rd_at l i hlt, if_pos hx, List.drop_eq_getElem_cons hlt]
      simp [hx]
    · refine Ev.step (f := fun k => peristyleref32_has.l0 k l n ((i + 1 : Nat) : Int)) (fun k => ?_) ?_
      · rw [peristyleref32_has.l0, if_pos (by omega), if_pos (by omega), rd_at l i hlt, if_neg hx, w64 i (by omega)]
      · have e : decide (n ∈ l.drop i) = decide (n ∈ l.drop (i + 1)) := by
          rw [List.drop_eq_getElem_cons hlt]
          have : ¬ n = l[i] := fun e => hx e.symm
          simp only [List.mem_cons, this, false_or]
        rw [e]
        exact ih (i + 1) (by omega)
theorem rhas_ev (l : List Int) (hl : l.length ≤ 1000000) (n : Int) : Ev (fun k => peristyleref32_has.f k l n) (decide (n ∈ l)) := by
  have := rhas_l0 l hl n l.length 0 (Nat.zero_add _)
  rw [List.drop_zero] at this
  exact this
theorem at0 {w : World} {A : Option Addr} {l : List Int} (h : Kd.C (Kd.int .i64) w A l.length l) (h1 : 1 ≤ l.length) : ∃ a, A = some a ∧ w.cell? a = some (.int .i64 (l.getD 0 0)) := by
  obtain ⟨a, hA, hx⟩ := Kd.at_int h (0 : Int) (by omega) (by omega)
  have e0 : a.add (Int.toNat 0) = a := by unfold Addr.add; simp
  rw [e0] at hx
  exact ⟨a, hA, hx⟩
theorem srt_has (l : List Int) (hl : l.length ≤ 1000000) (x : Prj) (x0 : Int) (s : Bool) (h0 : x.f1.getD 0 0 = x0) (hs : srt x l = s) : ∃ k, Aside0 (0 < x.f2 → peristyleref32_has.f k l x0 = some s) ∧ Aside0 (x.f2 ≤ 0 → s = false) := by
  obtain ⟨k, hk⟩ := (rhas_ev l hl x0).rounds
  refine ⟨k, ⟨fun h => ?_⟩, ⟨fun h => ?_⟩⟩
  · rw [hk, ← hs, ← h0]
    unfold srt
    simp [h]
  · rw [← hs]
    unfold srt
    simp [Int.not_lt.2 h]
set_option maxHeartbeats 2000000 in
set_option maxRecDepth 100000 in
theorem better_calls {w : World} {t : Tab} {At : Option Addr} {ct : Nat} {Bt : Option Addr} {dt : Nat} (H : TA w t At ct Bt dt) (p o : Nat) (hp : p < t.f2.length) (ho : o < t.f2.length) (h1p : 1 ≤ (t.f2[p]).f1.length) (h1o : 1 ≤ (t.f2[o]).f1.length) (tested : List Int) (As : Option Addr) (cs : Nat) (hs : Kd.C (Kd.int .i64) w As tested.length tested) (hcs : tested.length ≤ cs) (hsl : tested.length ≤ 1000000) :
    Calls Try.prog 84 #[.agg #[.string t.f0, .slice At t.f1.length ct, .slice Bt t.f2.length dt], .int .i64 (p : Int), .int .i64 (o : Int), .slice As tested.length cs] w fun e w' => e = .returned (.bool (betterP t.f2[p] t.f2[o] tested)) ∧ Below w.heap.size w w' := by
  obtain ⟨ad, Ax, cx, rfl, hcx, hlx, hCx⟩ := at_prj H p hp
  obtain ⟨ad', Ay, cy, hA', hcy, hly, hCy⟩ := at_prj H o ho
  injection hA' with hA'
  subst hA'
  obtain ⟨x, hx⟩ : ∃ x, t.f2[p] = x := ⟨_, rfl⟩
  obtain ⟨y, hy⟩ : ∃ y, t.f2[o] = y := ⟨_, rfl⟩
  rw [hx] at hcx hlx hCx h1p
  rw [hy] at hcy hly hCy h1o
  rw [hx, hy]
  have hpl := H.g.p
  obtain ⟨ax, rfl, hx0⟩ := at0 hCx h1p
  obtain ⟨ay, rfl, hy0⟩ := at0 hCy h1o
  obtain ⟨x0, hxx⟩ : ∃ z, x.f1.getD 0 0 = z := ⟨_, rfl⟩
  obtain ⟨y0, hyy⟩ : ∃ z, y.f1.getD 0 0 = z := ⟨_, rfl⟩
  rw [hxx] at hx0
  rw [hyy] at hy0
  have hx00 : 0 < x.f1.length := h1p
  have hy00 : 0 < y.f1.length := h1o
  have hxl := (H.g.ps x (hx ▸ List.getElem_mem hp)).2
  have hyl := (H.g.ps y (hy ▸ List.getElem_mem ho)).2
  obtain ⟨sx, hsx⟩ : ∃ z, srt x tested = z := ⟨_, rfl⟩
  obtain ⟨sy, hsy⟩ : ∃ z, srt y tested = z := ⟨_, rfl⟩
  have HRES : Aside0 (betterP x y tested = if sx != sy then sx else decide (x.f1.length < y.f1.length)) := ⟨by unfold betterP; rw [hsx, hsy]⟩
  obtain ⟨kx, HKX, HNX⟩ := srt_has tested hsl x x0 sx hxx hsx
  obtain ⟨ky, HKY, HNY⟩ := srt_has tested hsl y y0 sy hyy hsy
  have HX0 := Aside0.mk hx0
  have HY0 := Aside0.mk hy0
  have HCX0 := Aside0.mk hcx
  have HCY0 := Aside0.mk hcy
  have HXC := Aside0.mk hCx
  have HYC := Aside0.mk hCy
  have HS := Aside0.mk hs
  clear hcx hcy hCx hCy hs H hx hy hx0 hy0 hxx hyy hsx hsy
  go_enter Try.func84, Try.ntmps84
  go_wp2_with (first | ((with_reducible refine gate_dst (N := 4) rfl ?_); refine box_event rfl (N := 4) rfl (cs := #[.string t.f0, .slice At t.f1.length ct, .slice (some ad) t.f2.length dt]) (t := TT) ?hr ?_; (case hr => first | (go_simp; done) | (go_simp; rfl)); intro b4 hg4 w1 hb4 hB4; have HB4x := Aside0.mk hB4; have HC2 : Aside0 (w1.cell? ⟨b4, 2, none⟩ = some (.slice (some ad) t.f2.length dt)) := ⟨(cell_of_row w1 b4 2 _ _ _ hb4).trans rfl⟩; clear hg4 hb4 hB4))
  have HCX : Aside0 (∀ j v, ([.string x.f0, .slice (some ax) x.f1.length cx, .int .i64 x.f2] : List Value)[j]? = some v → w1.cell? ((ad.add (p * 3)).add j) = some v) := ⟨fun j v hv => pw_cell_below HB4x.out (HCX0.out j v hv)⟩
  have HCY : Aside0 (∀ j v, ([.string y.f0, .slice (some ay) y.f1.length cy, .int .i64 y.f2] : List Value)[j]? = some v → w1.cell? ((ad.add (o * 3)).add j) = some v) := ⟨fun j v hv => pw_cell_below HB4x.out (HCY0.out j v hv)⟩
  refine start_ (n := 14) (S := fun w' => w'.cell? ⟨b4, 2, none⟩ = some (.slice (some ad) t.f2.length dt) ∧ (∀ j v, ([.string x.f0, .slice (some ax) x.f1.length cx, .int .i64 x.f2] : List Value)[j]? = some v → w'.cell? ((ad.add (p * 3)).add j) = some v) ∧ (∀ j v, ([.string y.f0, .slice (some ay) y.f1.length cy, .int .i64 y.f2] : List Value)[j]? = some v → w'.cell? ((ad.add (o * 3)).add j) = some v)) (ds := [13]) #[Z,Z,Z,Z,Z,Z,Z,Z,Z,Z,Z,Z,Z,Z] (by kernel_rfl) rfl rfl (⟨HC2.out, HCX.out, HCY.out⟩) (fun hHeld => ?_)
  refine pure_ (i := 0) (N := (some 13)) (v := ?_) (a' := ?_) #[Y,Z,Z,Z,Z,Z,Z,Z,Z,Z,Z,Z,Z,Z] rfl rfl (by kernel_rfl) (fun _ _ _ h => h) (Or.inl ⟨by rfl, ?_⟩) ?_ ?_
  rotate_left
  · intro w'
    go_simp
    with_reducible rfl
  rotate_left
  · simp only [Act.put, List.setIfInBounds_toArray, List.set_cons_zero, List.set_cons_succ, i64_w, i32_w]
    rfl
  refine take_ (i := 1) (N := (some 14)) (v := ?_) (a' := ?_) #[Y,Y,Z,Z,Z,Z,Z,Z,Z,Z,Z,Z,Z,Z] rfl rfl (by kernel_rfl) (fun _ _ _ h => h) (Or.inl ⟨by rfl, ?_⟩) hHeld ?_ ?_
  rotate_left
  · intro w' s0
    go_simp
    with_reducible rfl
  rotate_left
  · simp only [Act.put, List.setIfInBounds_toArray, List.set_cons_zero, List.set_cons_succ, i64_w, i32_w]
    rfl
  refine pure_ (i := 2) (N := (some 15)) (v := ?_) (a' := ?_) #[Y,Y,Y,Z,Z,Z,Z,Z,Z,Z,Z,Z,Z,Z] rfl rfl (by kernel_rfl) (fun _ _ _ h => h) (Or.inl ⟨by rfl, ?_⟩) ?_ ?_
  rotate_left
  · intro w'
    go_simp
    with_reducible rfl
  rotate_left
  · simp only [Act.put, List.setIfInBounds_toArray, List.set_cons_zero, List.set_cons_succ, i64_w, i32_w]
    rfl
  refine pure_ (i := 3) (N := (some 16)) (v := ?_) (a' := ?_) #[Y,Y,Y,Y,Z,Z,Z,Z,Z,Z,Z,Z,Z,Z] rfl rfl (by kernel_rfl) (fun _ _ _ h => h) (Or.inl ⟨by rfl, ?_⟩) ?_ ?_
  rotate_left
  · intro w'
    go_simp
    with_reducible rfl
  rotate_left
  · simp only [Act.put, List.setIfInBounds_toArray, List.set_cons_zero, List.set_cons_succ, i64_w, i32_w]
    rfl
  refine take_ (i := 4) (N := (some 17)) (v := .agg #[.string x.f0, .slice (some ax) x.f1.length cx, .int .i64 x.f2]) (a' := ?_) #[Y,Y,Y,Y,Y,Z,Z,Z,Z,Z,Z,Z,Z,Z] rfl rfl (by kernel_rfl) (fun _ _ _ h => h) (yieldsIf_load_any (by rfl) TP (.tmp 16) rfl (ad.add (p * 3)) rfl [.string x.f0, .slice (some ax) x.f1.length cx, .int .i64 x.f2] (fun w (h : _ ∧ _ ∧ _) => h.2.1) _ Try.underlying138 rfl size_P) hHeld ?_ ?_
  rotate_left
  · simp only [Act.put, List.setIfInBounds_toArray, List.set_cons_zero, List.set_cons_succ, i64_w, i32_w]
    rfl
  refine pure_ (i := 5) (N := (some 18)) (v := ?_) (a' := ?_) #[Y,Y,Y,Y,Y,Y,Z,Z,Z,Z,Z,Z,Z,Z] rfl rfl (by kernel_rfl) (fun _ _ _ h => h) (Or.inl ⟨by rfl, ?_⟩) ?_ ?_
  rotate_left
  · intro w'
    go_simp
    with_reducible rfl
  rotate_left
  · simp only [Act.put, List.setIfInBounds_toArray, List.set_cons_zero, List.set_cons_succ, i64_w, i32_w]
    rfl
  refine take_ (i := 6) (N := (some 19)) (v := ?_) (a' := ?_) #[Y,Y,Y,Y,Y,Y,Y,Z,Z,Z,Z,Z,Z,Z] rfl rfl (by kernel_rfl) (fun _ _ _ h => h) (Or.inl ⟨by rfl, ?_⟩) hHeld ?_ ?_
  rotate_left
  · intro w' s0
    go_simp
    with_reducible rfl
  rotate_left
  · simp only [Act.put, List.setIfInBounds_toArray, List.set_cons_zero, List.set_cons_succ, i64_w, i32_w]
    rfl
  refine pure_ (i := 7) (N := (some 20)) (v := ?_) (a' := ?_) #[Y,Y,Y,Y,Y,Y,Y,Y,Z,Z,Z,Z,Z,Z] rfl rfl (by kernel_rfl) (fun _ _ _ h => h) (Or.inl ⟨by rfl, ?_⟩) ?_ ?_
  rotate_left
  · intro w'
    go_simp
    with_reducible rfl
  rotate_left
  · simp only [Act.put, List.setIfInBounds_toArray, List.set_cons_zero, List.set_cons_succ, i64_w, i32_w]
    rfl
  refine pure_ (i := 8) (N := (some 21)) (v := ?_) (a' := ?_) #[Y,Y,Y,Y,Y,Y,Y,Y,Y,Z,Z,Z,Z,Z] rfl rfl (by kernel_rfl) (fun _ _ _ h => h) (Or.inl ⟨by rfl, ?_⟩) ?_ ?_
  rotate_left
  · intro w'
    go_simp
    with_reducible rfl
  rotate_left
  · simp only [Act.put, List.setIfInBounds_toArray, List.set_cons_zero, List.set_cons_succ, i64_w, i32_w]
    rfl
  refine take_ (i := 9) (N := (some 22)) (v := .agg #[.string y.f0, .slice (some ay) y.f1.length cy, .int .i64 y.f2]) (a' := ?_) #[Y,Y,Y,Y,Y,Y,Y,Y,Y,Y,Z,Z,Z,Z] rfl rfl (by kernel_rfl) (fun _ _ _ h => h) (yieldsIf_load_any (by rfl) TP (.tmp 21) rfl (ad.add (o * 3)) rfl [.string y.f0, .slice (some ay) y.f1.length cy, .int .i64 y.f2] (fun w (h : _ ∧ _ ∧ _) => h.2.2) _ Try.underlying138 rfl size_P) hHeld ?_ ?_
  rotate_left
  · simp only [Act.put, List.setIfInBounds_toArray, List.set_cons_zero, List.set_cons_succ, i64_w, i32_w]
    rfl
  refine two_ (i := 10) (j := 11) (Ni := (some 9)) (Nj := (some 10)) #[Y,Y,Y,Y,Y,Y,Y,Y,Y,Y,Y,Z,Z,Z] #[Y,Y,Y,Y,Y,Y,Y,Y,Y,Y,Z,Y,Z,Z] rfl rfl rfl rfl (by kernel_rfl) (by decide) (by decide) (fun K hK => ?_) (fun K hK => ?_)
  · skip
    refine value_ (w1 := w1.drew.alloc (.cells #[.string ⟨#[]⟩, .slice none 0 0, .int .i64 0] TP (0, 0))) (v := .pointer (some ⟨w1.drew.heap.size, 0, none⟩)) (by rfl) rfl (run_alloc_P rfl) ?_
    obtain ⟨w2, hwb9⟩ : ∃ x, x = w1.drew.alloc (.cells #[.string ⟨#[]⟩, .slice none 0 0, .int .i64 0] TP (0, 0)) := ⟨_, rfl⟩
    obtain ⟨b9, hbb9⟩ : ∃ x, x = w1.drew.heap.size := ⟨_, rfl⟩
    rw [← hwb9, ← hbb9]
    have hBeb9 : Below w1.drew.heap.size w1.drew w2 := by rw [hwb9]; exact below_alloc (Below.refl _ _) _
    have HXeb9 : Aside0 (w2.heap[b9]? = some (.cells #[.string ⟨#[]⟩, .slice none 0 0, .int .i64 0] TP (0, 0))) := ⟨by rw [hwb9, hbb9]; exact blk_new _ _⟩
    have HGb9 : Aside0 (w1.drew.heap.size ≤ b9) := ⟨Nat.le_of_eq hbb9.symm⟩
    clear hbb9
    have HB2 : Aside0 (Below w1.heap.size w1 w2) := ⟨below_then (below_drew (Below.refl _ _)) (Nat.le_refl _) hBeb9⟩
    refine hK.out _ _ ⟨pw_cell_below HB2.out HC2.out, fun j v hv => pw_cell_below HB2.out (HCX.out j v hv), fun j v hv => pw_cell_below HB2.out (HCY.out j v hv)⟩ (fun hHeld => ?_)
    clear hwb9
    clear hK K
    refine norm_ (a' := ?_) ?_ ?_
    rotate_left
    · show Act.put _ (some 9) _ = _
      simp only [Act.put, List.setIfInBounds_toArray, List.set_cons_zero, List.set_cons_succ, i64_w, i32_w]
      rfl
    refine one_ (i := 11) (N := (some 10)) #[Y,Y,Y,Y,Y,Y,Y,Y,Y,Y,Y,Y,Z,Z] rfl rfl (by kernel_rfl) (by decide) (fun K hK => ?_)
    refine value_ (w1 := w2.alloc (.cells #[.string ⟨#[]⟩, .slice none 0 0, .int .i64 0] TP (0, 0))) (v := .pointer (some ⟨w2.heap.size, 0, none⟩)) (by rfl) rfl (run_alloc_P rfl) ?_
    obtain ⟨w3, hwb10⟩ : ∃ x, x = w2.alloc (.cells #[.string ⟨#[]⟩, .slice none 0 0, .int .i64 0] TP (0, 0)) := ⟨_, rfl⟩
    obtain ⟨b10, hbb10⟩ : ∃ x, x = w2.heap.size := ⟨_, rfl⟩
    rw [← hwb10, ← hbb10]
    have hBeb10 : Below w2.heap.size w2 w3 := by rw [hwb10]; exact below_alloc (Below.refl _ _) _
    have HXeb10 : Aside0 (w3.heap[b10]? = some (.cells #[.string ⟨#[]⟩, .slice none 0 0, .int .i64 0] TP (0, 0))) := ⟨by rw [hwb10, hbb10]; exact blk_new _ _⟩
    have HGb10 : Aside0 (w2.heap.size ≤ b10) := ⟨Nat.le_of_eq hbb10.symm⟩
    clear hbb10
    have HB3 : Aside0 (Below w1.heap.size w1 w3) := ⟨below_step HB2.out hBeb10⟩
    refine hK.out _ _ ⟨pw_cell_below HB3.out HC2.out, fun j v hv => pw_cell_below HB3.out (HCX.out j v hv), fun j v hv => pw_cell_below HB3.out (HCY.out j v hv)⟩ (fun hHeld => ?_)
    clear hwb10
    clear hK K
    refine norm_ (a' := ?_) ?_ ?_
    rotate_left
    · show Act.put _ (some 10) _ = _
      simp only [Act.put, List.setIfInBounds_toArray, List.set_cons_zero, List.set_cons_succ, i64_w, i32_w]
      rfl
    have HXb9 := Aside0.mk (blk_below HXeb9.out hBeb10)
    have HXb10 := HXeb10
    have hne : b9 ≠ b10 := by have h1 := blk_lt HXeb9.out; have h2 := HGb10.out; omega
    have HG9 : Aside0 (w1.heap.size ≤ b9 ∧ w1.heap.size ≤ b10) := ⟨by have h0 : w1.drew.heap.size = w1.heap.size := rfl; have h1 := hBeb9.size; have h2 := HGb9.out; have h3 := HGb10.out; constructor <;> omega⟩
    refine one_ (i := 12) (N := none) #[Y,Y,Y,Y,Y,Y,Y,Y,Y,Y,Y,Y,Y,Z] rfl rfl (by kernel_rfl) (by decide) (fun K hK => ?_)
    refine skip_ (w1 := w3.setRow b9 #[.string x.f0, .slice (some ax) x.f1.length cx, .int .i64 x.f2]) (by rfl) rfl (run_store_rowP TP (.tmp 9) (.tmp 17) rfl b9 #[.string x.f0, .slice (some ax) x.f1.length cx, .int .i64 x.f2] rfl rfl TP _ HXb9.out size_P rfl (p_one _ _ _ rfl rfl rfl)) ?_
    have hr4 := rowSet_mk (cells := #[.string x.f0, .slice (some ax) x.f1.length cx, .int .i64 x.f2]) HXb9.out
    obtain ⟨w4, hw4⟩ : ∃ W, W = w3.setRow b9 #[.string x.f0, .slice (some ax) x.f1.length cx, .int .i64 x.f2] := ⟨_, rfl⟩
    rw [← hw4] at hr4 ⊢
    have HX104 := Aside0.mk ((hr4.other b10 (Ne.symm hne)).trans HXb10.out)
    have HX94 := Aside0.mk hr4.at_
    have HB4 := Aside0.mk (hr4.below HB3.out HG9.out.1)
    refine hK.out _ _ ⟨pw_cell_below HB4.out HC2.out, fun j v hv => pw_cell_below HB4.out (HCX.out j v hv), fun j v hv => pw_cell_below HB4.out (HCY.out j v hv)⟩ (fun hHeld => ?_)
    clear hK K hw4 hr4
    refine last_ (i := 13) (N := none) #[Y,Y,Y,Y,Y,Y,Y,Y,Y,Y,Y,Y,Y,Y] rfl rfl (by kernel_rfl) (by decide) (fun K hK => ?_)
    refine skip_ (w1 := w4.setRow b10 #[.string y.f0, .slice (some ay) y.f1.length cy, .int .i64 y.f2]) (by rfl) rfl (run_store_rowP TP (.tmp 10) (.tmp 22) rfl b10 #[.string y.f0, .slice (some ay) y.f1.length cy, .int .i64 y.f2] rfl rfl TP _ HX104.out size_P rfl (p_one _ _ _ rfl rfl rfl)) ?_
    have hr5 := rowSet_mk (cells := #[.string y.f0, .slice (some ay) y.f1.length cy, .int .i64 y.f2]) HX104.out
    obtain ⟨w5, hw5⟩ : ∃ W, W = w4.setRow b10 #[.string y.f0, .slice (some ay) y.f1.length cy, .int .i64 y.f2] := ⟨_, rfl⟩
    rw [← hw5] at hr5 ⊢
    have HX95 := Aside0.mk ((hr5.other b9 hne).trans HX94.out)
    have HX105 := Aside0.mk hr5.at_
    have HB5 := Aside0.mk (hr5.below HB4.out HG9.out.2)
    refine hK.out _ _ ?_
    clear hK K hw5 hr5
    refine done_ (by kernel_rfl) ?_
    have c92 : w5.cell? ⟨b9, 2, none⟩ = some (.int .i64 x.f2) := (cell_of_row w5 b9 2 _ _ _ HX95.out).trans rfl
    have c91 : w5.cell? ⟨b9, 1, none⟩ = some (.slice (some ax) x.f1.length cx) := (cell_of_row w5 b9 1 _ _ _ HX95.out).trans rfl
    have c102 : w5.cell? ⟨b10, 2, none⟩ = some (.int .i64 y.f2) := (cell_of_row w5 b10 2 _ _ _ HX105.out).trans rfl
    have c101 : w5.cell? ⟨b10, 1, none⟩ = some (.slice (some ay) y.f1.length cy) := (cell_of_row w5 b10 1 _ _ _ HX105.out).trans rfl
    have HBB := Aside0.mk (below_step HB4x.out HB5.out)
    have HSx := Aside0.mk (Kd.C_below HS.out HBB.out)
    have cx0 := pw_cell_below HBB.out HX0.out
    have cy0 := pw_cell_below HBB.out HY0.out
    clear hne HX94 HX95 HX104 HX105 HB2 HB3 HB4 HB5 HCX HCY HC2 HG9
    by_cases hx2 : 0 < x.f2
    · have gx : decide (x.f2 > 0) = true := decide_eq_true hx2
      have HKx := Aside0.mk (HKX.out hx2)
      clear hx2
      go_wp2_with fail
      refine (peristyleref32_has.calls kx As cs tested x0 sx _ HSx.out hcs HKx.out).mono ?_
      rintro e w6 ⟨rfl, hd⟩
      have c92 := pw_cell_below hd.below c92
      have c91 := pw_cell_below hd.below c91
      have c102 := pw_cell_below hd.below c102
      have c101 := pw_cell_below hd.below c101
      have cx0 := pw_cell_below hd.below cx0
      have cy0 := pw_cell_below hd.below cy0
      have HSx := Aside0.mk (Kd.C_below HSx.out hd.below)
      have HBB := Aside0.mk (below_step HBB.out hd.below)
      clear hd
      by_cases hy2 : 0 < y.f2
      · have gy : decide (y.f2 > 0) = true := decide_eq_true hy2
        have HKy := Aside0.mk (HKY.out hy2)
        clear hy2
        go_wp2_with fail
        refine (peristyleref32_has.calls ky As cs tested y0 sy _ HSx.out hcs HKy.out).mono ?_
        rintro e w7 ⟨rfl, hd⟩
        have c92 := pw_cell_below hd.below c92
        have c91 := pw_cell_below hd.below c91
        have c102 := pw_cell_below hd.below c102
        have c101 := pw_cell_below hd.below c101
        have cx0 := pw_cell_below hd.below cx0
        have cy0 := pw_cell_below hd.below cy0
        have HSx := Aside0.mk (Kd.C_below HSx.out hd.below)
        have HBB := Aside0.mk (below_step HBB.out hd.below)
        clear hd
        cases sx
        · cases sy
          · have HR := HRES.out
            go_wp2_with fail
            go_ret
            exact ⟨by first | (rw [HR]; rfl) | rfl, HBB.out⟩
          · have HR := HRES.out
            go_wp2_with fail
            go_ret
            exact ⟨by first | (rw [HR]; rfl) | rfl, HBB.out⟩
        · cases sy
          · have HR := HRES.out
            go_wp2_with fail
            go_ret
            exact ⟨by first | (rw [HR]; rfl) | rfl, HBB.out⟩
          · have HR := HRES.out
            go_wp2_with fail
            go_ret
            exact ⟨by first | (rw [HR]; rfl) | rfl, HBB.out⟩
      · have gy : decide (y.f2 > 0) = false := decide_eq_false hy2
        obtain ⟨H0y⟩ : Aside0 (sy = false) := ⟨HNY.out (Int.not_lt.1 hy2)⟩
        subst H0y
        clear hy2
        cases sx
        · have HR := HRES.out
          go_wp2_with fail
          go_ret
          exact ⟨by first | (rw [HR]; rfl) | rfl, HBB.out⟩
        · have HR := HRES.out
          go_wp2_with fail
          go_ret
          exact ⟨by first | (rw [HR]; rfl) | rfl, HBB.out⟩
    · have gx : decide (x.f2 > 0) = false := decide_eq_false hx2
      obtain ⟨H0x⟩ : Aside0 (sx = false) := ⟨HNX.out (Int.not_lt.1 hx2)⟩
      subst H0x
      clear hx2
      by_cases hy2 : 0 < y.f2
      · have gy : decide (y.f2 > 0) = true := decide_eq_true hy2
        have HKy := Aside0.mk (HKY.out hy2)
        clear hy2
        go_wp2_with fail
        refine (peristyleref32_has.calls ky As cs tested y0 sy _ HSx.out hcs HKy.out).mono ?_
        rintro e w7 ⟨rfl, hd⟩
        have c92 := pw_cell_below hd.below c92
        have c91 := pw_cell_below hd.below c91
        have c102 := pw_cell_below hd.below c102
        have c101 := pw_cell_below hd.below c101
        have cx0 := pw_cell_below hd.below cx0
        have cy0 := pw_cell_below hd.below cy0
        have HSx := Aside0.mk (Kd.C_below HSx.out hd.below)
        have HBB := Aside0.mk (below_step HBB.out hd.below)
        clear hd
        cases sy
        · have HR := HRES.out
          go_wp2_with fail
          go_ret
          exact ⟨by first | (rw [HR]; rfl) | rfl, HBB.out⟩
        · have HR := HRES.out
          go_wp2_with fail
          go_ret
          exact ⟨by first | (rw [HR]; rfl) | rfl, HBB.out⟩
      · have gy : decide (y.f2 > 0) = false := decide_eq_false hy2
        obtain ⟨H0y⟩ : Aside0 (sy = false) := ⟨HNY.out (Int.not_lt.1 hy2)⟩
        subst H0y
        clear hy2
        have HR := HRES.out
        go_wp2_with fail
        go_ret
        exact ⟨by first | (rw [HR]; rfl) | rfl, HBB.out⟩
  · skip
    refine value_ (w1 := w1.drew.alloc (.cells #[.string ⟨#[]⟩, .slice none 0 0, .int .i64 0] TP (0, 0))) (v := .pointer (some ⟨w1.drew.heap.size, 0, none⟩)) (by rfl) rfl (run_alloc_P rfl) ?_
    obtain ⟨w2, hwb10⟩ : ∃ x, x = w1.drew.alloc (.cells #[.string ⟨#[]⟩, .slice none 0 0, .int .i64 0] TP (0, 0)) := ⟨_, rfl⟩
    obtain ⟨b10, hbb10⟩ : ∃ x, x = w1.drew.heap.size := ⟨_, rfl⟩
    rw [← hwb10, ← hbb10]
    have hBeb10 : Below w1.drew.heap.size w1.drew w2 := by rw [hwb10]; exact below_alloc (Below.refl _ _) _
    have HXeb10 : Aside0 (w2.heap[b10]? = some (.cells #[.string ⟨#[]⟩, .slice none 0 0, .int .i64 0] TP (0, 0))) := ⟨by rw [hwb10, hbb10]; exact blk_new _ _⟩
    have HGb10 : Aside0 (w1.drew.heap.size ≤ b10) := ⟨Nat.le_of_eq hbb10.symm⟩
    clear hbb10
    have HB2 : Aside0 (Below w1.heap.size w1 w2) := ⟨below_then (below_drew (Below.refl _ _)) (Nat.le_refl _) hBeb10⟩
    refine hK.out _ _ ⟨pw_cell_below HB2.out HC2.out, fun j v hv => pw_cell_below HB2.out (HCX.out j v hv), fun j v hv => pw_cell_below HB2.out (HCY.out j v hv)⟩ (fun hHeld => ?_)
    clear hwb10
    clear hK K
    refine norm_ (a' := ?_) ?_ ?_
    rotate_left
    · show Act.put _ (some 10) _ = _
      simp only [Act.put, List.setIfInBounds_toArray, List.set_cons_zero, List.set_cons_succ, i64_w, i32_w]
      rfl
    refine one_ (i := 10) (N := (some 9)) #[Y,Y,Y,Y,Y,Y,Y,Y,Y,Y,Y,Y,Z,Z] rfl rfl (by kernel_rfl) (by decide) (fun K hK => ?_)
    refine value_ (w1 := w2.alloc (.cells #[.string ⟨#[]⟩, .slice none 0 0, .int .i64 0] TP (0, 0))) (v := .pointer (some ⟨w2.heap.size, 0, none⟩)) (by rfl) rfl (run_alloc_P rfl) ?_
    obtain ⟨w3, hwb9⟩ : ∃ x, x = w2.alloc (.cells #[.string ⟨#[]⟩, .slice none 0 0, .int .i64 0] TP (0, 0)) := ⟨_, rfl⟩
    obtain ⟨b9, hbb9⟩ : ∃ x, x = w2.heap.size := ⟨_, rfl⟩
    rw [← hwb9, ← hbb9]
    have hBeb9 : Below w2.heap.size w2 w3 := by rw [hwb9]; exact below_alloc (Below.refl _ _) _
    have HXeb9 : Aside0 (w3.heap[b9]? = some (.cells #[.string ⟨#[]⟩, .slice none 0 0, .int .i64 0] TP (0, 0))) := ⟨by rw [hwb9, hbb9]; exact blk_new _ _⟩
    have HGb9 : Aside0 (w2.heap.size ≤ b9) := ⟨Nat.le_of_eq hbb9.symm⟩
    clear hbb9
    have HB3 : Aside0 (Below w1.heap.size w1 w3) := ⟨below_step HB2.out hBeb9⟩
    refine hK.out _ _ ⟨pw_cell_below HB3.out HC2.out, fun j v hv => pw_cell_below HB3.out (HCX.out j v hv), fun j v hv => pw_cell_below HB3.out (HCY.out j v hv)⟩ (fun hHeld => ?_)
    clear hwb9
    clear hK K
    refine norm_ (a' := ?_) ?_ ?_
    rotate_left
    · show Act.put _ (some 9) _ = _
      simp only [Act.put, List.setIfInBounds_toArray, List.set_cons_zero, List.set_cons_succ, i64_w, i32_w]
      rfl
    have HXb10 := Aside0.mk (blk_below HXeb10.out hBeb9)
    have HXb9 := HXeb9
    have hne : b9 ≠ b10 := by have h1 := blk_lt HXeb10.out; have h2 := HGb9.out; omega
    have HG9 : Aside0 (w1.heap.size ≤ b9 ∧ w1.heap.size ≤ b10) := ⟨by have h0 : w1.drew.heap.size = w1.heap.size := rfl; have h1 := hBeb10.size; have h2 := HGb9.out; have h3 := HGb10.out; constructor <;> omega⟩
    refine one_ (i := 12) (N := none) #[Y,Y,Y,Y,Y,Y,Y,Y,Y,Y,Y,Y,Y,Z] rfl rfl (by kernel_rfl) (by decide) (fun K hK => ?_)
    refine skip_ (w1 := w3.setRow b9 #[.string x.f0, .slice (some ax) x.f1.length cx, .int .i64 x.f2]) (by rfl) rfl (run_store_rowP TP (.tmp 9) (.tmp 17) rfl b9 #[.string x.f0, .slice (some ax) x.f1.length cx, .int .i64 x.f2] rfl rfl TP _ HXb9.out size_P rfl (p_one _ _ _ rfl rfl rfl)) ?_
    have hr4 := rowSet_mk (cells := #[.string x.f0, .slice (some ax) x.f1.length cx, .int .i64 x.f2]) HXb9.out
    obtain ⟨w4, hw4⟩ : ∃ W, W = w3.setRow b9 #[.string x.f0, .slice (some ax) x.f1.length cx, .int .i64 x.f2] := ⟨_, rfl⟩
    rw [← hw4] at hr4 ⊢
    have HX104 := Aside0.mk ((hr4.other b10 (Ne.symm hne)).trans HXb10.out)
    have HX94 := Aside0.mk hr4.at_
    have HB4 := Aside0.mk (hr4.below HB3.out HG9.out.1)
    refine hK.out _ _ ⟨pw_cell_below HB4.out HC2.out, fun j v hv => pw_cell_below HB4.out (HCX.out j v hv), fun j v hv => pw_cell_below HB4.out (HCY.out j v hv)⟩ (fun hHeld => ?_)
    clear hK K hw4 hr4
    refine last_ (i := 13) (N := none) #[Y,Y,Y,Y,Y,Y,Y,Y,Y,Y,Y,Y,Y,Y] rfl rfl (by kernel_rfl) (by decide) (fun K hK => ?_)
    refine skip_ (w1 := w4.setRow b10 #[.string y.f0, .slice (some ay) y.f1.length cy, .int .i64 y.f2]) (by rfl) rfl (run_store_rowP TP (.tmp 10) (.tmp 22) rfl b10 #[.string y.f0, .slice (some ay) y.f1.length cy, .int .i64 y.f2] rfl rfl TP _ HX104.out size_P rfl (p_one _ _ _ rfl rfl rfl)) ?_
    have hr5 := rowSet_mk (cells := #[.string y.f0, .slice (some ay) y.f1.length cy, .int .i64 y.f2]) HX104.out
    obtain ⟨w5, hw5⟩ : ∃ W, W = w4.setRow b10 #[.string y.f0, .slice (some ay) y.f1.length cy, .int .i64 y.f2] := ⟨_, rfl⟩
    rw [← hw5] at hr5 ⊢
    have HX95 := Aside0.mk ((hr5.other b9 hne).trans HX94.out)
    have HX105 := Aside0.mk hr5.at_
    have HB5 := Aside0.mk (hr5.below HB4.out HG9.out.2)
    refine hK.out _ _ ?_
    clear hK K hw5 hr5
    refine done_ (by kernel_rfl) ?_
    have c92 : w5.cell? ⟨b9, 2, none⟩ = some (.int .i64 x.f2) := (cell_of_row w5 b9 2 _ _ _ HX95.out).trans rfl
    have c91 : w5.cell? ⟨b9, 1, none⟩ = some (.slice (some ax) x.f1.length cx) := (cell_of_row w5 b9 1 _ _ _ HX95.out).trans rfl
    have c102 : w5.cell? ⟨b10, 2, none⟩ = some (.int .i64 y.f2) := (cell_of_row w5 b10 2 _ _ _ HX105.out).trans rfl
    have c101 : w5.cell? ⟨b10, 1, none⟩ = some (.slice (some ay) y.f1.length cy) := (cell_of_row w5 b10 1 _ _ _ HX105.out).trans rfl
    have HBB := Aside0.mk (below_step HB4x.out HB5.out)
    have HSx := Aside0.mk (Kd.C_below HS.out HBB.out)
    have cx0 := pw_cell_below HBB.out HX0.out
    have cy0 := pw_cell_below HBB.out HY0.out
    clear hne HX94 HX95 HX104 HX105 HB2 HB3 HB4 HB5 HCX HCY HC2 HG9
    by_cases hx2 : 0 < x.f2
    · have gx : decide (x.f2 > 0) = true := decide_eq_true hx2
      have HKx := Aside0.mk (HKX.out hx2)
      clear hx2
      go_wp2_with fail
      refine (peristyleref32_has.calls kx As cs tested x0 sx _ HSx.out hcs HKx.out).mono ?_
      rintro e w6 ⟨rfl, hd⟩
      have c92 := pw_cell_below hd.below c92
      have c91 := pw_cell_below hd.below c91
      have c102 := pw_cell_below hd.below c102
      have c101 := pw_cell_below hd.below c101
      have cx0 := pw_cell_below hd.below cx0
      have cy0 := pw_cell_below hd.below cy0
      have HSx := Aside0.mk (Kd.C_below HSx.out hd.below)
      have HBB := Aside0.mk (below_step HBB.out hd.below)
      clear hd
      by_cases hy2 : 0 < y.f2
      · have gy : decide (y.f2 > 0) = true := decide_eq_true hy2
        have HKy := Aside0.mk (HKY.out hy2)
        clear hy2
        go_wp2_with fail
        refine (peristyleref32_has.calls ky As cs tested y0 sy _ HSx.out hcs HKy.out).mono ?_
        rintro e w7 ⟨rfl, hd⟩
        have c92 := pw_cell_below hd.below c92
        have c91 := pw_cell_below hd.below c91
        have c102 := pw_cell_below hd.below c102
        have c101 := pw_cell_below hd.below c101
        have cx0 := pw_cell_below hd.below cx0
        have cy0 := pw_cell_below hd.below cy0
        have HSx := Aside0.mk (Kd.C_below HSx.out hd.below)
        have HBB := Aside0.mk (below_step HBB.out hd.below)
        clear hd
        cases sx
        · cases sy
          · have HR := HRES.out
            go_wp2_with fail
            go_ret
            exact ⟨by first | (rw [HR]; rfl) | rfl, HBB.out⟩
          · have HR := HRES.out
            go_wp2_with fail
            go_ret
            exact ⟨by first | (rw [HR]; rfl) | rfl, HBB.out⟩
        · cases sy
          · have HR := HRES.out
            go_wp2_with fail
            go_ret
            exact ⟨by first | (rw [HR]; rfl) | rfl, HBB.out⟩
          · have HR := HRES.out
            go_wp2_with fail
            go_ret
            exact ⟨by first | (rw [HR]; rfl) | rfl, HBB.out⟩
      · have gy : decide (y.f2 > 0) = false := decide_eq_false hy2
        obtain ⟨H0y⟩ : Aside0 (sy = false) := ⟨HNY.out (Int.not_lt.1 hy2)⟩
        subst H0y
        clear hy2
        cases sx
        · have HR := HRES.out
          go_wp2_with fail
          go_ret
          exact ⟨by first | (rw [HR]; rfl) | rfl, HBB.out⟩
        · have HR := HRES.out
          go_wp2_with fail
          go_ret
          exact ⟨by first | (rw [HR]; rfl) | rfl, HBB.out⟩
    · have gx : decide (x.f2 > 0) = false := decide_eq_false hx2
      obtain ⟨H0x⟩ : Aside0 (sx = false) := ⟨HNX.out (Int.not_lt.1 hx2)⟩
      subst H0x
      clear hx2
      by_cases hy2 : 0 < y.f2
      · have gy : decide (y.f2 > 0) = true := decide_eq_true hy2
        have HKy := Aside0.mk (HKY.out hy2)
        clear hy2
        go_wp2_with fail
        refine (peristyleref32_has.calls ky As cs tested y0 sy _ HSx.out hcs HKy.out).mono ?_
        rintro e w7 ⟨rfl, hd⟩
        have c92 := pw_cell_below hd.below c92
        have c91 := pw_cell_below hd.below c91
        have c102 := pw_cell_below hd.below c102
        have c101 := pw_cell_below hd.below c101
        have cx0 := pw_cell_below hd.below cx0
        have cy0 := pw_cell_below hd.below cy0
        have HSx := Aside0.mk (Kd.C_below HSx.out hd.below)
        have HBB := Aside0.mk (below_step HBB.out hd.below)
        clear hd
        cases sy
        · have HR := HRES.out
          go_wp2_with fail
          go_ret
          exact ⟨by first | (rw [HR]; rfl) | rfl, HBB.out⟩
        · have HR := HRES.out
          go_wp2_with fail
          go_ret
          exact ⟨by first | (rw [HR]; rfl) | rfl, HBB.out⟩
      · have gy : decide (y.f2 > 0) = false := decide_eq_false hy2
        obtain ⟨H0y⟩ : Aside0 (sy = false) := ⟨HNY.out (Int.not_lt.1 hy2)⟩
        subst H0y
        clear hy2
        have HR := HRES.out
        go_wp2_with fail
        go_ret
        exact ⟨by first | (rw [HR]; rfl) | rfl, HBB.out⟩
end Go.Proofs.Ytgjclhhjigflkab.Sc
