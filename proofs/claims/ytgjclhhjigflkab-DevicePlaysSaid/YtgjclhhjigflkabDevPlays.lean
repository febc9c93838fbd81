/- The walk of law DevicePlays. (Written by genplays.py.) -/
import Derived.Test.YtgjclhhjigflkabDevDoes
import Derived.Test.YtgjclhhjigflkabDevSame
import Derived.Test.YtgjclhhjigflkabMyOpen
import Derived.Test.YtgjclhhjigflkabDx7
namespace Go.Proofs.Ytgjclhhjigflkab.Dev
open Go Go.RowKit Go.Proofs.Ytgjclhhjigflkab.D Go.Proofs.Ytgjclhhjigflkab.MyWords Go.Proofs.Ytgjclhhjigflkab.Hand Go.Proofs.YtgjclhhjigflkabW.PrintWords Go.Proofs.YtgjclhhjigflkabW.PrintLast Go.Proofs.YtgjclhhjigflkabW.PrintMore
set_option linter.unusedVariables false
set_option linter.unusedSimpArgs false
def kAct : Kd Act := Kd.iso (Kd.pair (Kd.int .i64) (Kd.pair (Kd.int .i64) (Kd.pair (Kd.int .u8) (Kd.pair Kd.string (Kd.slice 3 (Kd.int .i64)))))) (fun x : Act => (x.kind, x.at_, x.c, x.text, x.keep))
theorem kAct_open {w : World} {x : Act} {cs : List Value} (h : kAct.K w x cs) : ∃ A c, cs = [.int .i64 x.kind, .int .i64 x.at_, .int .u8 x.c, .string x.text, .slice A x.keep.length c] ∧ x.keep.length ≤ c ∧ Kd.C (Kd.int .i64) w A x.keep.length x.keep := by
  obtain ⟨_, _, rfl, rfl, _, _, rfl, rfl, _, _, rfl, rfl, _, _, rfl, rfl, A, c, rfl, h1, h2⟩ := h
  exact ⟨A, c, rfl, h1, h2⟩
/-- what a call's numbers and texts may be -/
def ActOk (x : Act) : Prop := x.at_ ≤ 9223372036854775807 ∧ x.text.size ≤ 9223372036854775807 ∧ x.keep.length ≤ 9223372036854775807
theorem i64_le {n : Int} (h : (Lit.int .i64 n).wf = true) : n ≤ 9223372036854775807 := by
  simp [Lit.wf] at h
  omega
theorem oAct : MyOpen.Opens Try.prog 48 kAct ActOk := by
  intro H enc w base spare held fuel cs y hy
  obtain ⟨x, h1, h2⟩ := MyOpen.o_iso (f := fun x : Act => (x.kind, x.at_, x.c, x.text, x.keep)) (fun p => (⟨p.1, p.2.1, p.2.2.1, p.2.2.2.1, p.2.2.2.2⟩ : Act)) (fun _ => rfl)
    (MyOpen.o_struct (P := Try.prog) (t := 48) Try.underlying48 (by kernel_rfl)
      (MyOpen.of_cons rfl (by kernel_rfl) (MyOpen.o_int Try.underlying3) (MyOpen.of_cons rfl (by kernel_rfl) (MyOpen.o_int Try.underlying3) (MyOpen.of_cons rfl (by kernel_rfl) (MyOpen.o_int Try.underlying5) (MyOpen.of_cons rfl (by kernel_rfl) (MyOpen.o_string Try.underlying9)
        (MyOpen.of_one rfl (by kernel_rfl) (MyOpen.o_slice Try.underlying33 (by kernel_rfl) (MyOpen.o_int Try.underlying3)))))))) enc w base spare held fuel cs y hy
  have hm : (maxLen : Nat) ≤ 9223372036854775807 := by unfold maxLen; decide
  exact ⟨x, h1, i64_le h2.2.1, Nat.le_trans h2.2.2.2.1 hm, Nat.le_trans h2.2.2.2.2.1 hm⟩
section
variable {P : Program} {ops : Array Oper} {S : World → Prop} {op : Oper} {a : Go.Act}
/-- a struct is loaded, in a region that draws -/
theorem yieldsIf_load_any (hw : Region.wanted op (yielded ops a.tmps) = true) (ty : TypeId) (x : Operand) (ho : op.op = .load ty x) (ad : Addr) (hx : a.eval x = .pointer (some ad)) (c : List Value)
    (hS : ∀ w, S w → ∀ j v, c[j]? = some v → w.cell? (ad.add j) = some v) (d : TypeDesc) (hu : P.underlying ty = some d) (hd : (match d with | .struct _ | .array _ _ => true | _ => false) = true) (hi : (P.info? ty).map (·.size) = some c.length) : YieldsIf P ops S op (.agg c.toArray) a :=
  .inl ⟨hw, fun w hw' => by
    have hl := run_loadCells_list (P := P) w ad c (hS w hw')
    cases hq : P.info? ty with
    | none => simp [hq] at hi
    | some i =>
      have hs : i.size = c.length := by simpa [hq] using hi
      have hagg : (isAgg ty).run P w = .ok true w := by
        unfold isAgg
        rw [Sem.run_bind, run_underlying hu w]
        cases d <;> simp_all
      have hv : (loadVar ty ad).run P w = .ok (.agg c.toArray) w := by simp [loadVar, Sem.run_bind, hagg, sizeOf, typeInfo, hq, hs, hl]
      unfold execOp
      simp only [ho, hx, Instr.loadAt, Instr.sureAddr, Sem.run_bind, Sem.run_pure, Result.andThen_ok, hv]⟩
end
theorem run_alloc_Q {e : Operand → Value} {o : Oper} {W : World} (ho : o.op = .alloc TQ) : (execOp e o).run Try.prog W = .ok (.value (.pointer (some ⟨W.heap.size, 0, none⟩))) (W.alloc (.cells #[.slice none 0 0, .slice none 0 0, .int .i64 0, .bool false] TQ (0, 0))) := by
  unfold execOp
  simp only [ho]
  kernel_rfl
theorem and15 (x : Int) : Go.bits .and .i64 x 15 = x % 16 := by
  show IntKind.i64.wrap ((BitVec.ofInt 64 x &&& BitVec.ofInt 64 15).toNat : Int) = x % 16
  have e : (BitVec.ofInt 64 x &&& BitVec.ofInt 64 15).toNat = (x % 16).toNat := by
    rw [BitVec.toNat_and, BitVec.toNat_ofInt, BitVec.toNat_ofInt]
    have e2 : ((15 : Int) % ((2 ^ 64 : Nat) : Int)).toNat = 2 ^ 4 - 1 := by decide
    rw [e2, Nat.and_two_pow_sub_one_eq_mod]
    simp only [Nat.reducePow]
    omega
  rw [e, IntKind.wrap_i64]
  omega
theorem prs_start {w0 w1 w2 : World} {g : Nat} {v0 v1 : Value} {D : DS} {okd : Nat → Prop} (hd : At w0 w1 okd g D) (hs : Kd.R Kd.string TS w2 w1.heap.size (fun _ => True) v0 D.sure) (hq : Kd.R kS TV w2 w1.heap.size (fun _ => True) v1 (toS D.wait)) (hb : Below w1.heap.size w1 w2) :
    Prs w0 w2 g v0 v1 D D (fun _ => False) := by
  refine ⟨fun k => okd k ∧ k < w1.heap.size, fun k => w1.heap.size ≤ k ∧ k < w2.heap.size, hd.bound.step hb, ?_, ?_, hd.good, ?_, fun k _ h => h, fun k _ h => h, fun k hk => Nat.lt_of_lt_of_le hk.2 hb.size, fun k hk => hk.2, fun k h => h.elim⟩
  · exact Kd.R_lower (Kd.R_mono (Kd.R_bound hs) (fun k h => ⟨h.2.1, h.2.2.1⟩)) hd.below.size
  · exact Kd.R_lower (Kd.R_mono (Kd.R_bound hq) (fun k h => ⟨h.2.1, h.2.2.1⟩)) hd.below.size
  · intro k h1 h2
    have := h1.2
    omega
set_option maxHeartbeats 4000000 in
set_option maxRecDepth 100000 in
theorem plays_calls (n : Int) (A : Option Addr) (c : Nat) (l : List Act) (w : World) (h0 : Kd.C kAct w A l.length l) (hg : ∀ x ∈ l, ActOk x) (hll : l.length ≤ 9223372036854775807) :
    Calls Try.prog 5 #[.int .i64 n, .slice A l.length c] w fun e w' => e = .returned (.bool true) ∧ Below w.heap.size w w' := by
  have HL := Aside0.mk h0
  have HG := Aside0.mk hg
  clear h0 hg
  obtain ⟨m, hm⟩ : ∃ m : Nat, Go.bits .and .i64 n 15 = (m : Int) := ⟨(n % 16).toNat, by rw [and15]; omega⟩
  have hm16 : m < 16 := by have := and15 n; omega
  have hw16 : (1 : Int) + (m : Int) = ((1 + m : Nat) : Int) := by omega
  obtain ⟨kn, hkn⟩ := (new_ev (1 + m) (by omega) (by omega)).rounds
  have HKN := Aside0.mk hkn
  have HW16 := Aside0.mk hw16
  clear hkn hw16
  go_enter Try.func5, Try.ntmps5
  go_wp2_with fail
  refine (new_at (w0 := w) _ _ (Below.refl _ _) (by omega) (by omega)).mono ?_
  rintro e w1 ⟨g, rfl, ha, hB1⟩
  rw [HW16.out, Int.toNat_natCast] at ha
  have HA := Aside0.mk ha
  have HB1 := Aside0.mk hB1
  clear ha hB1
  go_wp2_with fail
  rw [HW16.out]
  refine (peristyleref04_New.calls kn _ _ _ _ _ _ w1 HKN.out).mono ?_
  rintro e w2 ⟨v0, v1, rfl, hs, hq, hB2⟩
  have HP := Aside0.mk (prs_start HA.out hs hq hB2)
  obtain ⟨D, hD⟩ : ∃ D, newD (1 + m) = D := ⟨_, rfl⟩
  have hwl : D.wait.length ≤ 0 := by rw [← hD]; exact Nat.le_refl _
  rw [hD] at HP ⊢
  obtain ⟨A0, c0, A1, c1, rfl, rfl⟩ := HP.out.sl
  have HWL := Aside0.mk hwl
  clear hs hq hB2 HA HB1 hD HKN HW16 hwl hm
  go_wp2_with (first | ((with_reducible refine gate_dst (N := 8) rfl ?_); refine alloc_event rfl (N := 8) rfl (run_alloc_Q rfl) ?_; intro b8 w3 hg8 hx8 hB3 hz3; have HP3 := Aside0.mk ((HP.out.guard hB3.out (Nat.le_of_eq hg8.out.symm) (blk_lt hx8.out)).less (Y := fun k => k = b8) (fun k hk => .inr hk))) | ((with_reducible refine gate_store (t := TQ) (p := .tmp 8) (x := .tmp 24) rfl ?_); refine row_store_event rfl TQ (.tmp 8) (.tmp 24) rfl b8 #[.slice A0 D.sure.length c0, .slice A1 D.wait.length c1, .int .i64 D.fuse, .bool D.off] rfl rfl TQ _ hx8.out size_Q rfl (q_one _ _ _ _ rfl rfl rfl rfl) ?_; intro w4 hs; have HP4 := Aside0.mk (HP3.out.own rfl hs.size hs.other (hs.below HP3.out.below (by rw [hg8.out]; exact HP.out.below.size))); have HX4 := Aside0.mk hs.at_; have HN8 := Aside0.mk (show w.heap.size ≤ b8 by rw [hg8.out]; exact HP.out.below.size); clear hs hg8 hx8 hB3 hz3 HP3 HP))
  go_loopw [10] (fun v10 wr => ∃ i : Nat, v10 = .int .i64 (i : Int) ∧ i ≤ l.length ∧ i ≤ 50 ∧ ∃ D A0 c0 A1 c1, Aside0 (Prs w wr g (.slice A0 D.sure.length c0) (.slice A1 D.wait.length c1) D D (fun k => k = b8)) ∧ Aside0 (wr.heap[b8]? = some (.cells #[.slice A0 D.sure.length c0, .slice A1 D.wait.length c1, .int .i64 D.fuse, .bool D.off] TQ (0, 0))) ∧ Aside0 (D.wait.length ≤ i)) (fun v10 _ => l.length - (intOf v10).toNat)
  case atStart => exact ⟨0, rfl, Nat.zero_le _, by omega, D, A0, c0, A1, c1, HP4, HX4, HWL⟩
  case round =>
    clear HP4 HX4 HWL
    obtain ⟨i, rfl, hi, hi50, D, A0, c0, A1, c1, HP, HX, HWL⟩ := hrel
    by_cases hlt : i < l.length ∧ i < 50
    · obtain ⟨hlt1, hlt2⟩ := hlt
      have hd1 : decide ((i : Int) < (l.length : Int)) = true := decide_eq_true (by omega)
      have hd2 : decide ((i : Int) < 50) = true := decide_eq_true (by omega)
      obtain ⟨ad, cs, hA, hcl, hK, hcc⟩ := at_cells HL.out i hlt1
      obtain ⟨A5, c5, rfl, hkc, hkeep⟩ := kAct_open hK
      have hok := HG.out _ (List.getElem_mem hlt1)
      obtain ⟨x, hx⟩ : ∃ x, l[i] = x := ⟨_, rfl⟩
      rw [hx] at hcc hkc hkeep hok
      subst hA
      have HKC := Aside0.mk hkc
      have HOK := Aside0.mk hok
      have HF := Aside0.mk (Kd.C_F (Kd.heap_int _) hkeep)
      have HCC : Aside0 (∀ j v, ([.int .i64 x.kind, .int .i64 x.at_, .int .u8 x.c, .string x.text, .slice A5 x.keep.length c5] : List Value)[j]? = some v → w.cell? ((ad.add (i * 5)).add j) = some v) := ⟨hcc⟩
      have hc3 : wr.cell? ⟨(ad.add (i * 5)).block, (ad.add (i * 5)).off + 3, none⟩ = some (.string x.text) := by
        rw [add_field _ _ 3 (by omega) |>.symm]
        have := pw_cell_below HP.out.below (HCC.out 3 _ rfl)
        rwa [Go.Addr.add_add] at this
      clear hcl hK hcc hkc hkeep hok hx
      by_cases ht : x.text.size ≤ 200
      · have hd3 : decide ((x.text.size : Int) > 200) = false := decide_eq_false (by omega)
        have hd4 : decide (200 < (x.text.size : Int)) = false := decide_eq_false (by omega)
        go_wp2_with fail
        clear hc3
        have HR8 : Aside0 (wr.rangeAt b8 0 [.slice A0 D.sure.length c0, .slice A1 D.wait.length c1, .int .i64 D.fuse, .bool D.off]) := ⟨fun j v hv => by rw [cell_of_row wr b8 _ _ _ _ HX.out]; simpa using hv⟩
        have hwl : D.wait.length ≤ 1000000 := by have := HWL.out; omega
        refine start_ (n := 13) (S := fun w' => w'.rangeAt b8 0 [.slice A0 D.sure.length c0, .slice A1 D.wait.length c1, .int .i64 D.fuse, .bool D.off] ∧ (∀ j v, ([.int .i64 x.kind, .int .i64 x.at_, .int .u8 x.c, .string x.text, .slice A5 x.keep.length c5] : List Value)[j]? = some v → w'.cell? ((ad.add (i * 5)).add j) = some v)) (ds := [11, 12]) #[Z,Z,Z,Z,Z,Z,Z,Z,Z,Z,Z,Z,Z] (by kernel_rfl) rfl rfl (⟨by rw [World.rangeAt_drew]; exact HR8.out, fun j v hv => pw_cell_below HP.out.below (HCC.out j v hv)⟩) (fun hHeld => ?_)
        refine pure_ (i := 0) (N := (some 55)) (v := ?_) (a' := ?_) #[Y,Z,Z,Z,Z,Z,Z,Z,Z,Z,Z,Z,Z] rfl rfl (by kernel_rfl) (fun _ _ _ h => h) (Or.inl ⟨by rfl, ?_⟩) ?_ ?_
        rotate_left
        · intro w'
          go_simp
          with_reducible rfl
        rotate_left
        · simp only [Act.put, List.setIfInBounds_toArray, List.set_cons_zero, List.set_cons_succ, i64_w, i32_w]
          rfl
        refine take_ (i := 1) (N := (some 56)) (v := .agg #[.slice A0 D.sure.length c0, .slice A1 D.wait.length c1, .int .i64 D.fuse, .bool D.off]) (a' := ?_) #[Y,Y,Z,Z,Z,Z,Z,Z,Z,Z,Z,Z,Z] rfl rfl (by kernel_rfl) (fun _ _ _ h => h) (yieldsIf_load_mid (by rfl) TQ (.tmp 8) rfl b8 0 rfl [.slice A0 D.sure.length c0, .slice A1 D.wait.length c1, .int .i64 D.fuse, .bool D.off] _ (fun w (h : _ ∧ _) => h.1) Try.underlying44 rfl size_Q) hHeld ?_ ?_
        rotate_left
        · simp only [Act.put, List.setIfInBounds_toArray, List.set_cons_zero, List.set_cons_succ, i64_w, i32_w]
          rfl
        refine pure_ (i := 2) (N := (some 57)) (v := ?_) (a' := ?_) #[Y,Y,Y,Z,Z,Z,Z,Z,Z,Z,Z,Z,Z] rfl rfl (by kernel_rfl) (fun _ _ _ h => h) (Or.inl ⟨by rfl, ?_⟩) ?_ ?_
        rotate_left
        · intro w'
          go_simp
          with_reducible rfl
        rotate_left
        · simp only [Act.put, List.setIfInBounds_toArray, List.set_cons_zero, List.set_cons_succ, i64_w, i32_w]
          rfl
        refine pure_ (i := 3) (N := (some 58)) (v := ?_) (a' := ?_) #[Y,Y,Y,Y,Z,Z,Z,Z,Z,Z,Z,Z,Z] rfl rfl (by kernel_rfl) (fun _ _ _ h => h) (Or.inl ⟨by rfl, ?_⟩) ?_ ?_
        rotate_left
        · intro w'
          go_simp
          with_reducible rfl
        rotate_left
        · simp only [Act.put, List.setIfInBounds_toArray, List.set_cons_zero, List.set_cons_succ, i64_w, i32_w]
          rfl
        refine pure_ (i := 4) (N := (some 59)) (v := ?_) (a' := ?_) #[Y,Y,Y,Y,Y,Z,Z,Z,Z,Z,Z,Z,Z] rfl rfl (by kernel_rfl) (fun _ _ _ h => h) (Or.inl ⟨by rfl, ?_⟩) ?_ ?_
        rotate_left
        · intro w'
          go_simp
          with_reducible rfl
        rotate_left
        · simp only [Act.put, List.setIfInBounds_toArray, List.set_cons_zero, List.set_cons_succ, i64_w, i32_w]
          rfl
        refine take_ (i := 5) (N := (some 60)) (v := .agg #[.int .i64 x.kind, .int .i64 x.at_, .int .u8 x.c, .string x.text, .slice A5 x.keep.length c5]) (a' := ?_) #[Y,Y,Y,Y,Y,Y,Z,Z,Z,Z,Z,Z,Z] rfl rfl (by kernel_rfl) (fun _ _ _ h => h) (yieldsIf_load_any (by rfl) TA (.tmp 59) rfl (ad.add (i * 5)) rfl [.int .i64 x.kind, .int .i64 x.at_, .int .u8 x.c, .string x.text, .slice A5 x.keep.length c5] (fun w (h : _ ∧ _) => h.2) _ Try.underlying48 rfl size_A) hHeld ?_ ?_
        rotate_left
        · simp only [Act.put, List.setIfInBounds_toArray, List.set_cons_zero, List.set_cons_succ, i64_w, i32_w]
          rfl
        refine two_ (i := 6) (j := 10) (Ni := (some 61)) (Nj := (some 11)) #[Y,Y,Y,Y,Y,Y,Y,Z,Z,Z,Z,Z,Z] #[Y,Y,Y,Y,Y,Y,Z,Z,Z,Z,Y,Z,Z] rfl rfl rfl rfl (by kernel_rfl) (by decide) (by decide) (fun K hK => ?_) (fun K hK => ?_)
        · skip
          have HPd := Aside0.mk (HP.out.step (below_drew (Below.refl _ _)))
          have HXd : Aside0 (wr.drew.heap[b8]? = some (.cells #[.slice A0 D.sure.length c0, .slice A1 D.wait.length c1, .int .i64 D.fuse, .bool D.off] TQ (0, 0))) := HX
          have HFd := Aside0.mk (show Kd.F (Kd.int .i64) wr.drew (fun k => k < w.heap.size) A5 x.keep.length x.keep from Kd.F_step HF.out (fun k hk _ => HPd.out.below.block k hk))
          refine goes_ Try.func26 (by kernel_rfl) rfl #[.pointer (some ⟨g, 0, none⟩), .agg #[.slice A0 D.sure.length c0, .slice A1 D.wait.length c1, .int .i64 D.fuse, .bool D.off], .agg #[.int .i64 x.kind, .int .i64 x.at_, .int .u8 x.c, .string x.text, .slice A5 x.keep.length c5]] (by rfl) rfl rfl (by (try simp only [List.map_toArray, List.map_cons, List.map_nil]); first | done | rfl) ?_
          refine (does_any HPd.out hwl x A5 c5 HFd.out HOK.out.2.2 HKC.out HOK.out.1 HOK.out.2.1).mono ?_
          rintro e w8 ⟨u0, u1, rfl, h8, st8⟩
          obtain ⟨B0, d0, B1, d1, rfl, rfl⟩ := h8.sl
          have hcw := actD_wait D x
          generalize hC : actD D x = C at h8 hcw ⊢
          clear hC
          have HCW := Aside0.mk hcw
          have HP8 := Aside0.mk h8
          have HX8 := Aside0.mk ((st8 b8 rfl).trans HXd.out)
          refine ⟨_, rfl, ?_⟩
          refine hK.out _ _ ⟨fun j v hv => by rw [cell_of_row w8 b8 _ _ _ _ HX8.out]; simpa using hv, fun j v hv => pw_cell_below h8.below (HCC.out j v hv)⟩ (fun hHeld => ?_)
          clear h8 st8 hcw
          clear hK K
          refine norm_ (a' := ?_) ?_ ?_
          rotate_left
          · show Act.put _ (some 61) _ = _
            simp only [Act.put, List.setIfInBounds_toArray, List.set_cons_zero, List.set_cons_succ, i64_w, i32_w]
            rfl
          refine pure_ (i := 7) (N := (some 54)) (v := ?_) (a' := ?_) #[Y,Y,Y,Y,Y,Y,Y,Y,Z,Z,Z,Z,Z] rfl rfl (by kernel_rfl) (fun _ _ _ h => h) (Or.inl ⟨by rfl, ?_⟩) ?_ ?_
          rotate_left
          · intro w'
            go_simp
            with_reducible rfl
          rotate_left
          · simp only [Act.put, List.setIfInBounds_toArray, List.set_cons_zero, List.set_cons_succ, i64_w, i32_w]
            rfl
          refine pure_ (i := 8) (N := (some 62)) (v := ?_) (a' := ?_) #[Y,Y,Y,Y,Y,Y,Y,Y,Y,Z,Z,Z,Z] rfl rfl (by kernel_rfl) (fun _ _ _ h => h) (Or.inl ⟨by rfl, ?_⟩) ?_ ?_
          rotate_left
          · intro w'
            go_simp
            with_reducible rfl
          rotate_left
          · simp only [Act.put, List.setIfInBounds_toArray, List.set_cons_zero, List.set_cons_succ, i64_w, i32_w]
            rfl
          refine pure_ (i := 9) (N := (some 63)) (v := ?_) (a' := ?_) #[Y,Y,Y,Y,Y,Y,Y,Y,Y,Y,Z,Z,Z] rfl rfl (by kernel_rfl) (fun _ _ _ h => h) (Or.inl ⟨by rfl, ?_⟩) ?_ ?_
          rotate_left
          · intro w'
            go_simp
            with_reducible rfl
          rotate_left
          · simp only [Act.put, List.setIfInBounds_toArray, List.set_cons_zero, List.set_cons_succ, i64_w, i32_w]
            rfl
          refine one_ (i := 10) (N := (some 11)) #[Y,Y,Y,Y,Y,Y,Y,Y,Y,Y,Y,Z,Z] rfl rfl (by kernel_rfl) (by decide) (fun K hK => ?_)
          refine value_ (w1 := w8.alloc (.cells #[.slice none 0 0, .slice none 0 0, .int .i64 0, .bool false] TQ (0, 0))) (v := .pointer (some ⟨w8.heap.size, 0, none⟩)) (by rfl) rfl (run_alloc_Q rfl) ?_
          obtain ⟨w9, hw9⟩ : ∃ w9, w9 = w8.alloc (.cells #[.slice none 0 0, .slice none 0 0, .int .i64 0, .bool false] TQ (0, 0)) := ⟨_, rfl⟩
          obtain ⟨b11, hb11⟩ : ∃ b, b = w8.heap.size := ⟨_, rfl⟩
          rw [← hw9, ← hb11]
          have hB9 : Below w8.heap.size w8 w9 := by rw [hw9]; exact below_alloc (Below.refl _ _) _
          have HX9 : Aside0 (w9.heap[b11]? = some (.cells #[.slice none 0 0, .slice none 0 0, .int .i64 0, .bool false] TQ (0, 0))) := ⟨by rw [hw9, hb11]; exact blk_new _ _⟩
          have HX89 := Aside0.mk (blk_below HX8.out hB9)
          have HP9 := Aside0.mk (HP8.out.guard hB9 (Nat.le_of_eq hb11.symm) (blk_lt HX9.out))
          have HNN := Aside0.mk (show b8 < b11 by rw [hb11]; exact blk_lt HX8.out)
          refine hK.out _ _ ⟨fun j v hv => by rw [cell_of_row w9 b8 _ _ _ _ HX89.out]; simpa using hv, fun j v hv => pw_cell_below HP9.out.below (HCC.out j v hv)⟩ (fun hHeld => ?_)
          clear hw9 hb11 hB9
          clear hK K
          refine norm_ (a' := ?_) ?_ ?_
          rotate_left
          · show Act.put _ (some 11) _ = _
            simp only [Act.put, List.setIfInBounds_toArray, List.set_cons_zero, List.set_cons_succ, i64_w, i32_w]
            rfl
          refine last_ (i := 11) (N := none) #[Y,Y,Y,Y,Y,Y,Y,Y,Y,Y,Y,Y,Z] rfl rfl (by kernel_rfl) (by decide) (fun K hK => ?_)
          refine skip_ (w1 := w9.setRow b11 #[.slice B0 C.sure.length d0, .slice B1 C.wait.length d1, .int .i64 C.fuse, .bool C.off]) (by rfl) rfl (run_store_row TQ (.tmp 11) (.tmp 62) rfl b11 #[.slice B0 C.sure.length d0, .slice B1 C.wait.length d1, .int .i64 C.fuse, .bool C.off] rfl rfl TQ _ HX9.out size_Q rfl (q_one _ _ _ _ rfl rfl rfl rfl)) ?_
          obtain ⟨w10, hw10⟩ : ∃ w10, w10 = w9.setRow b11 #[.slice B0 C.sure.length d0, .slice B1 C.wait.length d1, .int .i64 C.fuse, .bool C.off] := ⟨_, rfl⟩
          have hrs : RowSet w9 w10 b11 #[.slice B0 C.sure.length d0, .slice B1 C.wait.length d1, .int .i64 C.fuse, .bool C.off] TQ := by rw [hw10]; exact rowSet_mk HX9.out
          rw [← hw10]
          have HP10 := Aside0.mk (HP9.out.own (.inr rfl) hrs.size hrs.other (hrs.below HP9.out.below (by have := HNN.out; have := HN8.out; omega)))
          have HX10 := Aside0.mk hrs.at_
          have HX810 := Aside0.mk ((hrs.other b8 (by have := HNN.out; omega)).trans HX89.out)
          refine hK.out _ _ ?_
          clear hK K hrs hw10
          refine pure_ (i := 12) (N := (some 12)) (v := ?_) (a' := ?_) #[Y,Y,Y,Y,Y,Y,Y,Y,Y,Y,Y,Y,Y] rfl rfl (by kernel_rfl) (fun _ _ _ h => h) (Or.inl ⟨by rfl, ?_⟩) ?_ ?_
          rotate_left
          · intro w'
            go_simp
            with_reducible rfl
          rotate_left
          · simp only [Act.put, List.setIfInBounds_toArray, List.set_cons_zero, List.set_cons_succ, i64_w, i32_w]
            rfl
          refine done_ (by kernel_rfl) ?_
          go_wp2_with (first | ((with_reducible refine gate_dst (N := 68) rfl ?_); refine gate_guard (by rfl) ?_; dsimp only; refine wpList_load_row rfl TQ (.tmp 11) rfl b11 rfl TQ #[.slice B0 C.sure.length d0, .slice B1 C.wait.length d1, .int .i64 C.fuse, .bool C.off] (0, 0) _ HX10.out Try.underlying44 rfl size_Q ?_))
          refine (same_any HP10.out (by have := HCW.out; have := HWL.out; omega)).mono ?_
          rintro e w11 ⟨rfl, hb11⟩
          have HP11 := Aside0.mk (HP10.out.step hb11)
          have HX11 := Aside0.mk (blk_below HX10.out hb11)
          have HX811 := Aside0.mk (blk_below HX810.out hb11)
          clear hb11 HP10 HX10 HX810
          go_wp2_with (first | ((with_reducible refine gate_dst (N := 72) rfl ?_); refine wpList_load_row rfl TQ (.tmp 11) rfl b11 rfl TQ #[.slice B0 C.sure.length d0, .slice B1 C.wait.length d1, .int .i64 C.fuse, .bool C.off] (0, 0) _ HX11.out Try.underlying44 rfl size_Q ?_) | ((with_reducible refine gate_store (t := TQ) (p := .tmp 8) (x := .tmp 72) rfl ?_); refine row_store_event rfl TQ (.tmp 8) (.tmp 72) rfl b8 #[.slice B0 C.sure.length d0, .slice B1 C.wait.length d1, .int .i64 C.fuse, .bool C.off] rfl rfl TQ _ HX811.out size_Q rfl (q_one _ _ _ _ rfl rfl rfl rfl) ?_; intro w12 hs; have HP12 := Aside0.mk ((HP11.out.own (.inl rfl) hs.size hs.other (hs.below HP11.out.below HN8.out)).less (Y := fun k => k = b8) (fun k hk => .inl hk)); have HX12 := Aside0.mk hs.at_; clear hs))
          exact ⟨⟨i + 1, by simp, by omega, by omega, C, B0, d0, B1, d1, HP12, HX12, ⟨by have := HCW.out; have := HWL.out; omega⟩⟩, by simp [intOf]; omega⟩
        · skip
          refine value_ (w1 := wr.drew.alloc (.cells #[.slice none 0 0, .slice none 0 0, .int .i64 0, .bool false] TQ (0, 0))) (v := .pointer (some ⟨wr.drew.heap.size, 0, none⟩)) (by rfl) rfl (run_alloc_Q rfl) ?_
          obtain ⟨wd, hwd⟩ : ∃ wd, wd = wr.drew.alloc (.cells #[.slice none 0 0, .slice none 0 0, .int .i64 0, .bool false] TQ (0, 0)) := ⟨_, rfl⟩
          obtain ⟨b11, hb11⟩ : ∃ b, b = wr.drew.heap.size := ⟨_, rfl⟩
          rw [← hwd, ← hb11]
          have hBd : Below wr.heap.size wr wd := by rw [hwd]; exact below_alloc (below_drew (Below.refl _ _)) _
          have HXn : Aside0 (wd.heap[b11]? = some (.cells #[.slice none 0 0, .slice none 0 0, .int .i64 0, .bool false] TQ (0, 0))) := ⟨by rw [hwd, hb11]; exact blk_new _ _⟩
          have HXd := Aside0.mk (blk_below HX.out hBd)
          have HPd := Aside0.mk (HP.out.guard hBd (Nat.le_of_eq hb11.symm) (blk_lt HXn.out))
          have HNN := Aside0.mk (show b8 < b11 by rw [hb11]; exact blk_lt HX.out)
          have HFd := Aside0.mk (show Kd.F (Kd.int .i64) wd (fun k => k < w.heap.size) A5 x.keep.length x.keep from Kd.F_step HF.out (fun k hk _ => HPd.out.below.block k hk))
          refine hK.out _ _ ⟨fun j v hv => by rw [cell_of_row wd b8 _ _ _ _ HXd.out]; simpa using hv, fun j v hv => pw_cell_below HPd.out.below (HCC.out j v hv)⟩ (fun hHeld => ?_)
          clear hwd hb11 hBd
          clear hK K
          refine norm_ (a' := ?_) ?_ ?_
          rotate_left
          · show Act.put _ (some 11) _ = _
            simp only [Act.put, List.setIfInBounds_toArray, List.set_cons_zero, List.set_cons_succ, i64_w, i32_w]
            rfl
          refine one_ (i := 6) (N := (some 61)) #[Y,Y,Y,Y,Y,Y,Y,Z,Z,Z,Y,Z,Z] rfl rfl (by kernel_rfl) (by decide) (fun K hK => ?_)
          refine goes_ Try.func26 (by kernel_rfl) rfl #[.pointer (some ⟨g, 0, none⟩), .agg #[.slice A0 D.sure.length c0, .slice A1 D.wait.length c1, .int .i64 D.fuse, .bool D.off], .agg #[.int .i64 x.kind, .int .i64 x.at_, .int .u8 x.c, .string x.text, .slice A5 x.keep.length c5]] (by rfl) rfl rfl (by (try simp only [List.map_toArray, List.map_cons, List.map_nil]); first | done | rfl) ?_
          refine (does_any HPd.out hwl x A5 c5 HFd.out HOK.out.2.2 HKC.out HOK.out.1 HOK.out.2.1).mono ?_
          rintro e w9 ⟨u0, u1, rfl, h9, st9⟩
          obtain ⟨B0, d0, B1, d1, rfl, rfl⟩ := h9.sl
          have hcw := actD_wait D x
          generalize hC : actD D x = C at h9 hcw ⊢
          clear hC
          have HCW := Aside0.mk hcw
          have HP9 := Aside0.mk h9
          have HX9 := Aside0.mk ((st9 b11 (.inr rfl)).trans HXn.out)
          have HX89 := Aside0.mk ((st9 b8 (.inl rfl)).trans HXd.out)
          refine ⟨_, rfl, ?_⟩
          refine hK.out _ _ ⟨fun j v hv => by rw [cell_of_row w9 b8 _ _ _ _ HX89.out]; simpa using hv, fun j v hv => pw_cell_below h9.below (HCC.out j v hv)⟩ (fun hHeld => ?_)
          clear h9 st9 hcw
          clear hK K
          refine norm_ (a' := ?_) ?_ ?_
          rotate_left
          · show Act.put _ (some 61) _ = _
            simp only [Act.put, List.setIfInBounds_toArray, List.set_cons_zero, List.set_cons_succ, i64_w, i32_w]
            rfl
          refine pure_ (i := 7) (N := (some 54)) (v := ?_) (a' := ?_) #[Y,Y,Y,Y,Y,Y,Y,Y,Z,Z,Y,Z,Z] rfl rfl (by kernel_rfl) (fun _ _ _ h => h) (Or.inl ⟨by rfl, ?_⟩) ?_ ?_
          rotate_left
          · intro w'
            go_simp
            with_reducible rfl
          rotate_left
          · simp only [Act.put, List.setIfInBounds_toArray, List.set_cons_zero, List.set_cons_succ, i64_w, i32_w]
            rfl
          refine pure_ (i := 8) (N := (some 62)) (v := ?_) (a' := ?_) #[Y,Y,Y,Y,Y,Y,Y,Y,Y,Z,Y,Z,Z] rfl rfl (by kernel_rfl) (fun _ _ _ h => h) (Or.inl ⟨by rfl, ?_⟩) ?_ ?_
          rotate_left
          · intro w'
            go_simp
            with_reducible rfl
          rotate_left
          · simp only [Act.put, List.setIfInBounds_toArray, List.set_cons_zero, List.set_cons_succ, i64_w, i32_w]
            rfl
          refine pure_ (i := 9) (N := (some 63)) (v := ?_) (a' := ?_) #[Y,Y,Y,Y,Y,Y,Y,Y,Y,Y,Y,Z,Z] rfl rfl (by kernel_rfl) (fun _ _ _ h => h) (Or.inl ⟨by rfl, ?_⟩) ?_ ?_
          rotate_left
          · intro w'
            go_simp
            with_reducible rfl
          rotate_left
          · simp only [Act.put, List.setIfInBounds_toArray, List.set_cons_zero, List.set_cons_succ, i64_w, i32_w]
            rfl
          refine last_ (i := 11) (N := none) #[Y,Y,Y,Y,Y,Y,Y,Y,Y,Y,Y,Y,Z] rfl rfl (by kernel_rfl) (by decide) (fun K hK => ?_)
          refine skip_ (w1 := w9.setRow b11 #[.slice B0 C.sure.length d0, .slice B1 C.wait.length d1, .int .i64 C.fuse, .bool C.off]) (by rfl) rfl (run_store_row TQ (.tmp 11) (.tmp 62) rfl b11 #[.slice B0 C.sure.length d0, .slice B1 C.wait.length d1, .int .i64 C.fuse, .bool C.off] rfl rfl TQ _ HX9.out size_Q rfl (q_one _ _ _ _ rfl rfl rfl rfl)) ?_
          obtain ⟨w10, hw10⟩ : ∃ w10, w10 = w9.setRow b11 #[.slice B0 C.sure.length d0, .slice B1 C.wait.length d1, .int .i64 C.fuse, .bool C.off] := ⟨_, rfl⟩
          have hrs : RowSet w9 w10 b11 #[.slice B0 C.sure.length d0, .slice B1 C.wait.length d1, .int .i64 C.fuse, .bool C.off] TQ := by rw [hw10]; exact rowSet_mk HX9.out
          rw [← hw10]
          have HP10 := Aside0.mk (HP9.out.own (.inr rfl) hrs.size hrs.other (hrs.below HP9.out.below (by have := HNN.out; have := HN8.out; omega)))
          have HX10 := Aside0.mk hrs.at_
          have HX810 := Aside0.mk ((hrs.other b8 (by have := HNN.out; omega)).trans HX89.out)
          refine hK.out _ _ ?_
          clear hK K hrs hw10
          refine pure_ (i := 12) (N := (some 12)) (v := ?_) (a' := ?_) #[Y,Y,Y,Y,Y,Y,Y,Y,Y,Y,Y,Y,Y] rfl rfl (by kernel_rfl) (fun _ _ _ h => h) (Or.inl ⟨by rfl, ?_⟩) ?_ ?_
          rotate_left
          · intro w'
            go_simp
            with_reducible rfl
          rotate_left
          · simp only [Act.put, List.setIfInBounds_toArray, List.set_cons_zero, List.set_cons_succ, i64_w, i32_w]
            rfl
          refine done_ (by kernel_rfl) ?_
          go_wp2_with (first | ((with_reducible refine gate_dst (N := 68) rfl ?_); refine gate_guard (by rfl) ?_; dsimp only; refine wpList_load_row rfl TQ (.tmp 11) rfl b11 rfl TQ #[.slice B0 C.sure.length d0, .slice B1 C.wait.length d1, .int .i64 C.fuse, .bool C.off] (0, 0) _ HX10.out Try.underlying44 rfl size_Q ?_))
          refine (same_any HP10.out (by have := HCW.out; have := HWL.out; omega)).mono ?_
          rintro e w11 ⟨rfl, hb11⟩
          have HP11 := Aside0.mk (HP10.out.step hb11)
          have HX11 := Aside0.mk (blk_below HX10.out hb11)
          have HX811 := Aside0.mk (blk_below HX810.out hb11)
          clear hb11 HP10 HX10 HX810
          go_wp2_with (first | ((with_reducible refine gate_dst (N := 72) rfl ?_); refine wpList_load_row rfl TQ (.tmp 11) rfl b11 rfl TQ #[.slice B0 C.sure.length d0, .slice B1 C.wait.length d1, .int .i64 C.fuse, .bool C.off] (0, 0) _ HX11.out Try.underlying44 rfl size_Q ?_) | ((with_reducible refine gate_store (t := TQ) (p := .tmp 8) (x := .tmp 72) rfl ?_); refine row_store_event rfl TQ (.tmp 8) (.tmp 72) rfl b8 #[.slice B0 C.sure.length d0, .slice B1 C.wait.length d1, .int .i64 C.fuse, .bool C.off] rfl rfl TQ _ HX811.out size_Q rfl (q_one _ _ _ _ rfl rfl rfl rfl) ?_; intro w12 hs; have HP12 := Aside0.mk ((HP11.out.own (.inl rfl) hs.size hs.other (hs.below HP11.out.below HN8.out)).less (Y := fun k => k = b8) (fun k hk => .inl hk)); have HX12 := Aside0.mk hs.at_; clear hs))
          exact ⟨⟨i + 1, by simp, by omega, by omega, C, B0, d0, B1, d1, HP12, HX12, ⟨by have := HCW.out; have := HWL.out; omega⟩⟩, by simp [intOf]; omega⟩
      · have hd3 : decide ((x.text.size : Int) > 200) = true := decide_eq_true (by omega)
        have hd4 : decide (200 < (x.text.size : Int)) = true := decide_eq_true (by omega)
        go_wp2_with fail
        refine (awake04 _).mono ?_
        rintro e w7 ⟨rfl, hb7⟩
        go_wp2_with fail
        go_ret
        exact ⟨rfl, below_then HP.out.below HP.out.below.size hb7⟩
    · have hx : (¬ i < l.length) ∨ (i < l.length ∧ decide ((i : Int) < 50) = false) := by
        by_cases h1 : i < l.length
        · exact .inr ⟨h1, decide_eq_false (by omega)⟩
        · exact .inl h1
      clear hlt
      rcases hx with hd1 | ⟨hd1, hd2⟩
      all_goals
        go_wp2_with fail
        refine (awake04 _).mono ?_
        rintro e w7 ⟨rfl, hb7⟩
        go_wp2_with fail
        go_ret
        exact ⟨rfl, below_then HP.out.below HP.out.below.size hb7⟩
end Go.Proofs.Ytgjclhhjigflkab.Dev
