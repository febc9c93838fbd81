import Derived.Test.YtgjclhhjigflkacScNums
import Derived.Test.YtgjclhhjigflkacScCreate
import Derived.Test.YtgjclhhjigflkacScRead
import Derived.Outline
import Derived.RegionTactic
import Derived.BigRegion
import Derived.ChangeAlike
/- The walk of schema.Put. (Written by genput.py.) -/
namespace Go.Proofs.Ytgjclhhjigflkac.Sc
open Go Go.RowKit Go.Proofs.Ytgjclhhjigflkac.C Go.Proofs.Ytgjclhhjigflkac.MyWords Go.Proofs.Ytgjclhhjigflkac.Hand Go.Proofs.Ytgjclhhjigflkac.Vi Go.Proofs.YtgjclhhjigflkacW.PrintWords Go.Proofs.YtgjclhhjigflkacW.PrintLast Go.Proofs.YtgjclhhjigflkacW.PrintMore
set_option linter.unusedVariables false
set_option linter.unusedSimpArgs false
def nullI (b : Bool) : Int := if b = true then 1 else 0
def colB (c : Col) : List UInt8 := nameB c.f0 ++ vputs [c.f1, nullI c.f2]
def prjB (p : Prj) : List UInt8 := nameB p.f0 ++ vputs [(p.f1.length : Int)] ++ vputs p.f1 ++ vputs [p.f2]
def tabB (t : Tab) : List UInt8 := nameB t.f0 ++ vputs [(t.f1.length : Int)] ++ t.f1.flatMap colB ++ vputs [(t.f2.length : Int)] ++ t.f2.flatMap prjB
def tabsB (l : List Tab) : List UInt8 := vputs [(l.length : Int)] ++ l.flatMap tabB
def putP (l : List Tab) : ByteArray × Int := if checkP l = true then (⟨(tabsB l).toArray⟩, 0) else (⟨#[]⟩, 1)
/-- few parts, short names -/
structure Sm (t : Tab) : Prop where
  s : t.f0.size ≤ 16
  c : t.f1.length ≤ 8
  p : t.f2.length ≤ 6
  cs : ∀ x ∈ t.f1, x.f0.size ≤ 16
  ps : ∀ x ∈ t.f2, x.f0.size ≤ 16 ∧ x.f1.length ≤ 8
theorem mayP_Sm {t : Tab} (h : mayP t = true) : Sm t := by
  unfold mayP at h
  simp only [Bool.and_eq_true, decide_eq_true_eq] at h
  obtain ⟨⟨⟨⟨⟨h1, h2⟩, h3⟩, h4⟩, h5⟩, h6⟩ := h
  unfold colsP at h3
  simp only [Bool.and_eq_true, decide_eq_true_eq, List.all_eq_true] at h3 h1
  obtain ⟨⟨⟨h7, h8⟩, h9⟩, h10⟩ := h3
  refine ⟨nameP_size h2, h9, h5, fun x hx => ?_, fun x hx => ?_⟩
  · have h := h7 x hx
    unfold colP at h
    simp only [Bool.and_eq_true] at h
    exact nameP_size h.1
  · have h := h1 x hx
    unfold projP at h
    simp only [Bool.and_eq_true, decide_eq_true_eq] at h
    obtain ⟨⟨⟨⟨⟨⟨h11, h12⟩, h13⟩, h14⟩, h15⟩, h16⟩, h17⟩ := h
    exact ⟨nameP_size h12, by omega⟩
theorem checkP_Sm {l : List Tab} (h : checkP l = true) : l.length ≤ 8 ∧ ∀ t ∈ l, Sm t := by
  unfold checkP at h
  simp only [Bool.and_eq_true, decide_eq_true_eq, List.all_eq_true] at h
  exact ⟨h.1.2, fun t ht => mayP_Sm (h.1.1 t ht)⟩
/-- a writer at b that holds acc; what is there ahead of it, and what is no bytes, is as it was in w0 -/
structure WS (B b : Nat) (acc : List UInt8) (M : Nat) (w0 w : World) : Prop where
  d : Bld B b (Lib.byteCells acc) w
  b : Below B w0 w
  o : Others w0 w
  z : B ≤ w.heap.size
  n : acc.length ≤ M
section
variable {B b M M' : Nat} {acc acc' : List UInt8} {w0 w w1 : World}
theorem WS.into (H : WS B b acc M w0 w) (h : Below w.heap.size w w1) : WS B b acc M w0 w1 := ⟨bld_below H.d h, below_into H.b H.z h, H.o.trans (Others.of_below h), Nat.le_trans H.z h.size, H.n⟩
theorem WS.reset (H : WS B b acc M w0 w) : WS B b acc M w w := ⟨H.d, Below.refl _ _, fun _ _ _ _ h _ _ => h, H.z, H.n⟩
theorem WS.trans (H : WS B b acc M w0 w) (K : WS B b acc' M' w w1) : WS B b acc' M' w0 w1 := ⟨K.d, H.b.trans K.b, H.o.trans K.o, K.z, K.n⟩
theorem WS.le (H : WS B b acc M w0 w) (h : M ≤ M') : WS B b acc M' w0 w := ⟨H.d, H.b, H.o, H.z, Nat.le_trans H.n h⟩
theorem WS.re (H : WS B b acc M w0 w) (h : acc = acc') : WS B b acc' M w0 w := h ▸ H
theorem WS.keep (H : WS B b acc M w0 w) {g : Nat} {cs : Array Value} {T : TypeId} {fz : Nat × Nat} (h : w0.heap[g]? = some (.cells cs T fz)) (h1 : T ≠ 5 := by decide) (h2 : T ≠ TWr := by decide) : w.heap[g]? = some (.cells cs T fz) := H.o g cs T fz h h1 h2
theorem name_ws (H : WS B b acc M w0 w) (s : ByteArray) (hM : M ≤ 1000000) (hs : s.size ≤ 1000000) :
    Calls Try.prog 62 #[.pointer (some ⟨b, 0, none⟩), .string s] w fun e w' => e = .returned (.tuple #[]) ∧ WS B b (acc ++ nameB s) (M + 10 + s.size) w0 w' := by
  have hn := H.n
  have hl := nameB_len s
  refine (wname_calls B b acc s w H.d H.z (by omega) hs).mono ?_
  rintro e w' ⟨rfl, h1, h2, h3⟩
  exact ⟨rfl, h1, H.b.trans h2, H.o.trans h3, Nat.le_trans H.z h2.size, by rw [List.length_append]; omega⟩
theorem nums_ws (H : WS B b acc M w0 w) (xs : List Int) (hM : M ≤ 1000000) (hx : xs.length ≤ 100) :
    Calls Try.prog 61 #[.pointer (some ⟨b, 0, none⟩), .slice (some ⟨w.heap.size, 0, none⟩) xs.length xs.length] (w.alloc (.cells (nums .i64 xs).toArray 3)) fun e w' => e = .returned (.tuple #[]) ∧ WS B b (acc ++ vputs xs) (M + 10 * xs.length) w0 w' := by
  have hb : Below w.heap.size w (w.alloc (.cells (nums .i64 xs).toArray 3)) := below_alloc (Below.refl _ _) _
  have hk : (w.alloc (.cells (nums .i64 xs).toArray 3)).heap[w.heap.size]? = some (.cells (nums .i64 xs).toArray 3 (0, 0)) := blk_new _ _
  have H1 := H.into hb
  have hn := H.n
  have hl := vputs_length xs
  refine (nums_calls B b acc (some ⟨w.heap.size, 0, none⟩) xs.length xs (fun k => k = w.heap.size) _ H1.d (box_F hk (by omega)) (fun k hkk => .inr ⟨_, _, _, hkk ▸ hk, by decide, by decide⟩) H1.z (by omega)).mono ?_
  rintro e w' ⟨rfl, h1, h2, h3⟩
  exact ⟨rfl, h1, H1.b.trans h2, H1.o.trans h3, Nat.le_trans H1.z h2.size, by rw [List.length_append]; omega⟩
theorem row_ws (H : WS B b acc M w0 w) (A : Option Addr) (c : Nat) (xs : List Int) (hC : Kd.F (Kd.int .i64) w (fun k => k < B) A xs.length xs) (hM : M ≤ 1000000) (hx : xs.length ≤ 100) :
    Calls Try.prog 61 #[.pointer (some ⟨b, 0, none⟩), .slice A xs.length c] w fun e w' => e = .returned (.tuple #[]) ∧ WS B b (acc ++ vputs xs) (M + 10 * xs.length) w0 w' := by
  have hn := H.n
  have hl := vputs_length xs
  refine (nums_calls B b acc A c xs (fun k => k < B) w H.d hC (fun k hk => .inl hk) H.z (by omega)).mono ?_
  rintro e w' ⟨rfl, h1, h2, h3⟩
  exact ⟨rfl, h1, H.b.trans h2, H.o.trans h3, Nat.le_trans H.z h2.size, by rw [List.length_append]; omega⟩
end
theorem below_over {n B : Nat} {w w2 w3 : World} (h : Below n w w2) (hn : n ≤ B) (k : Below B w2 w3) : Below n w w3 := h.trans ⟨k.os, k.tape, k.output, k.size, fun i hi => k.block i (Nat.lt_of_lt_of_le hi hn)⟩
theorem run_alloc_C {e : Operand → Value} {o : Oper} {W : World} (ho : o.op = .alloc TC) : (execOp e o).run Try.prog W = .ok (.value (.pointer (some ⟨W.heap.size, 0, none⟩))) (W.alloc (.cells #[.string ⟨#[]⟩, .int .i64 0, .bool false] TC (0, 0))) := by
  unfold execOp
  simp only [ho]
  kernel_rfl
theorem size_C : (Try.prog.info? TC).map (·.size) = some 3 := by kernel_rfl
theorem take_flat {α β : Type} (f : α → List β) (l : List α) (k : Nat) (h : k < l.length) : (l.take (k + 1)).flatMap f = (l.take k).flatMap f ++ f l[k] := by
  rw [List.take_succ_eq_append_getElem h, List.flatMap_append]
  simp
theorem vb_ne (k n : Nat) : vb k n ≠ [] := by
  cases k with
  | zero => simp [vb]
  | succ k => rw [vb]; split <;> simp
theorem vputs_ne (x : Int) : vputs [x] ≠ [] := by
  intro h
  have h2 : (vputs [x]).length = 0 := by rw [h]; rfl
  have h3 : (vputB x).data.toList.length = 0 := by simpa [vputs] using h2
  rw [data_length] at h3
  unfold vputB at h3
  have h4 := vb_ne 9 (IntKind.u64.wrap (zigw x)).toNat
  exact h4 (List.eq_nil_of_length_eq_zero (by rw [strOfNums_size] at h3; exact h3))
set_option maxHeartbeats 8000000 in
set_option maxRecDepth 100000 in
theorem put_calls (l : List Tab) (A : Option Addr) (c0 : Nat) (w : World) (hr : Kd.C kT w A l.length l) (hc : l.length ≤ c0) (hl : l.length ≤ 1000000) (hg : ∀ t ∈ l, GT t) :
    Calls Try.prog 26 #[.slice A l.length c0] w fun e w' => e = .returned (.tuple #[.string (putP l).1, .int .i64 (putP l).2]) ∧ Below w.heap.size w w' := by
  have HR := Aside0.mk hr
  have HG := Aside0.mk hg
  clear hr hg
  by_cases h0 : checkP l = true
  rotate_left
  · have E0 : Aside0 (checkP l = false) := ⟨by simpa using h0⟩
    have HE : Aside0 (putP l = (⟨#[]⟩, 1)) := ⟨by unfold putP; rw [if_neg h0]⟩
    clear h0
    go_enter Try.func26, Try.ntmps26
    go_wp2_with fail
    refine (check_calls l A c0 _ HR.out hc hl HG.out).mono ?_
    rintro e w1 ⟨rfl, hb1⟩
    rw [chkE_no E0.out]
    have HB1 := Aside0.mk (hb1)
    clear hb1
    go_wp2_with fail
    go_ret2
    rw [HE.out]
    exact ⟨rfl, HB1.out⟩
  have E0 : Aside0 (checkP l = true) := ⟨h0⟩
  have HE : Aside0 (putP l = (⟨(tabsB l).toArray⟩, 0)) := ⟨by unfold putP; rw [if_pos h0]⟩
  have hl8 := (checkP_Sm h0).1
  have HSM := Aside0.mk (checkP_Sm h0).2
  clear h0
  go_enter Try.func26, Try.ntmps26
  go_wp2_with fail
  refine (check_calls l A c0 _ HR.out hc hl HG.out).mono ?_
  rintro e w1 ⟨rfl, hb1⟩
  rw [chkE_yes E0.out]
  have HB1 := Aside0.mk (hb1)
  clear hb1 hl HG E0
  go_wp2_with fail
  obtain ⟨w2, hw2⟩ : ∃ y, y = w1.alloc (.cells #[.pointer none, .slice none 0 0] TWr) := ⟨_, rfl⟩
  rw [← hw2]
  have hb2 : Below w1.heap.size w1 w2 := by rw [hw2]; exact below_alloc (Below.refl _ _) _
  have hd2 : Bld w1.heap.size w1.heap.size (Lib.byteCells []) w2 := by rw [hw2]; exact bld_new w1
  have hz2 : w2.heap.size = w1.heap.size + 1 := by rw [hw2]; simp
  have HB2 := Aside0.mk (below_step HB1.out hb2)
  have h2 : WS w1.heap.size w1.heap.size [] 0 w2 w2 := ⟨hd2, Below.refl _ _, fun _ _ _ _ h _ _ => h, by omega, by simp⟩
  have HZ : Aside0 (w.heap.size ≤ w1.heap.size) := ⟨HB1.out.size⟩
  try rw [← hz2]
  obtain ⟨B, hBB⟩ : ∃ y, y = w1.heap.size := ⟨_, rfl⟩
  rw [← hBB] at h2 HZ
  try rw [← hBB]
  clear hw2 hb2 hd2 hz2 HB1
  refine (nums_ws h2 [(l.length : Int)] (by omega) (by simp)).mono ?_
  rintro e w3 ⟨rfl, h3⟩
  have H3 := Aside0.mk (h3.re (acc' := vputs [(l.length : Int)] ++ (l.take 0).flatMap tabB) (by rw [List.nil_append, List.take_zero, List.flatMap_nil, List.append_nil]))
  clear h2 h3 hBB
  go_wp2_with fail
  go_loopw [21] (fun v21 wr => ∃ k : Nat, v21 = .int .i64 (k : Int) ∧ k ≤ l.length ∧ Aside0 (WS B B (vputs [(l.length : Int)] ++ (l.take k).flatMap tabB) (10 + 2000 * k) w2 wr)) (fun v21 _ => l.length - (intOf v21).toNat)
  case atStart => exact ⟨0, rfl, Nat.zero_le _, ⟨H3.out.le (by simp)⟩⟩
  case round =>
    clear H3
    obtain ⟨k, rfl, hk, HW⟩ := hrel
    obtain ⟨wo, hwo⟩ : ∃ x : World, x = wr := ⟨wr, rfl⟩
    subst hwo
    by_cases hkl : k < l.length
    · have HBo := Aside0.mk (below_over HB2.out HZ.out HW.out.b)
      obtain ⟨ad, cl, hA, hcl, hK, hcc⟩ := at_cells (Kd.C_below HR.out HBo.out) k hkl
      have hfl := take_flat tabB l k hkl
      have hsm := HSM.out l[k] (List.getElem_mem hkl)
      have hKw : ∃ A1 c1 A2 c2, cl = [.string l[k].f0, .slice A1 l[k].f1.length c1, .slice A2 l[k].f2.length c2] ∧ l[k].f1.length ≤ c1 ∧ Kd.C kC w A1 l[k].f1.length l[k].f1 ∧ l[k].f2.length ≤ c2 ∧ Kd.C kP w A2 l[k].f2.length l[k].f2 := by
        obtain ⟨ad', cl', hA', hcl', hK', hcc'⟩ := at_cells HR.out k hkl
        have e1 : ad' = ad := by rw [hA] at hA'; injection hA' with h; exact h.symm
        subst e1
        have e2 : cl = cl' := List.ext_getElem? (fun j => by
          rcases Nat.lt_or_ge j cl'.length with h | h
          · have h1 := pw_cell_below HBo.out (hcc' j _ (List.getElem?_eq_getElem h))
            have h2 := hcc j _ (List.getElem?_eq_getElem (show j < cl.length by omega))
            rw [h1] at h2
            rw [List.getElem?_eq_getElem h, List.getElem?_eq_getElem (show j < cl.length by omega), h2]
          · rw [List.getElem?_eq_none h, List.getElem?_eq_none (by omega)])
        subst e2
        obtain ⟨A1, c1, A2, c2, e, h1, h2, h3, h4⟩ := k47_open hK'
        exact ⟨A1, c1, A2, c2, e, h1, h2, h3, h4⟩
      obtain ⟨t, ht⟩ : ∃ t, l[k] = t := ⟨_, rfl⟩
      rw [ht] at hK hsm hfl hKw
      obtain ⟨A1, c1, A2, c2, rfl, hl1, hC1, hl2, hC2⟩ := hKw
      have HC1 := Aside0.mk hC1
      have HC2 := Aside0.mk hC2
      have HCC := Aside0.mk hcc
      have HFL := Aside0.mk hfl
      have HS := Aside0.mk hsm
      have ht0 := hsm.s
      have ht1 := hsm.c
      have ht2 := hsm.p
      subst hA
      obtain ⟨acc, hacc⟩ : ∃ a, a = vputs [(l.length : Int)] ++ (l.take k).flatMap tabB := ⟨_, rfl⟩
      rw [← hacc] at HW
      have HFL2 : Aside0 (vputs [(l.length : Int)] ++ (l.take (k + 1)).flatMap tabB = acc ++ tabB t) := ⟨by rw [HFL.out, ← List.append_assoc, hacc]⟩
      clear hfl hsm hC1 hC2 hcc hcl hK ht hacc HFL
      go_wp2_with (first | (refine load_event rfl TT (.tmp 23) rfl (ad.add (k * kT.sz)) ?e1 [.string t.f0, .slice A1 t.f1.length c1, .slice A2 t.f2.length c2] HCC.out _ Try.underlying47 rfl size_T ?_; (case e1 => first | rfl | (go_simp; done) | (go_simp; rfl))) | ((with_reducible refine gate_dst (N := 6) rfl ?_); refine alloc_event rfl (N := 6) rfl (run_alloc_T rfl) ?_; intro b6 w5 hgw5 hxw5 hBw5 hzw5) | ((with_reducible refine gate_ (.store TT (.tmp 6) (.tmp 24)) rfl ?_); refine row_store_event rfl TT (.tmp 6) (.tmp 24) rfl b6 #[.string t.f0, .slice A1 t.f1.length c1, .slice A2 t.f2.length c2] rfl rfl TT _ hxw5.out size_T rfl (one3 _ _ _ rfl rfl rfl) ?_; intro w6 hs; have HXw6 := Aside0.mk hs.at_; have HBw6 := Aside0.mk (hs.below hBw5.out (Nat.le_of_eq hgw5.out.symm)); have hc60 : w6.cell? ⟨b6, 0, none⟩ = some (.string t.f0) := (cell_of_row w6 b6 0 _ _ _ hs.at_).trans rfl; clear hs hxw5 hBw5 hzw5 hgw5))
      clear HCC
      have H6 := Aside0.mk (HW.out.into HBw6.out)
      refine (name_ws H6.out.reset t.f0 (by omega) (by omega)).mono ?_
      rintro e w7 ⟨rfl, h7⟩
      have hx7 := h7.keep HXw6.out
      have hc71 : w7.cell? ⟨b6, 1, none⟩ = some (.slice A1 t.f1.length c1) := (cell_of_row w7 b6 1 _ _ _ hx7).trans rfl
      have H7 := Aside0.mk h7
      clear h7 hx7 hc60
      go_wp2_with fail
      refine (nums_ws H7.out [(t.f1.length : Int)] (by omega) (by simp)).mono ?_
      rintro e w8 ⟨rfl, h8⟩
      have hx8 := h8.keep HXw6.out
      have hc81 : w8.cell? ⟨b6, 1, none⟩ = some (.slice A1 t.f1.length c1) := (cell_of_row w8 b6 1 _ _ _ hx8).trans rfl
      have H8 := Aside0.mk (h8.re (acc' := acc ++ nameB t.f0 ++ vputs [(t.f1.length : Int)] ++ (t.f1.take 0).flatMap colB) (by rw [List.take_zero, List.flatMap_nil, List.append_nil]))
      clear h8 hx8 hc71 H7
      go_wp2_with fail
      clear hc81
      go_loopw [36] (fun v36 wt => ∃ j : Nat, v36 = .int .i64 (j : Int) ∧ j ≤ t.f1.length ∧ Aside0 (WS B B (acc ++ nameB t.f0 ++ vputs [(t.f1.length : Int)] ++ (t.f1.take j).flatMap colB) (10 + 2000 * k + 10 + 16 + 10 + 46 * j) w6 wt)) (fun v36 _ => t.f1.length - (intOf v36).toNat)
      case atStart => exact ⟨0, rfl, Nat.zero_le _, ⟨H8.out.le (by simp; omega)⟩⟩
      case round =>
        clear H8
        obtain ⟨j, rfl, hj, HWj⟩ := hrel
        obtain ⟨wp, hwp⟩ : ∃ x : World, x = wr := ⟨wr, rfl⟩
        subst hwp
        by_cases hjl : j < t.f1.length
        · have HBp := Aside0.mk (below_over (below_step HBo.out HBw6.out) HZ.out HWj.out.b)
          obtain ⟨adc, cl, hAc, hcl, hK, hcc⟩ := at_cells (Kd.C_below HC1.out HBp.out) j hjl
          have hfl := take_flat colB t.f1 j hjl
          have hsm := HS.out.cs t.f1[j] (List.getElem_mem hjl)
          obtain ⟨c, hcE⟩ : ∃ c, t.f1[j] = c := ⟨_, rfl⟩
          rw [hcE] at hK hsm hfl
          obtain rfl := k96_open hK
          have HCC := Aside0.mk hcc
          subst hAc
          obtain ⟨ac, hac⟩ : ∃ a, a = acc ++ nameB t.f0 ++ vputs [(t.f1.length : Int)] ++ (t.f1.take j).flatMap colB := ⟨_, rfl⟩
          have HFC : Aside0 (acc ++ nameB t.f0 ++ vputs [(t.f1.length : Int)] ++ (t.f1.take (j + 1)).flatMap colB = ac ++ colB c) := ⟨by rw [hfl, ← List.append_assoc, hac]⟩
          rw [← hac] at HWj
          clear hfl hcc hcl hK hcE hac
          cases hnu : c.f2 with
          | true =>
            try rw [hnu] at HCC
            go_wp2_with (first | (refine load_event rfl TC (.tmp 38) rfl (adc.add (j * kC.sz)) ?e1 [.string c.f0, .int .i64 c.f1, .bool true] HCC.out _ Try.underlying96 rfl size_C ?_; (case e1 => first | rfl | (go_simp; done) | (go_simp; rfl))) | ((with_reducible refine gate_dst (N := 8) rfl ?_); refine alloc_event rfl (N := 8) rfl (run_alloc_C rfl) ?_; intro b8 w9 hgw9 hxw9 hBw9 hzw9) | ((with_reducible refine gate_ (.store TC (.tmp 8) (.tmp 39)) rfl ?_); refine row_store_event rfl TC (.tmp 8) (.tmp 39) rfl b8 #[.string c.f0, .int .i64 c.f1, .bool true] rfl rfl TC _ hxw9.out size_C rfl (one3 _ _ _ rfl rfl rfl) ?_; intro w10 hs; have HXw10 := Aside0.mk hs.at_; have HBw10 := Aside0.mk (hs.below hBw9.out (Nat.le_of_eq hgw9.out.symm)); have hc80 : w10.cell? ⟨b8, 0, none⟩ = some (.string c.f0) := (cell_of_row w10 b8 0 _ _ _ hs.at_).trans rfl; have hc82 : w10.cell? ⟨b8, 2, none⟩ = some (.bool true) := (cell_of_row w10 b8 2 _ _ _ hs.at_).trans rfl; clear hs hxw9 hBw9 hzw9 hgw9))
            have H10 := Aside0.mk (HWj.out.into HBw10.out)
            refine (name_ws H10.out.reset c.f0 (by omega) (by omega)).mono ?_
            rintro e w11 ⟨rfl, h11⟩
            have hx11 := h11.keep HXw10.out
            have hc91 : w11.cell? ⟨b8, 1, none⟩ = some (.int .i64 c.f1) := (cell_of_row w11 b8 1 _ _ _ hx11).trans rfl
            have H11 := Aside0.mk h11
            clear h11 hx11 hc80 hc82
            go_wp2_with fail
            refine (nums_ws H11.out [c.f1, nullI true] (by omega) (by simp)).mono ?_
            rintro e w12 ⟨rfl, h12⟩
            have H12 := Aside0.mk ((H10.out.trans h12).re (acc' := ac ++ colB c) (by unfold colB; rw [hnu, List.append_assoc]))
            clear h12 H11 hc91
            go_wp2_with fail
            refine ⟨⟨j + 1, by simp, by omega, ⟨?_⟩⟩, by simp [intOf]; omega⟩
            rw [HFC.out]
            exact H12.out.le (by simp; omega)
          | false =>
            try rw [hnu] at HCC
            go_wp2_with (first | (refine load_event rfl TC (.tmp 38) rfl (adc.add (j * kC.sz)) ?e1 [.string c.f0, .int .i64 c.f1, .bool false] HCC.out _ Try.underlying96 rfl size_C ?_; (case e1 => first | rfl | (go_simp; done) | (go_simp; rfl))) | ((with_reducible refine gate_dst (N := 8) rfl ?_); refine alloc_event rfl (N := 8) rfl (run_alloc_C rfl) ?_; intro b8 w9 hgw9 hxw9 hBw9 hzw9) | ((with_reducible refine gate_ (.store TC (.tmp 8) (.tmp 39)) rfl ?_); refine row_store_event rfl TC (.tmp 8) (.tmp 39) rfl b8 #[.string c.f0, .int .i64 c.f1, .bool false] rfl rfl TC _ hxw9.out size_C rfl (one3 _ _ _ rfl rfl rfl) ?_; intro w10 hs; have HXw10 := Aside0.mk hs.at_; have HBw10 := Aside0.mk (hs.below hBw9.out (Nat.le_of_eq hgw9.out.symm)); have hc80 : w10.cell? ⟨b8, 0, none⟩ = some (.string c.f0) := (cell_of_row w10 b8 0 _ _ _ hs.at_).trans rfl; have hc82 : w10.cell? ⟨b8, 2, none⟩ = some (.bool false) := (cell_of_row w10 b8 2 _ _ _ hs.at_).trans rfl; clear hs hxw9 hBw9 hzw9 hgw9))
            have H10 := Aside0.mk (HWj.out.into HBw10.out)
            refine (name_ws H10.out.reset c.f0 (by omega) (by omega)).mono ?_
            rintro e w11 ⟨rfl, h11⟩
            have hx11 := h11.keep HXw10.out
            have hc91 : w11.cell? ⟨b8, 1, none⟩ = some (.int .i64 c.f1) := (cell_of_row w11 b8 1 _ _ _ hx11).trans rfl
            have H11 := Aside0.mk h11
            clear h11 hx11 hc80 hc82
            go_wp2_with fail
            refine (nums_ws H11.out [c.f1, nullI false] (by omega) (by simp)).mono ?_
            rintro e w12 ⟨rfl, h12⟩
            have H12 := Aside0.mk ((H10.out.trans h12).re (acc' := ac ++ colB c) (by unfold colB; rw [hnu, List.append_assoc]))
            clear h12 H11 hc91
            go_wp2_with fail
            refine ⟨⟨j + 1, by simp, by omega, ⟨?_⟩⟩, by simp [intOf]; omega⟩
            rw [HFC.out]
            exact H12.out.le (by simp; omega)
        · obtain rfl : j = t.f1.length := by omega
          rw [List.take_length] at HWj
          have hx9 := HWj.out.keep HXw6.out
          have hc92 : wp.cell? ⟨b6, 2, none⟩ = some (.slice A2 t.f2.length c2) := (cell_of_row wp b6 2 _ _ _ hx9).trans rfl
          clear hx9
          go_wp2_with fail
          refine (nums_ws HWj.out [(t.f2.length : Int)] (by omega) (by simp)).mono ?_
          rintro e w9 ⟨rfl, h9⟩
          have hx9 := h9.keep HXw6.out
          have hc93 : w9.cell? ⟨b6, 2, none⟩ = some (.slice A2 t.f2.length c2) := (cell_of_row w9 b6 2 _ _ _ hx9).trans rfl
          obtain ⟨ab, hab⟩ : ∃ a, a = acc ++ nameB t.f0 ++ vputs [(t.f1.length : Int)] ++ t.f1.flatMap colB ++ vputs [(t.f2.length : Int)] := ⟨_, rfl⟩
          rw [← hab] at h9
          have H9 := Aside0.mk (h9.re (acc' := ab ++ (t.f2.take 0).flatMap prjB) (by rw [List.take_zero, List.flatMap_nil, List.append_nil]))
          have HAB := Aside0.mk hab
          clear h9 hx9 hc92 hab HWj
          go_wp2_with fail
          clear hc93
          go_loopw [59] (fun v59 wt => ∃ j : Nat, v59 = .int .i64 (j : Int) ∧ j ≤ t.f2.length ∧ Aside0 (WS B B (ab ++ (t.f2.take j).flatMap prjB) (10 + 2000 * k + 10 + 16 + 10 + 46 * 8 + 10 + 126 * j) w6 wt)) (fun v59 _ => t.f2.length - (intOf v59).toNat)
          case atStart => exact ⟨0, rfl, Nat.zero_le _, ⟨H9.out.le (by simp; omega)⟩⟩
          case round =>
            clear H9
            obtain ⟨j, rfl, hj, HWj⟩ := hrel
            obtain ⟨wq, hwq⟩ : ∃ x : World, x = wr := ⟨wr, rfl⟩
            subst hwq
            by_cases hjl : j < t.f2.length
            · have HBp := Aside0.mk (below_over (below_step HBo.out HBw6.out) HZ.out HWj.out.b)
              obtain ⟨adc, cl, hAc, hcl, hK, hcc⟩ := at_cells (Kd.C_below HC2.out HBp.out) j hjl
              have hfl := take_flat prjB t.f2 j hjl
              have hsm := HS.out.ps t.f2[j] (List.getElem_mem hjl)
              have hKw : ∃ Ap cp, cl = [.string t.f2[j].f0, .slice Ap t.f2[j].f1.length cp, .int .i64 t.f2[j].f2] ∧ t.f2[j].f1.length ≤ cp ∧ Kd.C (Kd.int .i64) w Ap t.f2[j].f1.length t.f2[j].f1 := by
                obtain ⟨ad', cl', hA', hcl', hK', hcc'⟩ := at_cells HC2.out j hjl
                have e1 : ad' = adc := by rw [hAc] at hA'; injection hA' with h; exact h.symm
                subst e1
                have e2 : cl = cl' := List.ext_getElem? (fun j => by
                  rcases Nat.lt_or_ge j cl'.length with h | h
                  · have h1 := pw_cell_below HBp.out (hcc' j _ (List.getElem?_eq_getElem h))
                    have h2 := hcc j _ (List.getElem?_eq_getElem (show j < cl.length by omega))
                    rw [h1] at h2
                    rw [List.getElem?_eq_getElem h, List.getElem?_eq_getElem (show j < cl.length by omega), h2]
                  · rw [List.getElem?_eq_none h, List.getElem?_eq_none (by omega)])
                subst e2
                obtain ⟨Ap, cp, e, h1, h2⟩ := k52_open hK'
                exact ⟨Ap, cp, e, h1, h2⟩
              obtain ⟨p, hpE⟩ : ∃ c, t.f2[j] = c := ⟨_, rfl⟩
              rw [hpE] at hKw hsm hfl
              obtain ⟨Ap, cp, rfl, hcp, hCp⟩ := hKw
              have HCp := Aside0.mk hCp
              have HCC := Aside0.mk hcc
              have hs0 := hsm.1
              have hs1 := hsm.2
              subst hAc
              obtain ⟨ac, hac⟩ : ∃ a, a = ab ++ (t.f2.take j).flatMap prjB := ⟨_, rfl⟩
              have HFC : Aside0 (ab ++ (t.f2.take (j + 1)).flatMap prjB = ac ++ prjB p) := ⟨by rw [hfl, ← List.append_assoc, hac]⟩
              rw [← hac] at HWj
              clear hfl hcc hcl hK hpE hac hCp hsm
              go_wp2_with (first | (refine load_event rfl TP (.tmp 61) rfl (adc.add (j * kP.sz)) ?e1 [.string p.f0, .slice Ap p.f1.length cp, .int .i64 p.f2] HCC.out _ Try.underlying52 rfl size_P ?_; (case e1 => first | rfl | (go_simp; done) | (go_simp; rfl))) | ((with_reducible refine gate_dst (N := 11) rfl ?_); refine alloc_event rfl (N := 11) rfl (run_alloc_Pr rfl) ?_; intro b11 w10 hgw10 hxw10 hBw10 hzw10) | ((with_reducible refine gate_ (.store TP (.tmp 11) (.tmp 62)) rfl ?_); refine row_store_event rfl TP (.tmp 11) (.tmp 62) rfl b11 #[.string p.f0, .slice Ap p.f1.length cp, .int .i64 p.f2] rfl rfl TP _ hxw10.out size_P rfl (one3 _ _ _ rfl rfl rfl) ?_; intro w11 hs; have HXw11 := Aside0.mk hs.at_; have HBw11 := Aside0.mk (hs.below hBw10.out (Nat.le_of_eq hgw10.out.symm)); have hc0 : w11.cell? ⟨b11, 0, none⟩ = some (.string p.f0) := (cell_of_row w11 b11 0 _ _ _ hs.at_).trans rfl; clear hs hxw10 hBw10 hzw10 hgw10))
              have H11 := Aside0.mk (HWj.out.into HBw11.out)
              refine (name_ws H11.out.reset p.f0 (by omega) (by omega)).mono ?_
              rintro e w12 ⟨rfl, h12⟩
              have hx12 := h12.keep HXw11.out
              have hc1 : w12.cell? ⟨b11, 1, none⟩ = some (.slice Ap p.f1.length cp) := (cell_of_row w12 b11 1 _ _ _ hx12).trans rfl
              have H12 := Aside0.mk h12
              clear h12 hx12 hc0
              go_wp2_with fail
              refine (nums_ws H12.out [(p.f1.length : Int)] (by omega) (by simp)).mono ?_
              rintro e w13 ⟨rfl, h13⟩
              have hx13 := h13.keep HXw11.out
              have hc1' : w13.cell? ⟨b11, 1, none⟩ = some (.slice Ap p.f1.length cp) := (cell_of_row w13 b11 1 _ _ _ hx13).trans rfl
              have H13 := Aside0.mk h13
              clear h13 hx13 hc1 H12
              go_wp2_with fail
              have hF13 : Kd.F (Kd.int .i64) w13 (fun k => k < B) Ap p.f1.length p.f1 := Kd.F_mono (Kd.F_step (Kd.C_F (Kd.heap_int .i64) HCp.out) (fun i hi _ => (below_over (below_step HBp.out HBw11.out) HZ.out H13.out.b).block i hi)) (fun i hi => Nat.lt_of_lt_of_le hi HZ.out)
              refine (row_ws H13.out Ap cp p.f1 hF13 (by simp; omega) (by omega)).mono ?_
              rintro e w14 ⟨rfl, h14⟩
              have hx14 := h14.keep HXw11.out
              have hc2 : w14.cell? ⟨b11, 2, none⟩ = some (.int .i64 p.f2) := (cell_of_row w14 b11 2 _ _ _ hx14).trans rfl
              have H14 := Aside0.mk h14
              clear h14 hx14 hc1' H13 hF13
              go_wp2_with fail
              refine (nums_ws H14.out [p.f2] (by simp; omega) (by simp)).mono ?_
              rintro e w15 ⟨rfl, h15⟩
              have H15 := Aside0.mk ((H11.out.trans h15).re (acc' := ac ++ prjB p) (by unfold prjB; simp only [List.append_assoc]))
              clear h15 H14 hc2
              go_wp2_with fail
              refine ⟨⟨j + 1, by simp, by omega, ⟨?_⟩⟩, by simp [intOf]; omega⟩
              rw [HFC.out]
              exact H15.out.le (by simp; omega)
            · obtain rfl : j = t.f2.length := by omega
              rw [List.take_length] at HWj
              have H15 := Aside0.mk ((H6.out.trans HWj.out).re (acc' := acc ++ tabB t) (by rw [HAB.out]; unfold tabB; simp only [List.append_assoc]))
              clear HWj
              go_wp2_with fail
              refine ⟨⟨k + 1, by simp, by omega, ⟨?_⟩⟩, by simp [intOf]; omega⟩
              rw [HFL2.out]
              exact H15.out.le (by omega)
    · obtain rfl : k = l.length := by omega
      rw [List.take_length] at HW
      go_wp2_with fail
      refine (bld_String B B (tabsB l) _ HW.out.d (by unfold tabsB; intro h; have h2 := List.append_eq_nil_iff.1 h; exact absurd h2.1 (vputs_ne _))).mono ?_
      rintro e w3 ⟨rfl, hb3⟩
      have HB3 := Aside0.mk (below_over HB2.out HZ.out (HW.out.b.trans hb3))
      clear hb3
      go_wp2_with fail
      go_ret2
      rw [HE.out]
      exact ⟨rfl, HB3.out⟩
end Go.Proofs.Ytgjclhhjigflkac.Sc

/- The contract of schema.Put, in the printer's form. -/
namespace Go.Proofs.Ytgjclhhjigflkac.C
open Go Go.RowKit Go.Proofs.Ytgjclhhjigflkac.Sc Go.Proofs.Ytgjclhhjigflkac.Hand Go.Proofs.YtgjclhhjigflkacW.PrintWords Go.Proofs.YtgjclhhjigflkacW.PrintLast Go.Proofs.YtgjclhhjigflkacW.PrintMore
set_option linter.unusedVariables false
def schema_Put.f (k : Nat) (l0 : List Tab) : Option (ByteArray × Int) := if gLB l0 = true then some (putP l0) else none
theorem schema_Put.mono : ∀ a0 k, LeO (schema_Put.f k a0) (schema_Put.f (k + 1) a0) := fun _ _ => LeO.refl _
theorem schema_Put.calls (k : Nat) (A0 : Option Addr) (c0 : Nat) (l0 : List Tab) (r1 : ByteArray) (r2 : Int) (w : World) (hr0 : Kd.C kT w A0 l0.length l0) (hc0 : l0.length ≤ c0) (h : schema_Put.f k l0 = some (r1, r2)) :
    Calls Try.prog 26 #[.slice A0 l0.length c0] w fun e w' => e = .returned (.tuple #[.string r1, .int .i64 r2]) ∧ Below w.heap.size w w' := by
  unfold schema_Put.f at h
  split at h
  case isFalse => cases h
  case isTrue hc =>
    have hg := gLB_spec hc
    injection h with h
    have hh := put_calls l0 A0 c0 w hr0 hc0 hg.1 hg.2
    rw [h] at hh
    exact hh
end Go.Proofs.Ytgjclhhjigflkac.C

/- The walks of schema.reader's num and name. (Written by gennum.py.) -/
namespace Go.Proofs.Ytgjclhhjigflkac.Sc
open Go Go.RowKit Go.Proofs.Ytgjclhhjigflkac.C Go.Proofs.Ytgjclhhjigflkac.MyWords Go.Proofs.Ytgjclhhjigflkac.Hand Go.Proofs.Ytgjclhhjigflkac.Vi Go.Proofs.YtgjclhhjigflkacW.PrintWords Go.Proofs.YtgjclhhjigflkacW.PrintLast Go.Proofs.YtgjclhhjigflkacW.PrintMore
set_option linter.unusedVariables false
set_option linter.unusedSimpArgs false
set_option maxHeartbeats 2000000 in
set_option maxRecDepth 100000 in
theorem num_calls (s : ByteArray) (hs : s.size ≤ 1000000000) (g : Nat) (m : Int) (x : RS) (w : World) (h : Rd TR w g s x) :
    Calls Try.prog 109 #[.pointer (some ⟨g, 0, none⟩), .int .i64 m] w fun e w' => e = .returned (.int .i64 (num1 s m x).1) ∧ Rd TR w' g s (num1 s m x).2 ∧ Chg w w' (fun k => k = g) := by
  obtain ⟨kk, hkk⟩ := (take_ev (s.extract x.at_ s.size)).rounds
  rw [ext_tk s x.at_] at hkk
  obtain ⟨p, b⟩ := x
  obtain ⟨n, u, er, ht⟩ : ∃ n u er, tk s p = (n, u, er) := ⟨_, _, _, rfl⟩
  rw [ht] at hkk
  have HKK := Aside0.mk hkk
  have HT := Aside0.mk ht
  have HU : Aside0 (er = 0 → ∃ u' : Nat, u = (u' : Int) ∧ 1 ≤ u' ∧ p + u' ≤ s.size) := ⟨fun he => by have := tk_ok s p (by rw [ht]; exact he); rw [ht] at this; exact this⟩
  obtain ⟨hg, hp⟩ := h
  have hp : p ≤ s.size := hp
  have HG : Aside0 (w.heap[g]? = some (.cells #[.string s, .int .i64 (p : Int), .bool b] TR (0, 0))) := ⟨hg⟩
  clear hkk ht hg
  go_enter Try.func109, Try.ntmps109
  go_wp2_with fail
  refine start_ (n := 17) (S := fun w' => w'.cell? ⟨g, 0, none⟩ = some (.string s) ∧ w'.cell? ⟨g, 1, none⟩ = some (.int .i64 (p : Int))) (ds := []) #[Z,Z,Z,Z,Z,Z,Z,Z,Z,Z,Z,Z,Z,Z,Z,Z,Z] (by kernel_rfl) rfl rfl (⟨(cell_of_row w g 0 _ _ _ HG.out).trans rfl, (cell_of_row w g 1 _ _ _ HG.out).trans rfl⟩) (fun hHeld => ?_)
  refine pure_ (i := 0) (N := (some 9)) (v := ?_) (a' := ?_) #[Y,Z,Z,Z,Z,Z,Z,Z,Z,Z,Z,Z,Z,Z,Z,Z,Z] rfl rfl (by kernel_rfl) (fun _ _ _ h => h) (Or.inl ⟨by rfl, ?_⟩) ?_ ?_
  rotate_left
  · intro w'
    go_simp
    with_reducible rfl
  rotate_left
  · simp only [Act.put, List.setIfInBounds_toArray, List.set_cons_zero, List.set_cons_succ, i64_w, i32_w]
    rfl
  refine pure_ (i := 1) (N := (some 10)) (v := ?_) (a' := ?_) #[Y,Y,Z,Z,Z,Z,Z,Z,Z,Z,Z,Z,Z,Z,Z,Z,Z] rfl rfl (by kernel_rfl) (fun _ _ _ h => h) (Or.inl ⟨by rfl, ?_⟩) ?_ ?_
  rotate_left
  · intro w'
    go_simp
    with_reducible rfl
  rotate_left
  · simp only [Act.put, List.setIfInBounds_toArray, List.set_cons_zero, List.set_cons_succ, i64_w, i32_w]
    rfl
  refine pure_ (i := 2) (N := (some 11)) (v := ?_) (a' := ?_) #[Y,Y,Y,Z,Z,Z,Z,Z,Z,Z,Z,Z,Z,Z,Z,Z,Z] rfl rfl (by kernel_rfl) (fun _ _ _ h => h) (Or.inl ⟨by rfl, ?_⟩) ?_ ?_
  rotate_left
  · intro w'
    go_simp
    with_reducible rfl
  rotate_left
  · simp only [Act.put, List.setIfInBounds_toArray, List.set_cons_zero, List.set_cons_succ, i64_w, i32_w]
    rfl
  refine take_ (i := 3) (N := (some 12)) (v := ?_) (a' := ?_) #[Y,Y,Y,Y,Z,Z,Z,Z,Z,Z,Z,Z,Z,Z,Z,Z,Z] rfl rfl (by kernel_rfl) (fun _ _ _ h => h) (Or.inl ⟨by rfl, ?_⟩) hHeld ?_ ?_
  rotate_left
  · intro w' s0
    go_simp
    with_reducible rfl
  rotate_left
  · simp only [Act.put, List.setIfInBounds_toArray, List.set_cons_zero, List.set_cons_succ, i64_w, i32_w]
    rfl
  refine pure_ (i := 4) (N := (some 13)) (v := ?_) (a' := ?_) #[Y,Y,Y,Y,Y,Z,Z,Z,Z,Z,Z,Z,Z,Z,Z,Z,Z] rfl rfl (by kernel_rfl) (fun _ _ _ h => h) (Or.inl ⟨by rfl, ?_⟩) ?_ ?_
  rotate_left
  · intro w'
    go_simp
    with_reducible rfl
  rotate_left
  · simp only [Act.put, List.setIfInBounds_toArray, List.set_cons_zero, List.set_cons_succ, i64_w, i32_w]
    rfl
  refine pure_ (i := 5) (N := (some 14)) (v := ?_) (a' := ?_) #[Y,Y,Y,Y,Y,Y,Z,Z,Z,Z,Z,Z,Z,Z,Z,Z,Z] rfl rfl (by kernel_rfl) (fun _ _ _ h => h) (Or.inl ⟨by rfl, ?_⟩) ?_ ?_
  rotate_left
  · intro w'
    go_simp
    with_reducible rfl
  rotate_left
  · simp only [Act.put, List.setIfInBounds_toArray, List.set_cons_zero, List.set_cons_succ, i64_w, i32_w]
    rfl
  refine pure_ (i := 6) (N := (some 15)) (v := ?_) (a' := ?_) #[Y,Y,Y,Y,Y,Y,Y,Z,Z,Z,Z,Z,Z,Z,Z,Z,Z] rfl rfl (by kernel_rfl) (fun _ _ _ h => h) (Or.inl ⟨by rfl, ?_⟩) ?_ ?_
  rotate_left
  · intro w'
    go_simp
    with_reducible rfl
  rotate_left
  · simp only [Act.put, List.setIfInBounds_toArray, List.set_cons_zero, List.set_cons_succ, i64_w, i32_w]
    rfl
  refine take_ (i := 7) (N := (some 16)) (v := ?_) (a' := ?_) #[Y,Y,Y,Y,Y,Y,Y,Y,Z,Z,Z,Z,Z,Z,Z,Z,Z] rfl rfl (by kernel_rfl) (fun _ _ _ h => h) (Or.inl ⟨by rfl, ?_⟩) hHeld ?_ ?_
  rotate_left
  · intro w' s0
    go_simp
    with_reducible rfl
  rotate_left
  · simp only [Act.put, List.setIfInBounds_toArray, List.set_cons_zero, List.set_cons_succ, i64_w, i32_w]
    rfl
  refine pure_ (i := 8) (N := (some 17)) (v := ?_) (a' := ?_) #[Y,Y,Y,Y,Y,Y,Y,Y,Y,Z,Z,Z,Z,Z,Z,Z,Z] rfl rfl (by kernel_rfl) (fun _ _ _ h => h) (Or.inl ⟨by rfl, ?_⟩) ?_ ?_
  rotate_left
  · intro w'
    go_simp
    with_reducible rfl
  rotate_left
  · simp only [Act.put, List.setIfInBounds_toArray, List.set_cons_zero, List.set_cons_succ, i64_w, i32_w]
    rfl
  refine one_ (i := 9) (N := (some 18)) #[Y,Y,Y,Y,Y,Y,Y,Y,Y,Y,Z,Z,Z,Z,Z,Z,Z] rfl rfl (by kernel_rfl) (by decide) (fun K hK => ?_)
  refine goes_ Try.func145 (by kernel_rfl) rfl #[.string (s.extract p s.size)] (by rfl) rfl rfl (by (try simp only [List.map_toArray, List.map_cons, List.map_nil]); first | done | rfl) ?_
  refine (vint_Take.calls kk _ n u er _ HKK.out).mono ?_
  rintro e w1 ⟨rfl, hb1⟩
  refine ⟨_, rfl, ?_⟩
  have hb1 : Below w.heap.size w w1 := below_step (below_drew (Below.refl _ _)) hb1
  have HG1 : Aside0 (w1.heap[g]? = some (.cells #[.string s, .int .i64 (p : Int), .bool b] TR (0, 0))) := ⟨blk_below HG.out hb1⟩
  have HB1 := Aside0.mk hb1
  refine hK.out _ _ ⟨(cell_of_row w1 g 0 _ _ _ HG1.out).trans rfl, (cell_of_row w1 g 1 _ _ _ HG1.out).trans rfl⟩ (fun hHeld => ?_)
  clear hb1
  clear hK K
  refine norm_ (a' := ?_) ?_ ?_
  rotate_left
  · show Act.put _ (some 18) _ = _
    simp only [Act.put, List.setIfInBounds_toArray, List.set_cons_zero, List.set_cons_succ, i64_w, i32_w]
    rfl
  refine pure_ (i := 10) (N := (some 8)) (v := ?_) (a' := ?_) #[Y,Y,Y,Y,Y,Y,Y,Y,Y,Y,Y,Z,Z,Z,Z,Z,Z] rfl rfl (by kernel_rfl) (fun _ _ _ h => h) (Or.inl ⟨by rfl, ?_⟩) ?_ ?_
  rotate_left
  · intro w'
    go_simp
    with_reducible rfl
  rotate_left
  · simp only [Act.put, List.setIfInBounds_toArray, List.set_cons_zero, List.set_cons_succ, i64_w, i32_w]
    rfl
  refine pure_ (i := 11) (N := (some 19)) (v := ?_) (a' := ?_) #[Y,Y,Y,Y,Y,Y,Y,Y,Y,Y,Y,Y,Z,Z,Z,Z,Z] rfl rfl (by kernel_rfl) (fun _ _ _ h => h) (Or.inl ⟨by rfl, ?_⟩) ?_ ?_
  rotate_left
  · intro w'
    go_simp
    with_reducible rfl
  rotate_left
  · simp only [Act.put, List.setIfInBounds_toArray, List.set_cons_zero, List.set_cons_succ, i64_w, i32_w]
    rfl
  refine pure_ (i := 12) (N := (some 20)) (v := ?_) (a' := ?_) #[Y,Y,Y,Y,Y,Y,Y,Y,Y,Y,Y,Y,Y,Z,Z,Z,Z] rfl rfl (by kernel_rfl) (fun _ _ _ h => h) (Or.inl ⟨by rfl, ?_⟩) ?_ ?_
  rotate_left
  · intro w'
    go_simp
    with_reducible rfl
  rotate_left
  · simp only [Act.put, List.setIfInBounds_toArray, List.set_cons_zero, List.set_cons_succ, i64_w, i32_w]
    rfl
  refine pure_ (i := 13) (N := (some 21)) (v := ?_) (a' := ?_) #[Y,Y,Y,Y,Y,Y,Y,Y,Y,Y,Y,Y,Y,Y,Z,Z,Z] rfl rfl (by kernel_rfl) (fun _ _ _ h => h) (Or.inl ⟨by rfl, ?_⟩) ?_ ?_
  rotate_left
  · intro w'
    go_simp
    with_reducible rfl
  rotate_left
  · simp only [Act.put, List.setIfInBounds_toArray, List.set_cons_zero, List.set_cons_succ, i64_w, i32_w]
    rfl
  refine pure_ (i := 14) (N := (some 5)) (v := ?_) (a' := ?_) #[Y,Y,Y,Y,Y,Y,Y,Y,Y,Y,Y,Y,Y,Y,Y,Z,Z] rfl rfl (by kernel_rfl) (fun _ _ _ h => h) (Or.inl ⟨by rfl, ?_⟩) ?_ ?_
  rotate_left
  · intro w'
    go_simp
    with_reducible rfl
  rotate_left
  · simp only [Act.put, List.setIfInBounds_toArray, List.set_cons_zero, List.set_cons_succ, i64_w, i32_w]
    rfl
  refine pure_ (i := 15) (N := (some 6)) (v := ?_) (a' := ?_) #[Y,Y,Y,Y,Y,Y,Y,Y,Y,Y,Y,Y,Y,Y,Y,Y,Z] rfl rfl (by kernel_rfl) (fun _ _ _ h => h) (Or.inl ⟨by rfl, ?_⟩) ?_ ?_
  rotate_left
  · intro w'
    go_simp
    with_reducible rfl
  rotate_left
  · simp only [Act.put, List.setIfInBounds_toArray, List.set_cons_zero, List.set_cons_succ, i64_w, i32_w]
    rfl
  refine pure_ (i := 16) (N := (some 7)) (v := ?_) (a' := ?_) #[Y,Y,Y,Y,Y,Y,Y,Y,Y,Y,Y,Y,Y,Y,Y,Y,Y] rfl rfl (by kernel_rfl) (fun _ _ _ h => h) (Or.inl ⟨by rfl, ?_⟩) ?_ ?_
  rotate_left
  · intro w'
    go_simp
    with_reducible rfl
  rotate_left
  · simp only [Act.put, List.setIfInBounds_toArray, List.set_cons_zero, List.set_cons_succ, i64_w, i32_w]
    rfl
  refine done_ (by kernel_rfl) ?_
  have hc1 : w1.cell? ⟨g, 1, none⟩ = some (.int .i64 (p : Int)) := (cell_of_row w1 g 1 _ _ _ HG1.out).trans rfl
  have hc2 : w1.cell? ⟨g, 2, none⟩ = some (.bool b) := (cell_of_row w1 g 2 _ _ _ HG1.out).trans rfl
  have hf := frozen_of_row w1 g 2 _ _ HG1.out
  have hf1 := frozen_of_row w1 g 1 _ _ HG1.out
  cases hb : b with
  | true =>
    subst hb
    have HE : Aside0 (num1 s m ⟨p, true⟩ = (0, ⟨p, true⟩)) := ⟨by unfold num1; rw [if_pos (by unfold failN; rfl)]⟩
    go_wp2_with fail
    go_ret
    refine ⟨by rw [HE.out]; rfl, ?_, ?_⟩
    · rw [HE.out]
      exact ⟨by have h := blk_set HG1.out 2 (.bool true); simpa using h, hp⟩
    · exact Chg.then_ (Chg.of_below HB1.out) (Chg.setCell (ok := fun k => k = g) w1 g 2 _ rfl) (fun _ _ h => h)
  | false =>
  subst hb
  by_cases he : er = 0
  case neg =>
    have hne : (er != 0) = true := by simpa using he
    have hne2 : (er == 0) = false := by simpa using he
    have HE : Aside0 (num1 s m ⟨p, false⟩ = (0, ⟨p, true⟩)) := ⟨by unfold num1; rw [if_pos (by unfold failN; rw [HT.out]; simp only [Bool.or_eq_true, decide_eq_true_eq]; exact .inr (.inl he))]⟩
    clear he
    go_wp2_with fail
    go_ret
    refine ⟨by rw [HE.out]; rfl, ?_, ?_⟩
    · rw [HE.out]
      exact ⟨by have h := blk_set HG1.out 2 (.bool true); simpa using h, hp⟩
    · exact Chg.then_ (Chg.of_below HB1.out) (Chg.setCell (ok := fun k => k = g) w1 g 2 _ rfl) (fun _ _ h => h)
  subst he
  obtain ⟨u', rfl, hu1, hu2⟩ := HU.out rfl
  by_cases hn : n < 0
  case pos =>
    have hd : decide (n < 0) = true := decide_eq_true hn
    have HE : Aside0 (num1 s m ⟨p, false⟩ = (0, ⟨p, true⟩)) := ⟨by unfold num1; rw [if_pos (by unfold failN; rw [HT.out]; simp only [Bool.or_eq_true, decide_eq_true_eq]; exact .inr (.inr (.inl hn)))]⟩
    clear hn
    go_wp2_with fail
    go_ret
    refine ⟨by rw [HE.out]; rfl, ?_, ?_⟩
    · rw [HE.out]
      exact ⟨by have h := blk_set HG1.out 2 (.bool true); simpa using h, hp⟩
    · exact Chg.then_ (Chg.of_below HB1.out) (Chg.setCell (ok := fun k => k = g) w1 g 2 _ rfl) (fun _ _ h => h)
  by_cases hm : n > m
  case pos =>
    have hd : decide (n < 0) = false := decide_eq_false hn
    have hd2 : decide (n > m) = true := decide_eq_true hm
    have HE : Aside0 (num1 s m ⟨p, false⟩ = (0, ⟨p, true⟩)) := ⟨by unfold num1; rw [if_pos (by unfold failN; rw [HT.out]; simp only [Bool.or_eq_true, decide_eq_true_eq]; exact .inr (.inr (.inr hm)))]⟩
    clear hn hm
    go_wp2_with fail
    go_ret
    refine ⟨by rw [HE.out]; rfl, ?_, ?_⟩
    · rw [HE.out]
      exact ⟨by have h := blk_set HG1.out 2 (.bool true); simpa using h, hp⟩
    · exact Chg.then_ (Chg.of_below HB1.out) (Chg.setCell (ok := fun k => k = g) w1 g 2 _ rfl) (fun _ _ h => h)
  have hd : decide (n < 0) = false := decide_eq_false hn
  have hd2 : decide (n > m) = false := decide_eq_false hm
  have HE : Aside0 (num1 s m ⟨p, false⟩ = (n, ⟨p + u', false⟩)) := ⟨by unfold num1; rw [if_neg (by unfold failN; rw [HT.out]; simp only [Bool.or_eq_true, decide_eq_true_eq]; intro h; rcases h with h | h | h | h; cases h; exact h rfl; exact hn h; exact hm h), HT.out]; rfl⟩
  clear hn hm
  have hw : wrap64 ((p : Int) + (u' : Int)) = ((p + u' : Nat) : Int) := by rw [Go.Proofs.Ytgjclhhjigflkac.Vi.w64 _ (by omega) (by omega)]; omega
  go_wp2_with fail
  go_ret
  refine ⟨by rw [HE.out]; rfl, ?_, ?_⟩
  · rw [HE.out]
    exact ⟨by have h := blk_set (blk_set HG1.out 2 (.bool false)) 1 (.int .i64 ((p + u' : Nat) : Int)); simpa using h, hu2⟩
  · exact Chg.then_ (Chg.then_ (Chg.of_below HB1.out) (Chg.setCell (ok := fun k => k = g) w1 g 2 _ rfl) (fun _ _ h => h)) (Chg.setCell (ok := fun k => k = g) _ g 1 _ rfl) (fun _ _ h => h)
set_option maxHeartbeats 4000000 in
set_option maxRecDepth 100000 in
theorem rname_calls (s : ByteArray) (hs : s.size ≤ 1000000000) (g : Nat) (x : RS) (w : World) (h : Rd TR w g s x) :
    Calls Try.prog 110 #[.pointer (some ⟨g, 0, none⟩)] w fun e w' => e = .returned (.string (nm1 s x).1) ∧ Rd TR w' g s (nm1 s x).2 ∧ Chg w w' (fun k => k = g) := by
  have HX := Aside0.mk h
  clear h
  go_enter Try.func110, Try.ntmps110
  go_wp2_with fail
  refine (num_calls s hs g 16 x w HX.out).mono ?_
  rintro e w1 ⟨rfl, hx1, hc1⟩
  have hrg := num1_range s 16 (by decide) x
  have HE : Aside0 (nm1 s x = if failT s (num1 s 16 x) = true then (⟨#[]⟩, ⟨(num1 s 16 x).2.at_, true⟩) else (s.extract (num1 s 16 x).2.at_ ((num1 s 16 x).2.at_ + (num1 s 16 x).1.toNat), ⟨(num1 s 16 x).2.at_ + (num1 s 16 x).1.toNat, false⟩)) := ⟨rfl⟩
  obtain ⟨n, p, b, hn⟩ : ∃ n p b, num1 s 16 x = (n, ⟨p, b⟩) := ⟨_, _, _, rfl⟩
  rw [hn] at hx1 hrg HE ⊢
  clear hn
  obtain ⟨k, rfl⟩ : ∃ k : Nat, n = (k : Int) := ⟨n.toNat, by have h : 0 ≤ n := hrg.1; omega⟩
  obtain ⟨hg1, hp⟩ := hx1
  have hp : p ≤ s.size := hp
  have hk : (k : Int) ≤ 16 := hrg.2
  have HG1 : Aside0 (w1.drew.heap[g]? = some (.cells #[.string s, .int .i64 (p : Int), .bool b] TR (0, 0))) := ⟨hg1⟩
  have HC1 : Aside0 (Chg w w1.drew (fun k => k = g)) := ⟨hc1.trans (Chg.drew _ _)⟩
  clear hg1 hc1 hrg
  have hc0 : w1.drew.cell? ⟨g, 0, none⟩ = some (.string s) := (cell_of_row w1.drew g 0 _ _ _ HG1.out).trans rfl
  have hc1 : w1.drew.cell? ⟨g, 1, none⟩ = some (.int .i64 (p : Int)) := (cell_of_row w1.drew g 1 _ _ _ HG1.out).trans rfl
  have hc2 : w1.drew.cell? ⟨g, 2, none⟩ = some (.bool b) := (cell_of_row w1.drew g 2 _ _ _ HG1.out).trans rfl
  have hf1 := frozen_of_row w1.drew g 1 _ _ HG1.out
  have hf2 := frozen_of_row w1.drew g 2 _ _ HG1.out
  cases hb : b with
  | true =>
    subst hb
    have HF : Aside0 (failT s ((k : Int), (⟨p, true⟩ : RS)) = true) := ⟨rfl⟩
    go_wp2_with fail
    refine start_ (n := 22) (S := fun w' => w'.cell? ⟨g, 0, none⟩ = some (.string s) ∧ w'.cell? ⟨g, 1, none⟩ = some (.int .i64 (p : Int)) ∧ w'.cell? ⟨g, 2, none⟩ = some (.bool true)) (ds := [21]) #[Z,Z,Z,Z,Z,Z,Z,Z,Z,Z,Z,Z,Z,Z,Z,Z,Z,Z,Z,Z,Z,Z] (by kernel_rfl) rfl rfl (⟨hc0, hc1, hc2⟩) (fun hHeld => ?_)
    refine pure_ (i := 0) (N := (some 6)) (v := ?_) (a' := ?_) #[Y,Z,Z,Z,Z,Z,Z,Z,Z,Z,Z,Z,Z,Z,Z,Z,Z,Z,Z,Z,Z,Z] rfl rfl (by kernel_rfl) (fun _ _ _ h => h) (Or.inl ⟨by rfl, ?_⟩) ?_ ?_
    rotate_left
    · intro w'
      go_simp
      with_reducible rfl
    rotate_left
    · simp only [Act.put, List.setIfInBounds_toArray, List.set_cons_zero, List.set_cons_succ, i64_w, i32_w]
      rfl
    refine pure_ (i := 1) (N := (some 7)) (v := ?_) (a' := ?_) #[Y,Y,Z,Z,Z,Z,Z,Z,Z,Z,Z,Z,Z,Z,Z,Z,Z,Z,Z,Z,Z,Z] rfl rfl (by kernel_rfl) (fun _ _ _ h => h) (Or.inl ⟨by rfl, ?_⟩) ?_ ?_
    rotate_left
    · intro w'
      go_simp
      with_reducible rfl
    rotate_left
    · simp only [Act.put, List.setIfInBounds_toArray, List.set_cons_zero, List.set_cons_succ, i64_w, i32_w]
      rfl
    refine pure_ (i := 2) (N := (some 8)) (v := ?_) (a' := ?_) #[Y,Y,Y,Z,Z,Z,Z,Z,Z,Z,Z,Z,Z,Z,Z,Z,Z,Z,Z,Z,Z,Z] rfl rfl (by kernel_rfl) (fun _ _ _ h => h) (Or.inl ⟨by rfl, ?_⟩) ?_ ?_
    rotate_left
    · intro w'
      go_simp
      with_reducible rfl
    rotate_left
    · simp only [Act.put, List.setIfInBounds_toArray, List.set_cons_zero, List.set_cons_succ, i64_w, i32_w]
      rfl
    refine pure_ (i := 3) (N := (some 9)) (v := ?_) (a' := ?_) #[Y,Y,Y,Y,Z,Z,Z,Z,Z,Z,Z,Z,Z,Z,Z,Z,Z,Z,Z,Z,Z,Z] rfl rfl (by kernel_rfl) (fun _ _ _ h => h) (Or.inl ⟨by rfl, ?_⟩) ?_ ?_
    rotate_left
    · intro w'
      go_simp
      with_reducible rfl
    rotate_left
    · simp only [Act.put, List.setIfInBounds_toArray, List.set_cons_zero, List.set_cons_succ, i64_w, i32_w]
      rfl
    refine take_ (i := 4) (N := (some 10)) (v := ?_) (a' := ?_) #[Y,Y,Y,Y,Y,Z,Z,Z,Z,Z,Z,Z,Z,Z,Z,Z,Z,Z,Z,Z,Z,Z] rfl rfl (by kernel_rfl) (fun _ _ _ h => h) (Or.inl ⟨by rfl, ?_⟩) hHeld ?_ ?_
    rotate_left
    · intro w' s0
      go_simp
      with_reducible rfl
    rotate_left
    · simp only [Act.put, List.setIfInBounds_toArray, List.set_cons_zero, List.set_cons_succ, i64_w, i32_w]
      rfl
    refine pure_ (i := 5) (N := (some 11)) (v := ?_) (a' := ?_) #[Y,Y,Y,Y,Y,Y,Z,Z,Z,Z,Z,Z,Z,Z,Z,Z,Z,Z,Z,Z,Z,Z] rfl rfl (by kernel_rfl) (fun _ _ _ h => h) (Or.inl ⟨by rfl, ?_⟩) ?_ ?_
    rotate_left
    · intro w'
      go_simp
      with_reducible rfl
    rotate_left
    · simp only [Act.put, List.setIfInBounds_toArray, List.set_cons_zero, List.set_cons_succ, i64_w, i32_w]
      rfl
    refine pure_ (i := 6) (N := (some 12)) (v := undef) (a' := ?_) #[Y,Y,Y,Y,Y,Y,Y,Z,Z,Z,Z,Z,Z,Z,Z,Z,Z,Z,Z,Z,Z,Z] rfl rfl (by kernel_rfl) (fun _ _ _ h => h) (Or.inr ⟨by rfl, rfl⟩) ?_ ?_
    rotate_left
    · simp only [Act.put, List.setIfInBounds_toArray, List.set_cons_zero, List.set_cons_succ, i64_w, i32_w]
      rfl
    refine pure_ (i := 7) (N := (some 13)) (v := undef) (a' := ?_) #[Y,Y,Y,Y,Y,Y,Y,Y,Z,Z,Z,Z,Z,Z,Z,Z,Z,Z,Z,Z,Z,Z] rfl rfl (by kernel_rfl) (fun _ _ _ h => h) (Or.inr ⟨by rfl, rfl⟩) ?_ ?_
    rotate_left
    · simp only [Act.put, List.setIfInBounds_toArray, List.set_cons_zero, List.set_cons_succ, i64_w, i32_w]
      rfl
    refine pure_ (i := 8) (N := (some 14)) (v := undef) (a' := ?_) #[Y,Y,Y,Y,Y,Y,Y,Y,Y,Z,Z,Z,Z,Z,Z,Z,Z,Z,Z,Z,Z,Z] rfl rfl (by kernel_rfl) (fun _ _ _ h => h) (Or.inr ⟨by rfl, rfl⟩) ?_ ?_
    rotate_left
    · simp only [Act.put, List.setIfInBounds_toArray, List.set_cons_zero, List.set_cons_succ, i64_w, i32_w]
      rfl
    refine pure_ (i := 9) (N := (some 15)) (v := undef) (a' := ?_) #[Y,Y,Y,Y,Y,Y,Y,Y,Y,Y,Z,Z,Z,Z,Z,Z,Z,Z,Z,Z,Z,Z] rfl rfl (by kernel_rfl) (fun _ _ _ h => h) (Or.inr ⟨by rfl, rfl⟩) ?_ ?_
    rotate_left
    · simp only [Act.put, List.setIfInBounds_toArray, List.set_cons_zero, List.set_cons_succ, i64_w, i32_w]
      rfl
    refine pure_ (i := 10) (N := (some 16)) (v := undef) (a' := ?_) #[Y,Y,Y,Y,Y,Y,Y,Y,Y,Y,Y,Z,Z,Z,Z,Z,Z,Z,Z,Z,Z,Z] rfl rfl (by kernel_rfl) (fun _ _ _ h => h) (Or.inr ⟨by rfl, rfl⟩) ?_ ?_
    rotate_left
    · simp only [Act.put, List.setIfInBounds_toArray, List.set_cons_zero, List.set_cons_succ, i64_w, i32_w]
      rfl
    refine pure_ (i := 11) (N := (some 17)) (v := undef) (a' := ?_) #[Y,Y,Y,Y,Y,Y,Y,Y,Y,Y,Y,Y,Z,Z,Z,Z,Z,Z,Z,Z,Z,Z] rfl rfl (by kernel_rfl) (fun _ _ _ h => h) (Or.inr ⟨by rfl, rfl⟩) ?_ ?_
    rotate_left
    · simp only [Act.put, List.setIfInBounds_toArray, List.set_cons_zero, List.set_cons_succ, i64_w, i32_w]
      rfl
    refine pure_ (i := 12) (N := (some 18)) (v := undef) (a' := ?_) #[Y,Y,Y,Y,Y,Y,Y,Y,Y,Y,Y,Y,Y,Z,Z,Z,Z,Z,Z,Z,Z,Z] rfl rfl (by kernel_rfl) (fun _ _ _ h => h) (Or.inr ⟨by rfl, rfl⟩) ?_ ?_
    rotate_left
    · simp only [Act.put, List.setIfInBounds_toArray, List.set_cons_zero, List.set_cons_succ, i64_w, i32_w]
      rfl
    refine pure_ (i := 13) (N := (some 19)) (v := undef) (a' := ?_) #[Y,Y,Y,Y,Y,Y,Y,Y,Y,Y,Y,Y,Y,Y,Z,Z,Z,Z,Z,Z,Z,Z] rfl rfl (by kernel_rfl) (fun _ _ _ h => h) (Or.inr ⟨by rfl, rfl⟩) ?_ ?_
    rotate_left
    · simp only [Act.put, List.setIfInBounds_toArray, List.set_cons_zero, List.set_cons_succ, i64_w, i32_w]
      rfl
    refine pure_ (i := 14) (N := (some 20)) (v := undef) (a' := ?_) #[Y,Y,Y,Y,Y,Y,Y,Y,Y,Y,Y,Y,Y,Y,Y,Z,Z,Z,Z,Z,Z,Z] rfl rfl (by kernel_rfl) (fun _ _ _ h => h) (Or.inr ⟨by rfl, rfl⟩) ?_ ?_
    rotate_left
    · simp only [Act.put, List.setIfInBounds_toArray, List.set_cons_zero, List.set_cons_succ, i64_w, i32_w]
      rfl
    refine pure_ (i := 15) (N := (some 21)) (v := undef) (a' := ?_) #[Y,Y,Y,Y,Y,Y,Y,Y,Y,Y,Y,Y,Y,Y,Y,Y,Z,Z,Z,Z,Z,Z] rfl rfl (by kernel_rfl) (fun _ _ _ h => h) (Or.inr ⟨by rfl, rfl⟩) ?_ ?_
    rotate_left
    · simp only [Act.put, List.setIfInBounds_toArray, List.set_cons_zero, List.set_cons_succ, i64_w, i32_w]
      rfl
    refine pure_ (i := 16) (N := (some 22)) (v := undef) (a' := ?_) #[Y,Y,Y,Y,Y,Y,Y,Y,Y,Y,Y,Y,Y,Y,Y,Y,Y,Z,Z,Z,Z,Z] rfl rfl (by kernel_rfl) (fun _ _ _ h => h) (Or.inr ⟨by rfl, rfl⟩) ?_ ?_
    rotate_left
    · simp only [Act.put, List.setIfInBounds_toArray, List.set_cons_zero, List.set_cons_succ, i64_w, i32_w]
      rfl
    refine pure_ (i := 17) (N := (some 23)) (v := undef) (a' := ?_) #[Y,Y,Y,Y,Y,Y,Y,Y,Y,Y,Y,Y,Y,Y,Y,Y,Y,Y,Z,Z,Z,Z] rfl rfl (by kernel_rfl) (fun _ _ _ h => h) (Or.inr ⟨by rfl, rfl⟩) ?_ ?_
    rotate_left
    · simp only [Act.put, List.setIfInBounds_toArray, List.set_cons_zero, List.set_cons_succ, i64_w, i32_w]
      rfl
    refine pure_ (i := 18) (N := (some 24)) (v := ?_) (a' := ?_) #[Y,Y,Y,Y,Y,Y,Y,Y,Y,Y,Y,Y,Y,Y,Y,Y,Y,Y,Y,Z,Z,Z] rfl rfl (by kernel_rfl) (fun _ _ _ h => h) (Or.inl ⟨by rfl, ?_⟩) ?_ ?_
    rotate_left
    · intro w'
      go_simp
      with_reducible rfl
    rotate_left
    · simp only [Act.put, List.setIfInBounds_toArray, List.set_cons_zero, List.set_cons_succ, i64_w, i32_w]
      rfl
    refine pure_ (i := 19) (N := (some 25)) (v := ?_) (a' := ?_) #[Y,Y,Y,Y,Y,Y,Y,Y,Y,Y,Y,Y,Y,Y,Y,Y,Y,Y,Y,Y,Z,Z] rfl rfl (by kernel_rfl) (fun _ _ _ h => h) (Or.inl ⟨by rfl, ?_⟩) ?_ ?_
    rotate_left
    · intro w'
      go_simp
      with_reducible rfl
    rotate_left
    · simp only [Act.put, List.setIfInBounds_toArray, List.set_cons_zero, List.set_cons_succ, i64_w, i32_w]
      rfl
    refine pure_ (i := 20) (N := (some 26)) (v := ?_) (a' := ?_) #[Y,Y,Y,Y,Y,Y,Y,Y,Y,Y,Y,Y,Y,Y,Y,Y,Y,Y,Y,Y,Y,Z] rfl rfl (by kernel_rfl) (fun _ _ _ h => h) (Or.inl ⟨by rfl, ?_⟩) ?_ ?_
    rotate_left
    · intro w'
      go_simp
      with_reducible rfl
    rotate_left
    · simp only [Act.put, List.setIfInBounds_toArray, List.set_cons_zero, List.set_cons_succ, i64_w, i32_w]
      rfl
    refine last_ (i := 21) (N := none) #[Y,Y,Y,Y,Y,Y,Y,Y,Y,Y,Y,Y,Y,Y,Y,Y,Y,Y,Y,Y,Y,Y] rfl rfl (by kernel_rfl) (by decide) (fun K hK => ?_)
    refine skip_ (w1 := w1.drew.setCell ⟨g, 2, none⟩ (.bool true)) (by rfl) rfl (by first | (go_simp; done) | (go_simp; rfl)) ?_
    refine hK.out _ _ ?_
    clear hK K
    refine done_ (by kernel_rfl) ?_
    obtain ⟨w2, hw2⟩ : ∃ y, y = w1.drew.setCell ⟨g, 2, none⟩ (.bool true) := ⟨_, rfl⟩
    rw [← hw2]
    have HG2 : Aside0 (w2.heap[g]? = some (.cells #[.string s, .int .i64 (p : Int), .bool true] TR (0, 0))) := ⟨by rw [hw2]; have h := blk_set HG1.out 2 (.bool true); simpa using h⟩
    have HC2 : Aside0 (Chg w w2 (fun k => k = g)) := ⟨by rw [hw2]; exact Chg.then_ HC1.out (Chg.setCell (ok := fun k => k = g) _ g 2 _ rfl) (fun _ _ h => h)⟩
    clear hw2 hc0 hc1 hc2 hf1 hf2
    have hc1 : w2.cell? ⟨g, 1, none⟩ = some (.int .i64 (p : Int)) := (cell_of_row w2 g 1 _ _ _ HG2.out).trans rfl
    have hc2 : w2.cell? ⟨g, 2, none⟩ = some (.bool true) := (cell_of_row w2 g 2 _ _ _ HG2.out).trans rfl
    have hf1 := frozen_of_row w2 g 1 _ _ HG2.out
    go_wp2_with fail
    go_ret
    refine ⟨by rw [HE.out, HF.out]; rfl, ?_, ?_⟩
    · rw [HE.out, HF.out]
      exact ⟨HG2.out, hp⟩
    · exact HC2.out
  | false =>
  subst hb
  have hw : wrap64 ((s.size : Int) - (p : Int)) = ((s.size - p : Nat) : Int) := by rw [Go.Proofs.Ytgjclhhjigflkac.Vi.w64 _ (by omega) (by omega)]; omega
  by_cases hlt : s.size - p < k
  · have HF : Aside0 (failT s ((k : Int), (⟨p, false⟩ : RS)) = true) := ⟨by unfold failT; simp only [Bool.false_or, decide_eq_true_eq]; show (k : Int) > (s.size : Int) - (p : Int); omega⟩
    have hd : decide (((k : Nat) : Int) > ((s.size - p : Nat) : Int)) = true := decide_eq_true (by omega)
    have hd2 : decide (s.size - p < k) = true := decide_eq_true hlt
    go_wp2_with fail
    refine start_ (n := 22) (S := fun w' => w'.cell? ⟨g, 0, none⟩ = some (.string s) ∧ w'.cell? ⟨g, 1, none⟩ = some (.int .i64 (p : Int)) ∧ w'.cell? ⟨g, 2, none⟩ = some (.bool false)) (ds := [21]) #[Z,Z,Z,Z,Z,Z,Z,Z,Z,Z,Z,Z,Z,Z,Z,Z,Z,Z,Z,Z,Z,Z] (by kernel_rfl) rfl rfl (⟨hc0, hc1, hc2⟩) (fun hHeld => ?_)
    refine pure_ (i := 0) (N := (some 6)) (v := ?_) (a' := ?_) #[Y,Z,Z,Z,Z,Z,Z,Z,Z,Z,Z,Z,Z,Z,Z,Z,Z,Z,Z,Z,Z,Z] rfl rfl (by kernel_rfl) (fun _ _ _ h => h) (Or.inl ⟨by rfl, ?_⟩) ?_ ?_
    rotate_left
    · intro w'
      go_simp
      with_reducible rfl
    rotate_left
    · simp only [Act.put, List.setIfInBounds_toArray, List.set_cons_zero, List.set_cons_succ, i64_w, i32_w]
      rfl
    refine pure_ (i := 1) (N := (some 7)) (v := ?_) (a' := ?_) #[Y,Y,Z,Z,Z,Z,Z,Z,Z,Z,Z,Z,Z,Z,Z,Z,Z,Z,Z,Z,Z,Z] rfl rfl (by kernel_rfl) (fun _ _ _ h => h) (Or.inl ⟨by rfl, ?_⟩) ?_ ?_
    rotate_left
    · intro w'
      go_simp
      with_reducible rfl
    rotate_left
    · simp only [Act.put, List.setIfInBounds_toArray, List.set_cons_zero, List.set_cons_succ, i64_w, i32_w]
      rfl
    refine pure_ (i := 2) (N := (some 8)) (v := ?_) (a' := ?_) #[Y,Y,Y,Z,Z,Z,Z,Z,Z,Z,Z,Z,Z,Z,Z,Z,Z,Z,Z,Z,Z,Z] rfl rfl (by kernel_rfl) (fun _ _ _ h => h) (Or.inl ⟨by rfl, ?_⟩) ?_ ?_
    rotate_left
    · intro w'
      go_simp
      with_reducible rfl
    rotate_left
    · simp only [Act.put, List.setIfInBounds_toArray, List.set_cons_zero, List.set_cons_succ, i64_w, i32_w]
      rfl
    refine pure_ (i := 3) (N := (some 9)) (v := ?_) (a' := ?_) #[Y,Y,Y,Y,Z,Z,Z,Z,Z,Z,Z,Z,Z,Z,Z,Z,Z,Z,Z,Z,Z,Z] rfl rfl (by kernel_rfl) (fun _ _ _ h => h) (Or.inl ⟨by rfl, ?_⟩) ?_ ?_
    rotate_left
    · intro w'
      go_simp
      with_reducible rfl
    rotate_left
    · simp only [Act.put, List.setIfInBounds_toArray, List.set_cons_zero, List.set_cons_succ, i64_w, i32_w]
      rfl
    refine take_ (i := 4) (N := (some 10)) (v := ?_) (a' := ?_) #[Y,Y,Y,Y,Y,Z,Z,Z,Z,Z,Z,Z,Z,Z,Z,Z,Z,Z,Z,Z,Z,Z] rfl rfl (by kernel_rfl) (fun _ _ _ h => h) (Or.inl ⟨by rfl, ?_⟩) hHeld ?_ ?_
    rotate_left
    · intro w' s0
      go_simp
      with_reducible rfl
    rotate_left
    · simp only [Act.put, List.setIfInBounds_toArray, List.set_cons_zero, List.set_cons_succ, i64_w, i32_w]
      rfl
    refine pure_ (i := 5) (N := (some 11)) (v := ?_) (a' := ?_) #[Y,Y,Y,Y,Y,Y,Z,Z,Z,Z,Z,Z,Z,Z,Z,Z,Z,Z,Z,Z,Z,Z] rfl rfl (by kernel_rfl) (fun _ _ _ h => h) (Or.inl ⟨by rfl, ?_⟩) ?_ ?_
    rotate_left
    · intro w'
      go_simp
      with_reducible rfl
    rotate_left
    · simp only [Act.put, List.setIfInBounds_toArray, List.set_cons_zero, List.set_cons_succ, i64_w, i32_w]
      rfl
    refine pure_ (i := 6) (N := (some 12)) (v := ?_) (a' := ?_) #[Y,Y,Y,Y,Y,Y,Y,Z,Z,Z,Z,Z,Z,Z,Z,Z,Z,Z,Z,Z,Z,Z] rfl rfl (by kernel_rfl) (fun _ _ _ h => h) (Or.inl ⟨by rfl, ?_⟩) ?_ ?_
    rotate_left
    · intro w'
      go_simp
      with_reducible rfl
    rotate_left
    · simp only [Act.put, List.setIfInBounds_toArray, List.set_cons_zero, List.set_cons_succ, i64_w, i32_w]
      rfl
    refine pure_ (i := 7) (N := (some 13)) (v := ?_) (a' := ?_) #[Y,Y,Y,Y,Y,Y,Y,Y,Z,Z,Z,Z,Z,Z,Z,Z,Z,Z,Z,Z,Z,Z] rfl rfl (by kernel_rfl) (fun _ _ _ h => h) (Or.inl ⟨by rfl, ?_⟩) ?_ ?_
    rotate_left
    · intro w'
      go_simp
      with_reducible rfl
    rotate_left
    · simp only [Act.put, List.setIfInBounds_toArray, List.set_cons_zero, List.set_cons_succ, i64_w, i32_w]
      rfl
    refine pure_ (i := 8) (N := (some 14)) (v := ?_) (a' := ?_) #[Y,Y,Y,Y,Y,Y,Y,Y,Y,Z,Z,Z,Z,Z,Z,Z,Z,Z,Z,Z,Z,Z] rfl rfl (by kernel_rfl) (fun _ _ _ h => h) (Or.inl ⟨by rfl, ?_⟩) ?_ ?_
    rotate_left
    · intro w'
      go_simp
      with_reducible rfl
    rotate_left
    · simp only [Act.put, List.setIfInBounds_toArray, List.set_cons_zero, List.set_cons_succ, i64_w, i32_w]
      rfl
    refine pure_ (i := 9) (N := (some 15)) (v := ?_) (a' := ?_) #[Y,Y,Y,Y,Y,Y,Y,Y,Y,Y,Z,Z,Z,Z,Z,Z,Z,Z,Z,Z,Z,Z] rfl rfl (by kernel_rfl) (fun _ _ _ h => h) (Or.inl ⟨by rfl, ?_⟩) ?_ ?_
    rotate_left
    · intro w'
      go_simp
      with_reducible rfl
    rotate_left
    · simp only [Act.put, List.setIfInBounds_toArray, List.set_cons_zero, List.set_cons_succ, i64_w, i32_w]
      rfl
    refine take_ (i := 10) (N := (some 16)) (v := ?_) (a' := ?_) #[Y,Y,Y,Y,Y,Y,Y,Y,Y,Y,Y,Z,Z,Z,Z,Z,Z,Z,Z,Z,Z,Z] rfl rfl (by kernel_rfl) (fun _ _ _ h => h) (Or.inl ⟨by rfl, ?_⟩) hHeld ?_ ?_
    rotate_left
    · intro w' s0
      go_simp
      with_reducible rfl
    rotate_left
    · simp only [Act.put, List.setIfInBounds_toArray, List.set_cons_zero, List.set_cons_succ, i64_w, i32_w]
      rfl
    refine pure_ (i := 11) (N := (some 17)) (v := ?_) (a' := ?_) #[Y,Y,Y,Y,Y,Y,Y,Y,Y,Y,Y,Y,Z,Z,Z,Z,Z,Z,Z,Z,Z,Z] rfl rfl (by kernel_rfl) (fun _ _ _ h => h) (Or.inl ⟨by rfl, ?_⟩) ?_ ?_
    rotate_left
    · intro w'
      go_simp
      with_reducible rfl
    rotate_left
    · simp only [Act.put, List.setIfInBounds_toArray, List.set_cons_zero, List.set_cons_succ, i64_w, i32_w]
      rfl
    refine pure_ (i := 12) (N := (some 18)) (v := ?_) (a' := ?_) #[Y,Y,Y,Y,Y,Y,Y,Y,Y,Y,Y,Y,Y,Z,Z,Z,Z,Z,Z,Z,Z,Z] rfl rfl (by kernel_rfl) (fun _ _ _ h => h) (Or.inl ⟨by rfl, ?_⟩) ?_ ?_
    rotate_left
    · intro w'
      go_simp
      with_reducible rfl
    rotate_left
    · simp only [Act.put, List.setIfInBounds_toArray, List.set_cons_zero, List.set_cons_succ, i64_w, i32_w]
      rfl
    refine pure_ (i := 13) (N := (some 19)) (v := ?_) (a' := ?_) #[Y,Y,Y,Y,Y,Y,Y,Y,Y,Y,Y,Y,Y,Y,Z,Z,Z,Z,Z,Z,Z,Z] rfl rfl (by kernel_rfl) (fun _ _ _ h => h) (Or.inl ⟨by rfl, ?_⟩) ?_ ?_
    rotate_left
    · intro w'
      go_simp
      with_reducible rfl
    rotate_left
    · simp only [Act.put, List.setIfInBounds_toArray, List.set_cons_zero, List.set_cons_succ, i64_w, i32_w]
      rfl
    refine pure_ (i := 14) (N := (some 20)) (v := ?_) (a' := ?_) #[Y,Y,Y,Y,Y,Y,Y,Y,Y,Y,Y,Y,Y,Y,Y,Z,Z,Z,Z,Z,Z,Z] rfl rfl (by kernel_rfl) (fun _ _ _ h => h) (Or.inl ⟨by rfl, ?_⟩) ?_ ?_
    rotate_left
    · intro w'
      go_simp
      with_reducible rfl
    rotate_left
    · simp only [Act.put, List.setIfInBounds_toArray, List.set_cons_zero, List.set_cons_succ, i64_w, i32_w]
      rfl
    refine take_ (i := 15) (N := (some 21)) (v := ?_) (a' := ?_) #[Y,Y,Y,Y,Y,Y,Y,Y,Y,Y,Y,Y,Y,Y,Y,Y,Z,Z,Z,Z,Z,Z] rfl rfl (by kernel_rfl) (fun _ _ _ h => h) (Or.inl ⟨by rfl, ?_⟩) hHeld ?_ ?_
    rotate_left
    · intro w' s0
      go_simp
      with_reducible rfl
    rotate_left
    · simp only [Act.put, List.setIfInBounds_toArray, List.set_cons_zero, List.set_cons_succ, i64_w, i32_w]
      rfl
    refine pure_ (i := 16) (N := (some 22)) (v := ?_) (a' := ?_) #[Y,Y,Y,Y,Y,Y,Y,Y,Y,Y,Y,Y,Y,Y,Y,Y,Y,Z,Z,Z,Z,Z] rfl rfl (by kernel_rfl) (fun _ _ _ h => h) (Or.inl ⟨by rfl, ?_⟩) ?_ ?_
    rotate_left
    · intro w'
      go_simp
      with_reducible rfl
    rotate_left
    · simp only [Act.put, List.setIfInBounds_toArray, List.set_cons_zero, List.set_cons_succ, i64_w, i32_w]
      rfl
    refine pure_ (i := 17) (N := (some 23)) (v := ?_) (a' := ?_) #[Y,Y,Y,Y,Y,Y,Y,Y,Y,Y,Y,Y,Y,Y,Y,Y,Y,Y,Z,Z,Z,Z] rfl rfl (by kernel_rfl) (fun _ _ _ h => h) (Or.inl ⟨by rfl, ?_⟩) ?_ ?_
    rotate_left
    · intro w'
      go_simp
      with_reducible rfl
    rotate_left
    · simp only [Act.put, List.setIfInBounds_toArray, List.set_cons_zero, List.set_cons_succ, i64_w, i32_w]
      rfl
    refine pure_ (i := 18) (N := (some 24)) (v := ?_) (a' := ?_) #[Y,Y,Y,Y,Y,Y,Y,Y,Y,Y,Y,Y,Y,Y,Y,Y,Y,Y,Y,Z,Z,Z] rfl rfl (by kernel_rfl) (fun _ _ _ h => h) (Or.inl ⟨by rfl, ?_⟩) ?_ ?_
    rotate_left
    · intro w'
      go_simp
      with_reducible rfl
    rotate_left
    · simp only [Act.put, List.setIfInBounds_toArray, List.set_cons_zero, List.set_cons_succ, i64_w, i32_w]
      rfl
    refine pure_ (i := 19) (N := (some 25)) (v := ?_) (a' := ?_) #[Y,Y,Y,Y,Y,Y,Y,Y,Y,Y,Y,Y,Y,Y,Y,Y,Y,Y,Y,Y,Z,Z] rfl rfl (by kernel_rfl) (fun _ _ _ h => h) (Or.inl ⟨by rfl, ?_⟩) ?_ ?_
    rotate_left
    · intro w'
      go_simp
      with_reducible rfl
    rotate_left
    · simp only [Act.put, List.setIfInBounds_toArray, List.set_cons_zero, List.set_cons_succ, i64_w, i32_w]
      rfl
    refine pure_ (i := 20) (N := (some 26)) (v := ?_) (a' := ?_) #[Y,Y,Y,Y,Y,Y,Y,Y,Y,Y,Y,Y,Y,Y,Y,Y,Y,Y,Y,Y,Y,Z] rfl rfl (by kernel_rfl) (fun _ _ _ h => h) (Or.inl ⟨by rfl, ?_⟩) ?_ ?_
    rotate_left
    · intro w'
      go_simp
      with_reducible rfl
    rotate_left
    · simp only [Act.put, List.setIfInBounds_toArray, List.set_cons_zero, List.set_cons_succ, i64_w, i32_w]
      rfl
    refine last_ (i := 21) (N := none) #[Y,Y,Y,Y,Y,Y,Y,Y,Y,Y,Y,Y,Y,Y,Y,Y,Y,Y,Y,Y,Y,Y] rfl rfl (by kernel_rfl) (by decide) (fun K hK => ?_)
    refine skip_ (w1 := w1.drew.setCell ⟨g, 2, none⟩ (.bool true)) (by rfl) rfl (by first | (go_simp; done) | (go_simp; rfl)) ?_
    refine hK.out _ _ ?_
    clear hK K
    refine done_ (by kernel_rfl) ?_
    obtain ⟨w2, hw2⟩ : ∃ y, y = w1.drew.setCell ⟨g, 2, none⟩ (.bool true) := ⟨_, rfl⟩
    rw [← hw2]
    have HG2 : Aside0 (w2.heap[g]? = some (.cells #[.string s, .int .i64 (p : Int), .bool true] TR (0, 0))) := ⟨by rw [hw2]; have h := blk_set HG1.out 2 (.bool true); simpa using h⟩
    have HC2 : Aside0 (Chg w w2 (fun k => k = g)) := ⟨by rw [hw2]; exact Chg.then_ HC1.out (Chg.setCell (ok := fun k => k = g) _ g 2 _ rfl) (fun _ _ h => h)⟩
    clear hw2 hc0 hc1 hc2 hf1 hf2
    have hc1 : w2.cell? ⟨g, 1, none⟩ = some (.int .i64 (p : Int)) := (cell_of_row w2 g 1 _ _ _ HG2.out).trans rfl
    have hc2 : w2.cell? ⟨g, 2, none⟩ = some (.bool true) := (cell_of_row w2 g 2 _ _ _ HG2.out).trans rfl
    have hf1 := frozen_of_row w2 g 1 _ _ HG2.out
    go_wp2_with fail
    go_ret
    refine ⟨by rw [HE.out, HF.out]; rfl, ?_, ?_⟩
    · rw [HE.out, HF.out]
      exact ⟨HG2.out, hp⟩
    · exact HC2.out
  · have HF : Aside0 (failT s ((k : Int), (⟨p, false⟩ : RS)) = false) := ⟨by unfold failT; simp only [Bool.false_or, decide_eq_false_iff_not]; show ¬ (k : Int) > (s.size : Int) - (p : Int); omega⟩
    have hd : decide (((k : Nat) : Int) > ((s.size - p : Nat) : Int)) = false := decide_eq_false (by omega)
    have hd2 : decide (s.size - p < k) = false := decide_eq_false hlt
    go_wp2_with fail
    refine start_ (n := 22) (S := fun w' => w'.cell? ⟨g, 0, none⟩ = some (.string s) ∧ w'.cell? ⟨g, 1, none⟩ = some (.int .i64 (p : Int)) ∧ w'.cell? ⟨g, 2, none⟩ = some (.bool false)) (ds := [21]) #[Z,Z,Z,Z,Z,Z,Z,Z,Z,Z,Z,Z,Z,Z,Z,Z,Z,Z,Z,Z,Z,Z] (by kernel_rfl) rfl rfl (⟨hc0, hc1, hc2⟩) (fun hHeld => ?_)
    refine pure_ (i := 0) (N := (some 6)) (v := ?_) (a' := ?_) #[Y,Z,Z,Z,Z,Z,Z,Z,Z,Z,Z,Z,Z,Z,Z,Z,Z,Z,Z,Z,Z,Z] rfl rfl (by kernel_rfl) (fun _ _ _ h => h) (Or.inl ⟨by rfl, ?_⟩) ?_ ?_
    rotate_left
    · intro w'
      go_simp
      with_reducible rfl
    rotate_left
    · simp only [Act.put, List.setIfInBounds_toArray, List.set_cons_zero, List.set_cons_succ, i64_w, i32_w]
      rfl
    refine pure_ (i := 1) (N := (some 7)) (v := ?_) (a' := ?_) #[Y,Y,Z,Z,Z,Z,Z,Z,Z,Z,Z,Z,Z,Z,Z,Z,Z,Z,Z,Z,Z,Z] rfl rfl (by kernel_rfl) (fun _ _ _ h => h) (Or.inl ⟨by rfl, ?_⟩) ?_ ?_
    rotate_left
    · intro w'
      go_simp
      with_reducible rfl
    rotate_left
    · simp only [Act.put, List.setIfInBounds_toArray, List.set_cons_zero, List.set_cons_succ, i64_w, i32_w]
      rfl
    refine pure_ (i := 2) (N := (some 8)) (v := ?_) (a' := ?_) #[Y,Y,Y,Z,Z,Z,Z,Z,Z,Z,Z,Z,Z,Z,Z,Z,Z,Z,Z,Z,Z,Z] rfl rfl (by kernel_rfl) (fun _ _ _ h => h) (Or.inl ⟨by rfl, ?_⟩) ?_ ?_
    rotate_left
    · intro w'
      go_simp
      with_reducible rfl
    rotate_left
    · simp only [Act.put, List.setIfInBounds_toArray, List.set_cons_zero, List.set_cons_succ, i64_w, i32_w]
      rfl
    refine pure_ (i := 3) (N := (some 9)) (v := ?_) (a' := ?_) #[Y,Y,Y,Y,Z,Z,Z,Z,Z,Z,Z,Z,Z,Z,Z,Z,Z,Z,Z,Z,Z,Z] rfl rfl (by kernel_rfl) (fun _ _ _ h => h) (Or.inl ⟨by rfl, ?_⟩) ?_ ?_
    rotate_left
    · intro w'
      go_simp
      with_reducible rfl
    rotate_left
    · simp only [Act.put, List.setIfInBounds_toArray, List.set_cons_zero, List.set_cons_succ, i64_w, i32_w]
      rfl
    refine take_ (i := 4) (N := (some 10)) (v := ?_) (a' := ?_) #[Y,Y,Y,Y,Y,Z,Z,Z,Z,Z,Z,Z,Z,Z,Z,Z,Z,Z,Z,Z,Z,Z] rfl rfl (by kernel_rfl) (fun _ _ _ h => h) (Or.inl ⟨by rfl, ?_⟩) hHeld ?_ ?_
    rotate_left
    · intro w' s0
      go_simp
      with_reducible rfl
    rotate_left
    · simp only [Act.put, List.setIfInBounds_toArray, List.set_cons_zero, List.set_cons_succ, i64_w, i32_w]
      rfl
    refine pure_ (i := 5) (N := (some 11)) (v := ?_) (a' := ?_) #[Y,Y,Y,Y,Y,Y,Z,Z,Z,Z,Z,Z,Z,Z,Z,Z,Z,Z,Z,Z,Z,Z] rfl rfl (by kernel_rfl) (fun _ _ _ h => h) (Or.inl ⟨by rfl, ?_⟩) ?_ ?_
    rotate_left
    · intro w'
      go_simp
      with_reducible rfl
    rotate_left
    · simp only [Act.put, List.setIfInBounds_toArray, List.set_cons_zero, List.set_cons_succ, i64_w, i32_w]
      rfl
    refine pure_ (i := 6) (N := (some 12)) (v := ?_) (a' := ?_) #[Y,Y,Y,Y,Y,Y,Y,Z,Z,Z,Z,Z,Z,Z,Z,Z,Z,Z,Z,Z,Z,Z] rfl rfl (by kernel_rfl) (fun _ _ _ h => h) (Or.inl ⟨by rfl, ?_⟩) ?_ ?_
    rotate_left
    · intro w'
      go_simp
      with_reducible rfl
    rotate_left
    · simp only [Act.put, List.setIfInBounds_toArray, List.set_cons_zero, List.set_cons_succ, i64_w, i32_w]
      rfl
    refine pure_ (i := 7) (N := (some 13)) (v := ?_) (a' := ?_) #[Y,Y,Y,Y,Y,Y,Y,Y,Z,Z,Z,Z,Z,Z,Z,Z,Z,Z,Z,Z,Z,Z] rfl rfl (by kernel_rfl) (fun _ _ _ h => h) (Or.inl ⟨by rfl, ?_⟩) ?_ ?_
    rotate_left
    · intro w'
      go_simp
      with_reducible rfl
    rotate_left
    · simp only [Act.put, List.setIfInBounds_toArray, List.set_cons_zero, List.set_cons_succ, i64_w, i32_w]
      rfl
    refine pure_ (i := 8) (N := (some 14)) (v := ?_) (a' := ?_) #[Y,Y,Y,Y,Y,Y,Y,Y,Y,Z,Z,Z,Z,Z,Z,Z,Z,Z,Z,Z,Z,Z] rfl rfl (by kernel_rfl) (fun _ _ _ h => h) (Or.inl ⟨by rfl, ?_⟩) ?_ ?_
    rotate_left
    · intro w'
      go_simp
      with_reducible rfl
    rotate_left
    · simp only [Act.put, List.setIfInBounds_toArray, List.set_cons_zero, List.set_cons_succ, i64_w, i32_w]
      rfl
    refine pure_ (i := 9) (N := (some 15)) (v := ?_) (a' := ?_) #[Y,Y,Y,Y,Y,Y,Y,Y,Y,Y,Z,Z,Z,Z,Z,Z,Z,Z,Z,Z,Z,Z] rfl rfl (by kernel_rfl) (fun _ _ _ h => h) (Or.inl ⟨by rfl, ?_⟩) ?_ ?_
    rotate_left
    · intro w'
      go_simp
      with_reducible rfl
    rotate_left
    · simp only [Act.put, List.setIfInBounds_toArray, List.set_cons_zero, List.set_cons_succ, i64_w, i32_w]
      rfl
    refine take_ (i := 10) (N := (some 16)) (v := ?_) (a' := ?_) #[Y,Y,Y,Y,Y,Y,Y,Y,Y,Y,Y,Z,Z,Z,Z,Z,Z,Z,Z,Z,Z,Z] rfl rfl (by kernel_rfl) (fun _ _ _ h => h) (Or.inl ⟨by rfl, ?_⟩) hHeld ?_ ?_
    rotate_left
    · intro w' s0
      go_simp
      with_reducible rfl
    rotate_left
    · simp only [Act.put, List.setIfInBounds_toArray, List.set_cons_zero, List.set_cons_succ, i64_w, i32_w]
      rfl
    refine pure_ (i := 11) (N := (some 17)) (v := ?_) (a' := ?_) #[Y,Y,Y,Y,Y,Y,Y,Y,Y,Y,Y,Y,Z,Z,Z,Z,Z,Z,Z,Z,Z,Z] rfl rfl (by kernel_rfl) (fun _ _ _ h => h) (Or.inl ⟨by rfl, ?_⟩) ?_ ?_
    rotate_left
    · intro w'
      go_simp
      with_reducible rfl
    rotate_left
    · simp only [Act.put, List.setIfInBounds_toArray, List.set_cons_zero, List.set_cons_succ, i64_w, i32_w]
      rfl
    refine pure_ (i := 12) (N := (some 18)) (v := ?_) (a' := ?_) #[Y,Y,Y,Y,Y,Y,Y,Y,Y,Y,Y,Y,Y,Z,Z,Z,Z,Z,Z,Z,Z,Z] rfl rfl (by kernel_rfl) (fun _ _ _ h => h) (Or.inl ⟨by rfl, ?_⟩) ?_ ?_
    rotate_left
    · intro w'
      go_simp
      with_reducible rfl
    rotate_left
    · simp only [Act.put, List.setIfInBounds_toArray, List.set_cons_zero, List.set_cons_succ, i64_w, i32_w]
      rfl
    refine pure_ (i := 13) (N := (some 19)) (v := ?_) (a' := ?_) #[Y,Y,Y,Y,Y,Y,Y,Y,Y,Y,Y,Y,Y,Y,Z,Z,Z,Z,Z,Z,Z,Z] rfl rfl (by kernel_rfl) (fun _ _ _ h => h) (Or.inl ⟨by rfl, ?_⟩) ?_ ?_
    rotate_left
    · intro w'
      go_simp
      with_reducible rfl
    rotate_left
    · simp only [Act.put, List.setIfInBounds_toArray, List.set_cons_zero, List.set_cons_succ, i64_w, i32_w]
      rfl
    refine pure_ (i := 14) (N := (some 20)) (v := ?_) (a' := ?_) #[Y,Y,Y,Y,Y,Y,Y,Y,Y,Y,Y,Y,Y,Y,Y,Z,Z,Z,Z,Z,Z,Z] rfl rfl (by kernel_rfl) (fun _ _ _ h => h) (Or.inl ⟨by rfl, ?_⟩) ?_ ?_
    rotate_left
    · intro w'
      go_simp
      with_reducible rfl
    rotate_left
    · simp only [Act.put, List.setIfInBounds_toArray, List.set_cons_zero, List.set_cons_succ, i64_w, i32_w]
      rfl
    refine take_ (i := 15) (N := (some 21)) (v := ?_) (a' := ?_) #[Y,Y,Y,Y,Y,Y,Y,Y,Y,Y,Y,Y,Y,Y,Y,Y,Z,Z,Z,Z,Z,Z] rfl rfl (by kernel_rfl) (fun _ _ _ h => h) (Or.inl ⟨by rfl, ?_⟩) hHeld ?_ ?_
    rotate_left
    · intro w' s0
      go_simp
      with_reducible rfl
    rotate_left
    · simp only [Act.put, List.setIfInBounds_toArray, List.set_cons_zero, List.set_cons_succ, i64_w, i32_w]
      rfl
    refine pure_ (i := 16) (N := (some 22)) (v := ?_) (a' := ?_) #[Y,Y,Y,Y,Y,Y,Y,Y,Y,Y,Y,Y,Y,Y,Y,Y,Y,Z,Z,Z,Z,Z] rfl rfl (by kernel_rfl) (fun _ _ _ h => h) (Or.inl ⟨by rfl, ?_⟩) ?_ ?_
    rotate_left
    · intro w'
      go_simp
      with_reducible rfl
    rotate_left
    · simp only [Act.put, List.setIfInBounds_toArray, List.set_cons_zero, List.set_cons_succ, i64_w, i32_w]
      rfl
    refine pure_ (i := 17) (N := (some 23)) (v := ?_) (a' := ?_) #[Y,Y,Y,Y,Y,Y,Y,Y,Y,Y,Y,Y,Y,Y,Y,Y,Y,Y,Z,Z,Z,Z] rfl rfl (by kernel_rfl) (fun _ _ _ h => h) (Or.inl ⟨by rfl, ?_⟩) ?_ ?_
    rotate_left
    · intro w'
      go_simp
      with_reducible rfl
    rotate_left
    · simp only [Act.put, List.setIfInBounds_toArray, List.set_cons_zero, List.set_cons_succ, i64_w, i32_w]
      rfl
    refine pure_ (i := 18) (N := (some 24)) (v := ?_) (a' := ?_) #[Y,Y,Y,Y,Y,Y,Y,Y,Y,Y,Y,Y,Y,Y,Y,Y,Y,Y,Y,Z,Z,Z] rfl rfl (by kernel_rfl) (fun _ _ _ h => h) (Or.inl ⟨by rfl, ?_⟩) ?_ ?_
    rotate_left
    · intro w'
      go_simp
      with_reducible rfl
    rotate_left
    · simp only [Act.put, List.setIfInBounds_toArray, List.set_cons_zero, List.set_cons_succ, i64_w, i32_w]
      rfl
    refine pure_ (i := 19) (N := (some 25)) (v := ?_) (a' := ?_) #[Y,Y,Y,Y,Y,Y,Y,Y,Y,Y,Y,Y,Y,Y,Y,Y,Y,Y,Y,Y,Z,Z] rfl rfl (by kernel_rfl) (fun _ _ _ h => h) (Or.inl ⟨by rfl, ?_⟩) ?_ ?_
    rotate_left
    · intro w'
      go_simp
      with_reducible rfl
    rotate_left
    · simp only [Act.put, List.setIfInBounds_toArray, List.set_cons_zero, List.set_cons_succ, i64_w, i32_w]
      rfl
    refine pure_ (i := 20) (N := (some 26)) (v := ?_) (a' := ?_) #[Y,Y,Y,Y,Y,Y,Y,Y,Y,Y,Y,Y,Y,Y,Y,Y,Y,Y,Y,Y,Y,Z] rfl rfl (by kernel_rfl) (fun _ _ _ h => h) (Or.inl ⟨by rfl, ?_⟩) ?_ ?_
    rotate_left
    · intro w'
      go_simp
      with_reducible rfl
    rotate_left
    · simp only [Act.put, List.setIfInBounds_toArray, List.set_cons_zero, List.set_cons_succ, i64_w, i32_w]
      rfl
    refine last_ (i := 21) (N := none) #[Y,Y,Y,Y,Y,Y,Y,Y,Y,Y,Y,Y,Y,Y,Y,Y,Y,Y,Y,Y,Y,Y] rfl rfl (by kernel_rfl) (by decide) (fun K hK => ?_)
    refine skip_ (w1 := w1.drew.setCell ⟨g, 2, none⟩ (.bool false)) (by rfl) rfl (by first | (go_simp; done) | (go_simp; rfl)) ?_
    refine hK.out _ _ ?_
    clear hK K
    refine done_ (by kernel_rfl) ?_
    
    obtain ⟨w2, hw2⟩ : ∃ y, y = w1.drew.setCell ⟨g, 2, none⟩ (.bool false) := ⟨_, rfl⟩
    rw [← hw2]
    have HG2 : Aside0 (w2.heap[g]? = some (.cells #[.string s, .int .i64 (p : Int), .bool false] TR (0, 0))) := ⟨by rw [hw2]; have h := blk_set HG1.out 2 (.bool false); simpa using h⟩
    have HC2 : Aside0 (Chg w w2 (fun k => k = g)) := ⟨by rw [hw2]; exact Chg.then_ HC1.out (Chg.setCell (ok := fun k => k = g) _ g 2 _ rfl) (fun _ _ h => h)⟩
    clear hw2 hc0 hc1 hc2 hf1 hf2
    have hc1 : w2.cell? ⟨g, 1, none⟩ = some (.int .i64 (p : Int)) := (cell_of_row w2 g 1 _ _ _ HG2.out).trans rfl
    have hc2 : w2.cell? ⟨g, 2, none⟩ = some (.bool false) := (cell_of_row w2 g 2 _ _ _ HG2.out).trans rfl
    have hf1 := frozen_of_row w2 g 1 _ _ HG2.out
    have hw2 : wrap64 ((p : Int) + (k : Int)) = (p : Int) + (k : Int) := by rw [Go.Proofs.Ytgjclhhjigflkac.Vi.w64 _ (by omega) (by omega)]
    have hw4 : ((p : Int) + (k : Int)).toNat = p + k := by omega
    have hw5 : wrap64 (p : Int) = (p : Int) := by rw [Go.Proofs.Ytgjclhhjigflkac.Vi.w64 _ (by omega) (by omega)]
    have hpk : p + k ≤ s.size := by omega
    have hsl : ∀ w', (Instr.slice 9 (.string s) (some (.int .i64 (p : Int))) (some (.int .i64 ((p : Int) + (k : Int)))) none).run Try.prog w' = .ok (.string (s.extract p (p + k))) w' := fun w' => by have h := run_slice_string (P := Try.prog) w' 9 s .i64 .i64 (p : Int) ((p : Int) + (k : Int)) Try.underlying9 (by omega) (by omega) (by omega); rw [hw4] at h; exact h
    have hpk2 : (p : Int) + (k : Int) ≤ (s.size : Int) := by omega
    have hw3 : wrap64 ((p : Int) + (k : Int) - (k : Int)) = (p : Int) := by rw [Go.Proofs.Ytgjclhhjigflkac.Vi.w64 _ (by omega) (by omega)]; omega
    go_wp2_with fail
    obtain ⟨w3, hw3'⟩ : ∃ y, y = (w2.setCell ⟨g, 1, none⟩ (.int .i64 ((p : Int) + (k : Int)))) := ⟨_, rfl⟩
    rw [← hw3']
    have HG3 : Aside0 (w3.heap[g]? = some (.cells #[.string s, .int .i64 ((p : Int) + (k : Int)), .bool false] TR (0, 0))) := ⟨by rw [hw3']; have h := blk_set HG2.out 1 (.int .i64 ((p : Int) + (k : Int))); simpa using h⟩
    have HC3 : Aside0 (Chg w w3.drew (fun k => k = g)) := ⟨by rw [hw3']; exact (HC2.out.then_ (Chg.setCell (ok := fun k => k = g) _ g 1 _ rfl) (fun _ _ h => h)).trans (Chg.drew _ _)⟩
    clear hw3' hc1 hc2 hf1
    refine start_ (n := 16) (S := fun w' => w'.cell? ⟨g, 0, none⟩ = some (.string s) ∧ w'.cell? ⟨g, 1, none⟩ = some (.int .i64 ((p : Int) + (k : Int)))) (ds := []) #[Z,Z,Z,Z,Z,Z,Z,Z,Z,Z,Z,Z,Z,Z,Z,Z] (by kernel_rfl) rfl rfl (⟨(cell_of_row w3 g 0 _ _ _ HG3.out).trans rfl, (cell_of_row w3 g 1 _ _ _ HG3.out).trans rfl⟩) (fun hHeld => ?_)
    refine pure_ (i := 0) (N := (some 39)) (v := ?_) (a' := ?_) #[Y,Z,Z,Z,Z,Z,Z,Z,Z,Z,Z,Z,Z,Z,Z,Z] rfl rfl (by kernel_rfl) (fun _ _ _ h => h) (Or.inl ⟨by rfl, ?_⟩) ?_ ?_
    rotate_left
    · intro w'
      go_simp
      with_reducible rfl
    rotate_left
    · simp only [Act.put, List.setIfInBounds_toArray, List.set_cons_zero, List.set_cons_succ, i64_w, i32_w]
      rfl
    refine pure_ (i := 1) (N := (some 40)) (v := ?_) (a' := ?_) #[Y,Y,Z,Z,Z,Z,Z,Z,Z,Z,Z,Z,Z,Z,Z,Z] rfl rfl (by kernel_rfl) (fun _ _ _ h => h) (Or.inl ⟨by rfl, ?_⟩) ?_ ?_
    rotate_left
    · intro w'
      go_simp
      with_reducible rfl
    rotate_left
    · simp only [Act.put, List.setIfInBounds_toArray, List.set_cons_zero, List.set_cons_succ, i64_w, i32_w]
      rfl
    refine pure_ (i := 2) (N := (some 41)) (v := ?_) (a' := ?_) #[Y,Y,Y,Z,Z,Z,Z,Z,Z,Z,Z,Z,Z,Z,Z,Z] rfl rfl (by kernel_rfl) (fun _ _ _ h => h) (Or.inl ⟨by rfl, ?_⟩) ?_ ?_
    rotate_left
    · intro w'
      go_simp
      with_reducible rfl
    rotate_left
    · simp only [Act.put, List.setIfInBounds_toArray, List.set_cons_zero, List.set_cons_succ, i64_w, i32_w]
      rfl
    refine take_ (i := 3) (N := (some 42)) (v := ?_) (a' := ?_) #[Y,Y,Y,Y,Z,Z,Z,Z,Z,Z,Z,Z,Z,Z,Z,Z] rfl rfl (by kernel_rfl) (fun _ _ _ h => h) (Or.inl ⟨by rfl, ?_⟩) hHeld ?_ ?_
    rotate_left
    · intro w' s0
      go_simp
      with_reducible rfl
    rotate_left
    · simp only [Act.put, List.setIfInBounds_toArray, List.set_cons_zero, List.set_cons_succ, i64_w, i32_w]
      rfl
    refine pure_ (i := 4) (N := (some 43)) (v := ?_) (a' := ?_) #[Y,Y,Y,Y,Y,Z,Z,Z,Z,Z,Z,Z,Z,Z,Z,Z] rfl rfl (by kernel_rfl) (fun _ _ _ h => h) (Or.inl ⟨by rfl, ?_⟩) ?_ ?_
    rotate_left
    · intro w'
      go_simp
      with_reducible rfl
    rotate_left
    · simp only [Act.put, List.setIfInBounds_toArray, List.set_cons_zero, List.set_cons_succ, i64_w, i32_w]
      rfl
    refine pure_ (i := 5) (N := (some 44)) (v := ?_) (a' := ?_) #[Y,Y,Y,Y,Y,Y,Z,Z,Z,Z,Z,Z,Z,Z,Z,Z] rfl rfl (by kernel_rfl) (fun _ _ _ h => h) (Or.inl ⟨by rfl, ?_⟩) ?_ ?_
    rotate_left
    · intro w'
      go_simp
      with_reducible rfl
    rotate_left
    · simp only [Act.put, List.setIfInBounds_toArray, List.set_cons_zero, List.set_cons_succ, i64_w, i32_w]
      rfl
    refine pure_ (i := 6) (N := (some 45)) (v := ?_) (a' := ?_) #[Y,Y,Y,Y,Y,Y,Y,Z,Z,Z,Z,Z,Z,Z,Z,Z] rfl rfl (by kernel_rfl) (fun _ _ _ h => h) (Or.inl ⟨by rfl, ?_⟩) ?_ ?_
    rotate_left
    · intro w'
      go_simp
      with_reducible rfl
    rotate_left
    · simp only [Act.put, List.setIfInBounds_toArray, List.set_cons_zero, List.set_cons_succ, i64_w, i32_w]
      rfl
    refine take_ (i := 7) (N := (some 46)) (v := ?_) (a' := ?_) #[Y,Y,Y,Y,Y,Y,Y,Y,Z,Z,Z,Z,Z,Z,Z,Z] rfl rfl (by kernel_rfl) (fun _ _ _ h => h) (Or.inl ⟨by rfl, ?_⟩) hHeld ?_ ?_
    rotate_left
    · intro w' s0
      go_simp
      with_reducible rfl
    rotate_left
    · simp only [Act.put, List.setIfInBounds_toArray, List.set_cons_zero, List.set_cons_succ, i64_w, i32_w]
      rfl
    refine pure_ (i := 8) (N := (some 47)) (v := ?_) (a' := ?_) #[Y,Y,Y,Y,Y,Y,Y,Y,Y,Z,Z,Z,Z,Z,Z,Z] rfl rfl (by kernel_rfl) (fun _ _ _ h => h) (Or.inl ⟨by rfl, ?_⟩) ?_ ?_
    rotate_left
    · intro w'
      go_simp
      with_reducible rfl
    rotate_left
    · simp only [Act.put, List.setIfInBounds_toArray, List.set_cons_zero, List.set_cons_succ, i64_w, i32_w]
      rfl
    refine pure_ (i := 9) (N := (some 48)) (v := ?_) (a' := ?_) #[Y,Y,Y,Y,Y,Y,Y,Y,Y,Y,Z,Z,Z,Z,Z,Z] rfl rfl (by kernel_rfl) (fun _ _ _ h => h) (Or.inl ⟨by rfl, ?_⟩) ?_ ?_
    rotate_left
    · intro w'
      go_simp
      with_reducible rfl
    rotate_left
    · simp only [Act.put, List.setIfInBounds_toArray, List.set_cons_zero, List.set_cons_succ, i64_w, i32_w]
      rfl
    refine pure_ (i := 10) (N := (some 49)) (v := ?_) (a' := ?_) #[Y,Y,Y,Y,Y,Y,Y,Y,Y,Y,Y,Z,Z,Z,Z,Z] rfl rfl (by kernel_rfl) (fun _ _ _ h => h) (Or.inl ⟨by rfl, ?_⟩) ?_ ?_
    rotate_left
    · intro w'
      go_simp
      with_reducible rfl
    rotate_left
    · simp only [Act.put, List.setIfInBounds_toArray, List.set_cons_zero, List.set_cons_succ, i64_w, i32_w]
      rfl
    refine pure_ (i := 11) (N := (some 50)) (v := ?_) (a' := ?_) #[Y,Y,Y,Y,Y,Y,Y,Y,Y,Y,Y,Y,Z,Z,Z,Z] rfl rfl (by kernel_rfl) (fun _ _ _ h => h) (Or.inl ⟨by rfl, ?_⟩) ?_ ?_
    rotate_left
    · intro w'
      go_simp
      with_reducible rfl
    rotate_left
    · simp only [Act.put, List.setIfInBounds_toArray, List.set_cons_zero, List.set_cons_succ, i64_w, i32_w]
      rfl
    refine pure_ (i := 12) (N := (some 51)) (v := ?_) (a' := ?_) #[Y,Y,Y,Y,Y,Y,Y,Y,Y,Y,Y,Y,Y,Z,Z,Z] rfl rfl (by kernel_rfl) (fun _ _ _ h => h) (Or.inl ⟨by rfl, ?_⟩) ?_ ?_
    rotate_left
    · intro w'
      go_simp
      with_reducible rfl
    rotate_left
    · simp only [Act.put, List.setIfInBounds_toArray, List.set_cons_zero, List.set_cons_succ, i64_w, i32_w]
      rfl
    refine take_ (i := 13) (N := (some 52)) (v := ?_) (a' := ?_) #[Y,Y,Y,Y,Y,Y,Y,Y,Y,Y,Y,Y,Y,Y,Z,Z] rfl rfl (by kernel_rfl) (fun _ _ _ h => h) (Or.inl ⟨by rfl, ?_⟩) hHeld ?_ ?_
    rotate_left
    · intro w' s0
      go_simp
      with_reducible rfl
    rotate_left
    · simp only [Act.put, List.setIfInBounds_toArray, List.set_cons_zero, List.set_cons_succ, i64_w, i32_w]
      rfl
    refine pure_ (i := 14) (N := (some 53)) (v := ?_) (a' := ?_) #[Y,Y,Y,Y,Y,Y,Y,Y,Y,Y,Y,Y,Y,Y,Y,Z] rfl rfl (by kernel_rfl) (fun _ _ _ h => h) (Or.inl ⟨by rfl, ?_⟩) ?_ ?_
    rotate_left
    · intro w'
      go_simp
      with_reducible rfl
    rotate_left
    · simp only [Act.put, List.setIfInBounds_toArray, List.set_cons_zero, List.set_cons_succ, i64_w, i32_w]
      rfl
    refine pure_ (i := 15) (N := (some 2)) (v := ?_) (a' := ?_) #[Y,Y,Y,Y,Y,Y,Y,Y,Y,Y,Y,Y,Y,Y,Y,Y] rfl rfl (by kernel_rfl) (fun _ _ _ h => h) (Or.inl ⟨by rfl, ?_⟩) ?_ ?_
    rotate_left
    · intro w'
      go_simp
      with_reducible rfl
    rotate_left
    · simp only [Act.put, List.setIfInBounds_toArray, List.set_cons_zero, List.set_cons_succ, i64_w, i32_w]
      rfl
    refine done_ (by kernel_rfl) ?_
    go_wp2_with fail
    go_ret
    refine ⟨by rw [HE.out, HF.out]; rfl, ?_, ?_⟩
    · rw [HE.out, HF.out]
      exact ⟨(show w3.heap[g]? = some (.cells #[.string s, .int .i64 ((p + k : Nat) : Int), .bool false] TR (0, 0)) by rw [Int.natCast_add]; exact HG3.out), by show p + k ≤ s.size; omega⟩
    · exact HC3.out
end Go.Proofs.Ytgjclhhjigflkac.Sc

/- The walk of schema.reader's times: whatever is done so often, if each round keeps to an invariant. Small words for stores in regions. -/
namespace Go.Proofs.Ytgjclhhjigflkac.Sc
open Go Go.RowKit Go.Proofs.Ytgjclhhjigflkac.C Go.Proofs.Ytgjclhhjigflkac.MyWords Go.Proofs.Ytgjclhhjigflkac.Hand Go.Proofs.Ytgjclhhjigflkac.Vi Go.Proofs.YtgjclhhjigflkacW.PrintWords Go.Proofs.YtgjclhhjigflkacW.PrintLast Go.Proofs.YtgjclhhjigflkacW.PrintMore
set_option linter.unusedVariables false
set_option linter.unusedSimpArgs false
section
variable {P : Program} {ops : Array Oper} {o : Oper} {a : Act} {Q : Exit → Act → World → Prop} {K : Act → World → Prop} {W : World}
/-- the store of a whole variable, in a region whose order is drawn -/
theorem store_row_ (hw : Region.wanted o (yielded ops a.tmps) = true) (hN : o.dst = none) (ty : TypeId) (x y : Operand) (ho : o.op = .store ty x y) (g : Nat) (cells : Array Value) (hx : a.eval x = .pointer (some ⟨g, 0, none⟩)) (hy : a.eval y = .agg cells)
    (t : TypeId) (old : Array Value) (hg : W.heap[g]? = some (.cells old t (0, 0))) (hi : (P.info? ty).map (·.size) = some cells.size) (hold : old.size = cells.size) (h1 : cells.all (·.oneCell') = true)
    (h : ∀ w1, RowSet W w1 g cells t → K a w1) : if Region.wanted o (yielded ops a.tmps) = true then Oper.wp P o a W K Q else K (a.put none undef) W := by
  rw [if_pos hw]
  refine wp_store_row ty x y ho g cells hx hy t old hg hi hold h1 ?_
  rw [hN]
  exact h _ (rowSet_mk hg)
/-- the store of one cell, there -/
theorem store_cell_ (hw : Region.wanted o (yielded ops a.tmps) = true) (hN : o.dst = none) (g i : Nat) (v : Value) (t : TypeId) (old : Array Value) (hg : W.heap[g]? = some (.cells old t (0, 0)))
    (hrun : (execOp a.eval o).run P W = .ok .skip (W.setCell ⟨g, i, none⟩ v))
    (h : ∀ w1, CellSet W w1 g i v old t → K a w1) : if Region.wanted o (yielded ops a.tmps) = true then Oper.wp P o a W K Q else K (a.put none undef) W :=
  skip_ hw hN hrun (h _ (cellSet_mk hg))
/-- the store of one cell, in a region that draws nothing -/
theorem cell_store_event {rest : List Oper} (hgd : o.guard = none) (g i : Nat) (v : Value) (t : TypeId) (old : Array Value) (hg : W.heap[g]? = some (.cells old t (0, 0)))
    (hrun : (execOp a.eval o).run P W = .ok .skip (W.setCell ⟨g, i, none⟩ v)) (h : ∀ w1, CellSet W w1 g i v old t → wpList P ops Q rest (a.put o.dst undef) w1) : wpList P ops Q (o :: rest) a W :=
  wpList_plain hgd fun K hK => by
    unfold Oper.wp
    rw [hrun]
    exact hK _ _ (h _ (cellSet_mk hg))
/-- a variable in memory, there -/
theorem alloc_ {N : Tmp} (hw : Region.wanted o (yielded ops a.tmps) = true) (hN : o.dst = some N) {cs : Array Value} {t : TypeId}
    (hrun : (execOp a.eval o).run P W = .ok (.value (.pointer (some ⟨W.heap.size, 0, none⟩))) (W.alloc (.cells cs t (0, 0))))
    (h : ∀ g w1, g = W.heap.size → w1.heap[g]? = some (.cells cs t (0, 0)) → Below W.heap.size W w1 → w1.heap.size = W.heap.size + 1 → K (a.put (some N) (.pointer (some ⟨g, 0, none⟩))) w1) :
    if Region.wanted o (yielded ops a.tmps) = true then Oper.wp P o a W K Q else K (a.put (some N) undef) W :=
  value_ hw hN hrun (h _ _ rfl (blk_new W _) (below_alloc (Below.refl _ _) _) (by simp))
end
theorem Chg.row {w w1 : World} {g : Nat} {cs : Array Value} {t : TypeId} {ok : Nat → Prop} (h : RowSet w w1 g cs t) (ho : ok g) : Chg w w1 ok := by
  have hb := h.below (Below.refl 0 w) (Nat.zero_le _)
  exact ⟨hb.os, hb.tape, hb.output, hb.size, fun k hk hn => h.other k (fun e => hn (e ▸ ho))⟩
theorem Chg.cell {w w1 : World} {g i : Nat} {v : Value} {cs : Array Value} {t : TypeId} {ok : Nat → Prop} (h : CellSet w w1 g i v cs t) (ho : ok g) : Chg w w1 ok := by
  have hb := h.below (Below.refl 0 w) (Nat.zero_le _)
  exact ⟨hb.os, hb.tape, hb.output, hb.size, fun k hk hn => h.other k (fun e => hn (e ▸ ho))⟩
set_option maxHeartbeats 2000000 in
set_option maxRecDepth 100000 in
theorem times_calls (s : ByteArray) (g : Nat) (m : Int) (fv : Value) {σ : Type} (rs : σ → RS) (f : σ → σ) (I : Nat → σ → World → Prop) (hrd : ∀ i x w, I i x w → Rd TR w g s (rs x)) (n : Nat) (hn9 : n ≤ 1000) (x0 : σ) (w : World)
    (hn : Calls Try.prog 109 #[.pointer (some ⟨g, 0, none⟩), .int .i64 m] w fun e w' => e = .returned (.int .i64 (n : Int)) ∧ I 0 x0 w')
    (hbad : ∀ i x w, i < n → I i x w → (rs x).bad = true → I (i + 1) x w)
    (hdo : ∀ i x w, i < n → I i x w → (rs x).bad = false → CallsV Try.prog fv #[] w fun e w' => e = .returned (.tuple #[]) ∧ I (i + 1) (f x) w') :
    Calls Try.prog 67 #[.pointer (some ⟨g, 0, none⟩), .int .i64 m, fv] w fun e w' => e = .returned (.tuple #[]) ∧ I n (timesN (fun x => (rs x).bad) f n x0) w' := by
  have HBAD := Aside0.mk hbad
  have HDO := Aside0.mk hdo
  have HRD := Aside0.mk hrd
  have HN := Aside0.mk hn
  clear hbad hdo hrd hn
  go_enter Try.func67, Try.ntmps67
  go_wp2_with fail
  refine HN.out.mono ?_
  rintro e w1 ⟨rfl, hI⟩
  have HI := Aside0.mk hI
  clear hI
  go_wp2_with fail
  go_loopw [9] (fun v9 wr => ∃ k : Nat, v9 = .int .i64 (k : Int) ∧ k ≤ n ∧ ∃ x, Aside0 (I k x wr) ∧ Aside0 (timesN (fun x => (rs x).bad) f (n - k) x = timesN (fun x => (rs x).bad) f n x0)) (fun v9 _ => n - (intOf v9).toNat)
  case atStart => exact ⟨0, rfl, Nat.zero_le _, x0, HI, ⟨rfl⟩⟩
  case round =>
    obtain ⟨k, rfl, hk, x, HX, HT⟩ := hrel
    by_cases hlt : k < n
    · obtain ⟨m', hm'⟩ : ∃ m', n - k = m' + 1 := ⟨n - k - 1, by omega⟩
      have hr := HRD.out k x wr HX.out
      have HT1 : Aside0 (timesN (fun x => (rs x).bad) f (n - (k + 1)) (if (rs x).bad = true then x else f x) = timesN (fun x => (rs x).bad) f n x0) := ⟨by
        have h := HT.out
        rw [hm', timesN] at h
        rw [show n - (k + 1) = m' by omega]
        exact h⟩
      clear hm'
      have hc2 : wr.cell? ⟨g, 2, none⟩ = some (.bool (rs x).bad) := (cell_of_row wr g 2 _ _ _ hr.1).trans rfl
      clear hr
      cases hb : (rs x).bad with
      | true =>
        rw [hb] at hc2
        have HX2 := Aside0.mk (HBAD.out k x wr hlt HX.out hb)
        have HT2 := HT1.out
        rw [if_pos hb] at HT2
        have HT2 := Aside0.mk HT2
        clear hb
        go_wp2_with fail
        exact ⟨⟨k + 1, by simp, by omega, x, HX2, HT2⟩, by simp [intOf]; omega⟩
      | false =>
        rw [hb] at hc2
        have HX2 := Aside0.mk (HDO.out k x wr hlt HX.out hb)
        have HT2 := HT1.out
        rw [if_neg (by rw [hb]; decide)] at HT2
        have HT2 := Aside0.mk HT2
        clear hb
        go_wp2_with (first | (refine callsV_event rfl 17 rfl (.tmp 16) [] #[] rfl fv rfl [] rfl ?_; obtain ⟨f', caps, fn, h1, h2, h3, h4, h5⟩ := HX2.out; refine ⟨f', caps, fn, h1, h2, h3, h4, h5.mono ?_⟩; rintro e w2 ⟨rfl, hI2⟩; refine ⟨_, rfl, ?_⟩; have HI2 := Aside0.mk hI2; clear hI2 h1 h2 h3 h4 h5))
        exact ⟨⟨k + 1, by simp, by omega, f x, HI2, HT2⟩, by simp [intOf]; omega⟩
    · obtain rfl : k = n := by omega
      have HT2 := HT.out
      rw [Nat.sub_self, timesN] at HT2
      have HT2 := Aside0.mk HT2
      clear HT
      go_wp2_with fail
      go_end0
      exact ⟨rfl, by rw [← HT2.out]; exact HX.out⟩
end Go.Proofs.Ytgjclhhjigflkac.Sc

/- What holds in each round of a reader's loop: the reader, the pointer to it, a row that grows. -/
namespace Go.Proofs.Ytgjclhhjigflkac.Sc
open Go Go.RowKit Go.Proofs.Ytgjclhhjigflkac.C Go.Proofs.Ytgjclhhjigflkac.MyWords Go.Proofs.Ytgjclhhjigflkac.Hand Go.Proofs.Ytgjclhhjigflkac.Vi Go.Proofs.YtgjclhhjigflkacW.PrintWords Go.Proofs.YtgjclhhjigflkacW.PrintLast Go.Proofs.YtgjclhhjigflkacW.PrintMore
set_option linter.unusedVariables false
set_option linter.unusedSimpArgs false
abbrev T1 : Nat := 117
structure LI {α : Type} (d : Kd α) (e : Nat) (s : ByteArray) (g b1 b : Nat) (mk : Value → Array Value) (T : Nat) (wS : World) (X : Nat → Prop) (i : Nat) (x : RS) (l : List α) (w : World) : Prop where
  rd : Rd TR w g s x
  p1 : w.heap[b1]? = some (.cells #[.pointer (some ⟨g, 0, none⟩)] T1 (0, 0))
  r : ∃ v, w.heap[b]? = some (.cells (mk v) T (0, 0)) ∧ d.R e w wS.heap.size (fun k => wS.heap.size ≤ k ∧ ¬ X k) v l
  n : l.length ≤ i
  c : Chg wS w (fun k => k = g ∨ k = b)
  lg : g < wS.heap.size
  l1 : b1 < wS.heap.size
  lb : b < wS.heap.size
  n1 : b1 ≠ g
  n2 : b ≠ g
  n3 : b ≠ b1
  hx : ∀ k, X k → wS.heap.size ≤ k
section
variable {α : Type} {d : Kd α} {e : Nat} {s : ByteArray} {g b1 b : Nat} {mk : Value → Array Value} {T : Nat} {wS : World} {X Y : Nat → Prop} {i : Nat} {x x1 : RS} {l : List α} {w w1 w2 : World}
theorem LI.size (H : LI d e s g b1 b mk T wS X i x l w) : wS.heap.size ≤ w.heap.size := H.c.size
/-- the reader, and what is left out, may have turned -/
theorem LI.step (H : LI d e s g b1 b mk T wS X i x l w) (hc : Chg w w1 (fun k => k = g ∨ X k)) (hr : Rd TR w1 g s x1) : LI d e s g b1 b mk T wS X i x1 l w1 := by
  obtain ⟨v, hv, hR⟩ := H.r
  have q : ∀ k, k < wS.heap.size → k ≠ g → ¬ (k = g ∨ X k) := fun k hk hn h => by
    rcases h with h | h
    · exact hn h
    · have := H.hx k h; omega
  refine ⟨hr, hc.keep H.p1 (q _ H.l1 H.n1), ⟨v, hc.keep hv (q _ H.lb H.n2), ?_⟩, H.n, ?_, H.lg, H.l1, H.lb, H.n1, H.n2, H.n3, H.hx⟩
  · refine Kd.R_step hR (fun k hk hlt => hc.block k hlt (fun h => ?_))
    rcases h with h | h
    · have := H.lg; omega
    · exact hk.2 h
  · refine H.c.then_ hc (fun k hk h => ?_)
    rcases h with h | h
    · exact .inl h
    · have := H.hx k h; omega
theorem LI.num (H : LI d e s g b1 b mk T wS X i x l w) (hc : Chg w w1 (fun k => k = g)) (hr : Rd TR w1 g s x1) : LI d e s g b1 b mk T wS X i x1 l w1 := H.step (hc.mono (fun _ _ h => .inl h)) hr
theorem LI.new (H : LI d e s g b1 b mk T wS X i x l w) (hb : Below w.heap.size w w1) : LI d e s g b1 b mk T wS X i x l w1 := H.step (Chg.of_below hb) (H.rd.below hb)
theorem LI.own (H : LI d e s g b1 b mk T wS X i x l w) (hc : Chg w w1 X) : LI d e s g b1 b mk T wS X i x l w1 :=
  H.step (hc.mono (fun _ _ h => .inr h)) (H.rd.keep hc (fun h => by have := H.hx _ h; have := H.lg; omega))
/-- a new block is left out -/
theorem LI.fresh (H : LI d e s g b1 b mk T wS X i x l w) (hb : Below w.heap.size w w1) {c : Nat} (hc : c = w.heap.size) : LI d e s g b1 b mk T wS (fun k => X k ∨ k = c) i x l w1 := by
  have H1 := H.new hb
  obtain ⟨v, hv, hR⟩ := H.r
  have hv1 : w1.heap[b]? = some (.cells (mk v) T (0, 0)) := (hb.block b (Array.getElem?_eq_some_iff.1 hv).1).trans hv
  refine ⟨H1.rd, H1.p1, ⟨v, hv1, ?_⟩, H1.n, H1.c, H1.lg, H1.l1, H1.lb, H1.n1, H1.n2, H1.n3, fun k hk => ?_⟩
  · refine Kd.R_mono (Kd.R_below (Kd.R_bound hR) hb) (fun k hk => ⟨hk.1.1, fun h => ?_⟩)
    rcases h with h | h
    · exact hk.1.2 h
    · have := hk.2.2.1; omega
  · rcases hk with hk | hk
    · exact H.hx k hk
    · have := H.size; omega
theorem LI.le (H : LI d e s g b1 b mk T wS X i x l w) {i' : Nat} (h : i ≤ i') : LI d e s g b1 b mk T wS X i' x l w := { H with n := Nat.le_trans H.n h }
/-- behind an append, stored back -/
theorem LI.push (H : LI d e s g b1 b mk T wS X i x l w) {v v1 : Value} {a : α} {j : Nat} {cs : Array Value} (hv : w.heap[b]? = some (.cells (mk v) T (0, 0))) (hR : d.R e w1 wS.heap.size (fun k => wS.heap.size ≤ k ∧ ¬ X k) v1 (l ++ [a])) (hg : w.grownBy w1 v.ownBlock) (hne : ∀ k, v.ownBlock = some k → wS.heap.size ≤ k)
    (hs : CellSet w1 w2 b j v1 cs T) (hcs : cs = mk v) (hmk : (mk v).setIfInBounds j v1 = mk v1) : LI d e s g b1 b mk T wS (fun _ => False) (i + 1) x (l ++ [a]) w2 := by
  have hc1 : Chg w w1 (fun k => wS.heap.size ≤ k) := Chg.of_grown hg hne
  have hc2 : Chg w1 w2 (fun k => k = b) := Chg.cell hs rfl
  have hc : Chg w w2 (fun k => wS.heap.size ≤ k ∨ k = b) := (hc1.mono (fun _ _ h => .inl h)).trans (hc2.mono (fun _ _ h => .inr h))
  have q : ∀ k, k < wS.heap.size → k ≠ b → ¬ (wS.heap.size ≤ k ∨ k = b) := fun k hk hn h => by
    rcases h with h | h
    · omega
    · exact hn h
  refine ⟨H.rd.keep hc (q _ H.lg (Ne.symm H.n2)), hc.keep H.p1 (q _ H.l1 (Ne.symm H.n3)), ⟨v1, ?_, ?_⟩, by rw [List.length_append]; have := H.n; simp; omega, ?_, H.lg, H.l1, H.lb, H.n1, H.n2, H.n3, fun _ h => h.elim⟩
  · rw [hs.at_, hcs, hmk]
  · refine Kd.R_mono (Kd.R_step hR (fun k hk _ => hs.other k (fun h => by have := H.lb; omega))) (fun k hk => ⟨hk.1, fun h => h.elim⟩)
  · refine H.c.then_ hc (fun k hk h => ?_)
    rcases h with h | h
    · omega
    · exact .inr h
end
end Go.Proofs.Ytgjclhhjigflkac.Sc
