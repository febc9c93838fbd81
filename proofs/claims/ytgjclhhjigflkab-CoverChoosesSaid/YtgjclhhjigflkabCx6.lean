-- written by mkprint.py, a program of this session, over the kit's printer
import Derived.Test.YtgjclhhjigflkabCx0
import Derived.Test.YtgjclhhjigflkabCx2
import Derived.Test.YtgjclhhjigflkabCx4
import Derived.Test.YtgjclhhjigflkabCvManual
namespace Go.Proofs.Ytgjclhhjigflkab.C
open Go.RowKit Go.Proofs.YtgjclhhjigflkabW.PrintWords Go.Proofs.YtgjclhhjigflkabW.PrintLast Go.Proofs.YtgjclhhjigflkabW.PrintMore
attribute [local go_sem] max2_int min2_int max_two min_two max_three min_three max_four min_four   -- for this text's walks alone
set_option linter.unusedVariables false
set_option linter.unusedSimpArgs false
/-! ### peristyleref32_Choose: function 33 -/
mutual
def peristyleref32_Choose.l0 : Nat → List Int → List Int → List ByteArray → Int → ByteArray → List (S177) → List (S138) → Option (Int × List Int × Int)
 | 0, _, _, _, _, _, _, _ => none
 | k + 1, x1, x2, x3, x10, x319000, x319001, x319002 => if x10 < (x1.length : Int) then (if 0 ≤ x10 then (if (rd x1 x10) < 0 then (some (0, ([] : List Int), 1)) else (if (rd x1 x10) ≥ (x319001.length : Int) then (some (0, ([] : List Int), 1)) else (peristyleref32_Choose.l0 k x1 x2 x3 (wrap64 (x10 + 1)) x319000 x319001 x319002))) else (none)) else (peristyleref32_Choose.l1 k x1 x2 x3 0 x319000 x319001 x319002)
def peristyleref32_Choose.l1 : Nat → List Int → List Int → List ByteArray → Int → ByteArray → List (S177) → List (S138) → Option (Int × List Int × Int)
 | 0, _, _, _, _, _, _, _ => none
 | k + 1, x1, x2, x3, x11, x319000, x319001, x319002 => if x11 < (x2.length : Int) then (if 0 ≤ x11 then (if (rd x2 x11) < 0 then (some (0, ([] : List Int), 1)) else (if (rd x2 x11) ≥ (x319001.length : Int) then (some (0, ([] : List Int), 1)) else (peristyleref32_Choose.l1 k x1 x2 x3 (wrap64 (x11 + 1)) x319000 x319001 x319002))) else (none)) else ((peristyleref32_used.f k x319000 x319001 x319002 x3).bind fun t328 => (if (t328.length : Int) = 0 then (peristyleref32_Choose.l2 k x1 x2 (-1) 0 x319000 x319001 x319002) else ((peristyleref32_from.f k x319000 x319001 x319002 x1 t328).bind fun bt341 => (if bt341.2 = true then (if 0 < (t328.length : Int) then (some (rd t328 0, bt341.1, 0)) else (none)) else (some (0, ([] : List Int), 320))))))
def peristyleref32_Choose.l2 : Nat → List Int → List Int → Int → Int → ByteArray → List (S177) → List (S138) → Option (Int × List Int × Int)
 | 0, _, _, _, _, _, _, _ => none
 | k + 1, x1, x2, x13, x14, x319000, x319001, x319002 => if x14 < (x319002.length : Int) then ((peristyleref32_all.f k x319000 x319001 x319002 x14 x1).bind fun t339 => (if t339 = true then (if x13 < 0 then (peristyleref32_Choose.l2 k x1 x2 x14 (wrap64 (x14 + 1)) x319000 x319001 x319002) else ((peristyleref32_better.f k x319000 x319001 x319002 x14 x13 x2).bind fun t340 => (if t340 = true then (peristyleref32_Choose.l2 k x1 x2 x14 (wrap64 (x14 + 1)) x319000 x319001 x319002) else (peristyleref32_Choose.l2 k x1 x2 x13 (wrap64 (x14 + 1)) x319000 x319001 x319002)))) else (peristyleref32_Choose.l2 k x1 x2 x13 (wrap64 (x14 + 1)) x319000 x319001 x319002))) else ((some (([x13] : List Int) : List Int)).bind fun y331 => ((peristyleref32_from.f k x319000 x319001 x319002 x1 y331).bind fun bt334 => (if bt334.2 = true then (if 0 < (y331.length : Int) then (some (rd y331 0, bt334.1, 0)) else (none)) else (some (0, ([] : List Int), 320)))))
end
def peristyleref32_Choose.f (k : Nat) (a0_0 : ByteArray) (l0_1 : List (S177)) (l0_2 : List (S138)) (l1 : List Int) (l2 : List Int) (l3 : List ByteArray) : Option (Int × List Int × Int) := (peristyleref25_May.f k (([(⟨a0_0, l0_1, l0_2⟩ : S63)] : List (S63)))).bind fun t323 => (if t323 = true then (peristyleref32_Choose.l0 k l1 l2 l3 0 a0_0 l0_1 l0_2) else (some (0, ([] : List Int), 1)))
set_option maxHeartbeats 8000000 in
set_option maxRecDepth 100000 in
theorem peristyleref32_Choose.calls (k : Nat) (a0_0 : ByteArray) (P0_1_ : Nat → Prop) (A0_1 : Option Addr) (c0_1 : Nat) (l0_1 : List (S177)) (P0_2_ : Nat → Prop) (A0_2 : Option Addr) (c0_2 : Nat) (l0_2 : List (S138)) (A1 : Option Addr) (c1 : Nat) (l1 : List Int) (A2 : Option Addr) (c2 : Nat) (l2 : List Int) (A3 : Option Addr) (c3 : Nat) (l3 : List ByteArray) (r1 : Int) (r2 : List Int) (r3 : Int) (w : World) (hs0_1 : Kd.V k177 177 w w.heap.size (fun k_ => P0_1_ k_) (.slice A0_1 l0_1.length c0_1) l0_1) (hs0_2 : Kd.V k138 138 w w.heap.size (fun k_ => P0_2_ k_) (.slice A0_2 l0_2.length c0_2) l0_2) (hr1 : Kd.C (Kd.int .i64) w A1 l1.length l1) (hc1 : l1.length ≤ c1) (hr2 : Kd.C (Kd.int .i64) w A2 l2.length l2) (hc2 : l2.length ≤ c2) (hr3 : Kd.C Kd.string w A3 l3.length l3) (hc3 : l3.length ≤ c3) (h : peristyleref32_Choose.f k a0_0 l0_1 l0_2 l1 l2 l3 = some (r1, r2, r3)) :
  Calls Try.prog 33 #[.agg #[.string a0_0, .slice A0_1 l0_1.length c0_1, .slice A0_2 l0_2.length c0_2], .slice A1 l1.length c1, .slice A2 l2.length c2, .slice A3 l3.length c3] w fun e w' => ∃ v1_ : Value, e = .returned (.tuple #[.agg #[.int .i64 r1, v1_], .int .i64 r3]) ∧ Kd.R (Kd.int .i64) 3 w' w.heap.size (fun k_ => (w.heap.size ≤ k_)) v1_ r2 ∧ Below w.heap.size w w' := by
 have hu63 := Try.underlying63
 have hu68 := Try.underlying68
 have HO0_1 := Aside0.mk (show Kd.V k177 177 w w.heap.size (fun k_ => ((P0_1_ k_ ∨ P0_2_ k_) ∨ w.heap.size ≤ k_)) (.slice A0_1 l0_1.length c0_1) l0_1 from Kd.V_mono hs0_1 (fun k_ hk => .inl (.inl hk)))
 have HO0_2 := Aside0.mk (show Kd.V k138 138 w w.heap.size (fun k_ => ((P0_1_ k_ ∨ P0_2_ k_) ∨ w.heap.size ≤ k_)) (.slice A0_2 l0_2.length c0_2) l0_2 from Kd.V_mono hs0_2 (fun k_ hk => .inl (.inr hk)))
 have HR1 := Aside0.mk hr1
 have HC1 := Aside0.mk hc1
 clear hr1 hc1
 have HR2 := Aside0.mk hr2
 have HC2 := Aside0.mk hc2
 clear hr2 hc2
 have HR3 := Aside0.mk hr3
 have HC3 := Aside0.mk hc3
 clear hr3 hc3
 have HB := Aside0.mk (Below.refl w.heap.size w)
 have H : ((peristyleref25_May.f k (([(⟨a0_0, l0_1, l0_2⟩ : S63)] : List (S63)))).bind fun t323 => (if t323 = true then (peristyleref32_Choose.l0 k l1 l2 l3 0 a0_0 l0_1 l0_2) else (some (0, ([] : List Int), 1)))) = some (r1, r2, r3) := h
 clear h
 obtain ⟨y320, hy320⟩ : ∃ y_ : List (S63), y_ = (([(⟨a0_0, l0_1, l0_2⟩ : S63)] : List (S63))) := ⟨_, rfl⟩
 replace H : ((peristyleref25_May.f k y320).bind fun t323 => (if t323 = true then (peristyleref32_Choose.l0 k l1 l2 l3 0 a0_0 l0_1 l0_2) else (some (0, ([] : List Int), 1)))) = some (r1, r2, r3) := by (rw [hy320]; with_reducible exact H)
 have Ny320 := Aside0.mk hy320
 clear hy320
 replace H := Option.bind_eq_some_iff.mp H
 obtain ⟨t323, A50, H⟩ := H
 replace H : (if t323 = true then (peristyleref32_Choose.l0 k l1 l2 l3 0 a0_0 l0_1 l0_2) else (some (0, ([] : List Int), 1))) = some (r1, r2, r3) := H
 have A5 := Aside0.mk A50
 clear A50
 by_cases c6 : t323 = true
 ·
  subst c6
  have H1 : (peristyleref32_Choose.l0 k l1 l2 l3 0 a0_0 l0_1 l0_2) = some (r1, r2, r3) := by rw [if_pos rfl] at H; exact H
  clear H
  have H := H1
  clear H1
  have H' := Aside0.mk H
  clear H
  go_enter Try.func33, Try.ntmps33
  go_wp2_with (first | ((with_reducible refine gate_dst (N := 4) rfl ?_); (try (refine gate_guard (by rfl) ?_; dsimp only)); refine box_event ?hg (N := 4) ?hd (cs := #[.string a0_0, .slice A0_1 l0_1.length c0_1, .slice A0_2 l0_2.length c0_2]) (t := 63) ?hr ?_; (case hd => rfl); (case hg => rfl); (case hr => (go_simp; done)); intro gb318 hg w7 hbox hb; have n0_ := Aside0.mk (Kd.V_below (Kd.V_elderB HO0_1.out gb318 (Nat.le_of_eq hg.symm)) hb); have n1_ := Aside0.mk (Kd.V_below (Kd.V_elderB HO0_2.out gb318 (Nat.le_of_eq hg.symm)) hb); have n2_ := Aside0.mk (below_step HB.out hb); have n3_ := Aside0.mk (hbox); have n4_ := Aside0.mk ((by rw [hg]; exact (below_size HB.out) : w.heap.size ≤ gb318)); have n5_ := Aside0.mk ((by rw [hg]; exact (below_size HB.out) : w.heap.size ≤ gb318)); clear HO0_1 HO0_2 HB; have HO0_1 := n0_; have HO0_2 := n1_; have HB := n2_; have BK318 := n3_; have GW318 := n4_; have GE318 := n5_; clear n0_ n1_ n2_ n3_ n4_ n5_ hb hbox hg) | ((with_reducible refine gate_dst (N := 8) rfl ?_); (try (refine gate_guard (by rfl) ?_; dsimp only)); refine box_event ?hg (N := 8) ?hd (cs := #[.int .i64 0, .slice none 0 0]) (t := 68) ?hr ?_; (case hd => rfl); (case hg => rfl); (case hr => (go_simp; done)); intro gb319 hg w8 hbox hb; have n0_ := Aside0.mk (Kd.V_below (Kd.V_elderB HO0_1.out gb319 (Nat.le_of_eq hg.symm)) hb); have n1_ := Aside0.mk (Kd.V_below (Kd.V_elderB HO0_2.out gb319 (Nat.le_of_eq hg.symm)) hb); have n2_ := Aside0.mk (blk_below (g := gb318) (o := .cells #[.string a0_0, .slice A0_1 l0_1.length c0_1, .slice A0_2 l0_2.length c0_2] 63 (0, 0)) BK318.out hb); have n3_ := Aside0.mk (below_step HB.out hb); have n4_ := Aside0.mk (hbox); have n5_ := Aside0.mk ((by rw [hg]; exact (below_size HB.out) : w.heap.size ≤ gb319)); have n6_ := Aside0.mk ((by rw [hg]; exact (below_size HB.out) : w.heap.size ≤ gb319)); have n7_ := Aside0.mk ((by rw [hg]; exact Nat.ne_of_lt (blk_lt (g := gb318) (o := .cells #[.string a0_0, .slice A0_1 l0_1.length c0_1, .slice A0_2 l0_2.length c0_2] 63 (0, 0)) BK318.out) : gb318 ≠ gb319)); have n8_ := Aside0.mk ((by rw [hg]; exact Nat.ne_of_gt (blk_lt (g := gb318) (o := .cells #[.string a0_0, .slice A0_1 l0_1.length c0_1, .slice A0_2 l0_2.length c0_2] 63 (0, 0)) BK318.out) : gb319 ≠ gb318)); clear HO0_1 HO0_2 BK318 HB; have HO0_1 := n0_; have HO0_2 := n1_; have BK318 := n2_; have HB := n3_; have BK319 := n4_; have GW319 := n5_; have GE319 := n6_; have NB318_319 := n7_; have NB319_318 := n8_; clear n0_ n1_ n2_ n3_ n4_ n5_ n6_ n7_ n8_ hb hbox hg; have hnb9 := NB318_319.out; have hnc9 := NB319_318.out; have hcz10_0 : w8.cell? ⟨gb318, 0, none⟩ = some (.string a0_0) := (blk_cell BK318.out 0).trans rfl; have hcz10_1 : w8.cell? ⟨gb318, 1, none⟩ = some (.slice A0_1 l0_1.length c0_1) := (blk_cell BK318.out 1).trans rfl; have hcz10_2 : w8.cell? ⟨gb318, 2, none⟩ = some (.slice A0_2 l0_2.length c0_2) := (blk_cell BK318.out 2).trans rfl; have hfz10_0 := blk_frozen BK318.out 0; have hfz10_1 := blk_frozen BK318.out 1; have hfz10_2 := blk_frozen BK318.out 2) | ((with_reducible refine gate_dst (N := 18) rfl ?_); (try (refine gate_guard (by rfl) ?_; dsimp only)); refine Kd.N_lit k63 _ 63 ?hg (N' := 18) ?hd (xs := ([(⟨a0_0, l0_1, l0_2⟩ : S63)] : List (S63))) (inner := [.string a0_0, .slice A0_1 l0_1.length c0_1, .slice A0_2 l0_2.length c0_2]) (ok := (fun k_ => ((P0_1_ k_ ∨ P0_2_ k_) ∨ w.heap.size ≤ k_) ∧ k_ ≠ gb318 ∧ k_ ≠ gb319)) (okp := (fun k_ => ((P0_1_ k_ ∨ P0_2_ k_) ∨ w.heap.size ≤ k_) ∧ k_ ≠ gb318 ∧ k_ ≠ gb319)) ?hr ?hp (fun _ hk => hk) ((show ∀ k_, w8.heap.size ≤ k_ → (fun k_ => ((P0_1_ k_ ∨ P0_2_ k_) ∨ w.heap.size ≤ k_) ∧ k_ ≠ gb318 ∧ k_ ≠ gb319) k_ from fun k_ hk => ⟨(.inr (Nat.le_trans (below_size HB.out) hk)), Kd.freshB (g := gb318) (o := .cells #[.string a0_0, .slice A0_1 l0_1.length c0_1, .slice A0_2 l0_2.length c0_2] 63 (0, 0)) BK318.out k_ hk, Kd.freshB (g := gb319) (o := .cells #[.int .i64 0, .slice none 0 0] 68 (0, 0)) BK319.out k_ hk⟩) _ (Nat.le_refl _)) (Below.refl _ _) (Nat.le_refl _) (by simp) ?_; (case hd => rfl); (case hg => rfl); (case hr => (go_simp; done)); (case hp => exact (Reps.c3 (show Kd.FK k63 _ _ (⟨a0_0, l0_1, l0_2⟩ : S63) [.string a0_0, .slice A0_1 l0_1.length c0_1, .slice A0_2 l0_2.length c0_2] from (k63_mkF _ _ (⟨a0_0, l0_1, l0_2⟩ : S63) (Kd.V_reads' (Kd.V_mono (ok' := (fun k_ => ((P0_1_ k_ ∨ P0_2_ k_) ∨ w.heap.size ≤ k_) ∧ k_ ≠ gb318 ∧ k_ ≠ gb319)) (HO0_1.out) (fun k_ hk => ⟨hk.1.1, ⟨hk.1.2, hk.2⟩⟩))).2.1 (Kd.V_F (e := 0) (base := 0) (Kd.V_mono (e := 0) (base := 0) (ok' := (fun k_ => ((P0_1_ k_ ∨ P0_2_ k_) ∨ w.heap.size ≤ k_) ∧ k_ ≠ gb318 ∧ k_ ≠ gb319)) (HO0_1.out) (fun k_ hk => ⟨hk.1.1, ⟨hk.1.2, hk.2⟩⟩))) (Kd.V_reads' (Kd.V_mono (ok' := (fun k_ => ((P0_1_ k_ ∨ P0_2_ k_) ∨ w.heap.size ≤ k_) ∧ k_ ≠ gb318 ∧ k_ ≠ gb319)) (HO0_2.out) (fun k_ hk => ⟨hk.1.1, ⟨hk.1.2, hk.2⟩⟩))).2.1 (Kd.V_F (e := 0) (base := 0) (Kd.V_mono (e := 0) (base := 0) (ok' := (fun k_ => ((P0_1_ k_ ∨ P0_2_ k_) ∨ w.heap.size ≤ k_) ∧ k_ ≠ gb318 ∧ k_ ≠ gb319)) (HO0_2.out) (fun k_ hk => ⟨hk.1.1, ⟨hk.1.2, hk.2⟩⟩))))) (Reps.none _ _))); intro v321 w11 ho12 hb hg_ hnew_; clear hg_ hnew_; (rw [← Ny320.out] at ho12); have n0_ := Aside0.mk (Kd.V_elder' HO0_1.out (Kd.N_base ho12) hb); have n1_ := Aside0.mk (Kd.V_elder' HO0_2.out (Kd.N_base ho12) hb); have n2_ := Aside0.mk (Kd.N_lower ho12 (below_size HB.out)); have n3_ := Aside0.mk (blk_below (g := gb318) (o := .cells #[.string a0_0, .slice A0_1 l0_1.length c0_1, .slice A0_2 l0_2.length c0_2] 63 (0, 0)) BK318.out hb); have n4_ := Aside0.mk (blk_below (g := gb319) (o := .cells #[.int .i64 0, .slice none 0 0] 68 (0, 0)) BK319.out hb); have n5_ := Aside0.mk (below_step HB.out hb); clear HO0_1 HO0_2 BK318 BK319 HB; have HO0_1 := n0_; have HO0_2 := n1_; have HO322 := n2_; have BK318 := n3_; have BK319 := n4_; have HB := n5_; clear n0_ n1_ n2_ n3_ n4_ n5_ hb ho12; obtain ⟨Ao13, co13, eo13⟩ := Kd.N_slice HO322.out; subst eo13) | (go_at_call 35; (with_reducible refine (peristyleref25_May.calls k _ _ y320 true _ ?side1 ?side2 A5.out).mono ?_); (case side1 => repeat (exact (Kd.N_reads' HO322.out).2.2)); (case side2 => exact (Kd.N_reads' HO322.out).2.1); rintro e w14 ⟨rfl, hb⟩; have n0_ := Aside0.mk (Kd.V_below HO0_1.out hb); have n1_ := Aside0.mk (Kd.V_below HO0_2.out hb); have n2_ := Aside0.mk (Kd.N_below HO322.out hb); have n3_ := Aside0.mk (blk_below (g := gb318) (o := .cells #[.string a0_0, .slice A0_1 l0_1.length c0_1, .slice A0_2 l0_2.length c0_2] 63 (0, 0)) BK318.out hb); have n4_ := Aside0.mk (blk_below (g := gb319) (o := .cells #[.int .i64 0, .slice none 0 0] 68 (0, 0)) BK319.out hb); have n5_ := Aside0.mk (below_step HB.out hb); clear HO0_1 HO0_2 HO322 BK318 BK319 HB; have HO0_1 := n0_; have HO0_2 := n1_; have HO322 := n2_; have BK318 := n3_; have BK319 := n4_; have HB := n5_; clear n0_ n1_ n2_ n3_ n4_ n5_; (try clear hb)))
  repeat (go_quiet (fail); try go_wp2_with fail)
  go_loopg [10] k (fun kq v10 w' => ∃ (x10_1 : Int) (x320000_1 : Int), v10 = .int .i64 x10_1 ∧ Aside0 (peristyleref32_Choose.l0 kq l1 l2 l3 x10_1 a0_0 l0_1 l0_2 = some (r1, r2, r3)) ∧ Aside0 (kq ≤ k) ∧ Aside0 (Kd.V k177 177 w' w.heap.size (fun k_ => ((P0_1_ k_ ∨ P0_2_ k_) ∨ w.heap.size ≤ k_) ∧ k_ ≠ gb318 ∧ k_ ≠ gb319) (.slice A0_1 l0_1.length c0_1) l0_1) ∧ Aside0 (Kd.V k138 138 w' w.heap.size (fun k_ => ((P0_1_ k_ ∨ P0_2_ k_) ∨ w.heap.size ≤ k_) ∧ k_ ≠ gb318 ∧ k_ ≠ gb319) (.slice A0_2 l0_2.length c0_2) l0_2) ∧ Aside0 (w'.heap[gb318]? = some (.cells #[.string a0_0, (.slice A0_1 l0_1.length c0_1), (.slice A0_2 l0_2.length c0_2)] 63 (0, 0))) ∧ Aside0 (w'.heap[gb319]? = some (.cells #[.int .i64 x320000_1, (.slice none 0 0)] 68 (0, 0))) ∧ Aside0 (Below w.heap.size w w'))
  case atStart => exact ⟨(0), (0), (by rfl), H', ⟨Nat.le_refl _⟩, ⟨by exact Kd.V_mono HO0_1.out (fun _ hk => ⟨hk.1.1.1, ⟨hk.1.1.2, hk.1.2⟩⟩)⟩, ⟨by exact Kd.V_mono HO0_2.out (fun _ hk => ⟨hk.1.1.1, ⟨hk.1.1.2, hk.1.2⟩⟩)⟩, ⟨BK318.out⟩, ⟨BK319.out⟩, ⟨HB.out⟩⟩
  case round =>
   clear H'
   try clear hcz10_0
   try clear hcz10_1
   try clear hcz10_2
   try clear hfz10_0
   try clear hfz10_1
   try clear hfz10_2
   obtain ⟨x10_1, x320000_1, rfl, HA, HK1, HO_319001, HO_319002, BK318, BK319, HB⟩ := hrel
   cases gk with
   | zero => exact absurd HA.out (by simp [peristyleref32_Choose.l0])
   | succ k1 =>
    have H := HA.out
    clear HA
    simp only [peristyleref32_Choose.l0] at H
    by_cases c15 : x10_1 < (l1.length : Int)
    ·
     rw [if_pos c15] at H
     have c15b0 : decide (x10_1 < (l1.length : Int)) = true := decide_eq_true c15
     clear c15
     by_cases c16 : 0 ≤ x10_1
     ·
      rw [if_pos c16] at H
      have c16b0 : decide (0 ≤ x10_1) = true := decide_eq_true c16
      clear c16
      by_cases c17 : (rd l1 x10_1) < 0
      ·
       rw [if_pos c17] at H
       have c17b0 : decide ((rd l1 x10_1) < 0) = true := decide_eq_true c17
       clear c17
       simp only [Option.some.injEq, Prod.mk.injEq] at H
       obtain ⟨rfl, rfl, rfl⟩ := H
       have p324 : 0 ≤ (x10_1 : Int) := of_decide_eq_true (by (with_reducible assumption))
       have q324 : x10_1 < (l1.length : Int) := of_decide_eq_true (by (with_reducible assumption))
       obtain ⟨ad324, e324, hx324_0⟩ := Kd.at_int HR1.out x10_1 p324 q324
       cases e324
       replace hx324_0 := (HB.out.cell (World.block_lt_of_cell? w _ hx324_0)).trans hx324_0
       replace p324 := eq_true p324
       replace q324 := eq_true q324
       have hnb18 := NB319_318.out
       have hnc18 := NB318_319.out
       have hcz19_0 : wr.cell? ⟨gb319, 0, none⟩ = some (.int .i64 x320000_1) := (blk_cell BK319.out 0).trans rfl
       have hcz19_1 : wr.cell? ⟨gb319, 1, none⟩ = some (.slice none 0 0) := (blk_cell BK319.out 1).trans rfl
       have hfz19_0 := blk_frozen BK319.out 0
       have hfz19_1 := blk_frozen BK319.out 1
       go_wp2
       repeat (go_quiet (fail); try go_wp2)
       refine bodyPost_ret (results_ct rfl _ _ gb319 68 #[.int .i64 0, .slice none 0 0] (0, 0) _ rfl (by refine blk_put (cs := #[.int .i64 0, .slice none 0 0]) ?_ 1 _ rfl; refine blk_put (cs := #[.int .i64 x320000_1, .slice none 0 0]) ?_ 0 _ rfl; (with_reducible repeat (refine blk_drewN ?_ _)); exact BK319.out) Try.underlying68 rfl (by kernel_rfl)) rfl ?_
       exact ⟨_, by rfl, by exact Kd.R_nil _ _ _ _ _, by repeat ((with_reducible first | exact HB.out | apply pw_below_drewN | refine below_set ?_ GE319.out))⟩
      ·
       rw [if_neg c17] at H
       have c17b0 : decide ((rd l1 x10_1) < 0) = false := decide_eq_false c17
       clear c17
       by_cases c20 : (rd l1 x10_1) ≥ (l0_1.length : Int)
       ·
        rw [if_pos c20] at H
        have c20b0 : decide ((l0_1.length : Int) ≤ (rd l1 x10_1)) = true := decide_eq_true c20
        clear c20
        simp only [Option.some.injEq, Prod.mk.injEq] at H
        obtain ⟨rfl, rfl, rfl⟩ := H
        have p324 : 0 ≤ (x10_1 : Int) := of_decide_eq_true (by (with_reducible assumption))
        have q324 : x10_1 < (l1.length : Int) := of_decide_eq_true (by (with_reducible assumption))
        obtain ⟨ad324, e324, hx324_0⟩ := Kd.at_int HR1.out x10_1 p324 q324
        cases e324
        replace hx324_0 := (HB.out.cell (World.block_lt_of_cell? w _ hx324_0)).trans hx324_0
        replace p324 := eq_true p324
        replace q324 := eq_true q324
        have p325 : 0 ≤ (x10_1 : Int) := of_decide_eq_true (by (with_reducible assumption))
        have q325 : x10_1 < (l1.length : Int) := of_decide_eq_true (by (with_reducible assumption))
        obtain ⟨ad325, e325, hx325_0⟩ := Kd.at_int HR1.out x10_1 p325 q325
        obtain rfl : ad324 = ad325 := (by injection e325)
        replace hx325_0 := (HB.out.cell (World.block_lt_of_cell? w _ hx325_0)).trans hx325_0
        replace p325 := eq_true p325
        replace q325 := eq_true q325
        have hnb21 := NB318_319.out
        have hnc21 := NB319_318.out
        have hcz22_0 : wr.cell? ⟨gb318, 0, none⟩ = some (.string a0_0) := (blk_cell BK318.out 0).trans rfl
        have hcz22_1 : wr.cell? ⟨gb318, 1, none⟩ = some (.slice A0_1 l0_1.length c0_1) := (blk_cell BK318.out 1).trans rfl
        have hcz22_2 : wr.cell? ⟨gb318, 2, none⟩ = some (.slice A0_2 l0_2.length c0_2) := (blk_cell BK318.out 2).trans rfl
        have hfz22_0 := blk_frozen BK318.out 0
        have hfz22_1 := blk_frozen BK318.out 1
        have hfz22_2 := blk_frozen BK318.out 2
        have hcz23_0 : wr.cell? ⟨gb319, 0, none⟩ = some (.int .i64 x320000_1) := (blk_cell BK319.out 0).trans rfl
        have hcz23_1 : wr.cell? ⟨gb319, 1, none⟩ = some (.slice none 0 0) := (blk_cell BK319.out 1).trans rfl
        have hfz23_0 := blk_frozen BK319.out 0
        have hfz23_1 := blk_frozen BK319.out 1
        go_wp2
        repeat (go_quiet (fail); try go_wp2)
        refine bodyPost_ret (results_ct rfl _ _ gb319 68 #[.int .i64 0, .slice none 0 0] (0, 0) _ rfl (by refine blk_put (cs := #[.int .i64 0, .slice none 0 0]) ?_ 1 _ rfl; refine blk_put (cs := #[.int .i64 x320000_1, .slice none 0 0]) ?_ 0 _ rfl; (with_reducible repeat (refine blk_drewN ?_ _)); exact BK319.out) Try.underlying68 rfl (by kernel_rfl)) rfl ?_
        exact ⟨_, by rfl, by exact Kd.R_nil _ _ _ _ _, by repeat ((with_reducible first | exact HB.out | apply pw_below_drewN | refine below_set ?_ GE319.out))⟩
       ·
        rw [if_neg c20] at H
        have c20b0 : decide ((l0_1.length : Int) ≤ (rd l1 x10_1)) = false := decide_eq_false c20
        clear c20
        have H' := Aside0.mk H
        clear H
        have p324 : 0 ≤ (x10_1 : Int) := of_decide_eq_true (by (with_reducible assumption))
        have q324 : x10_1 < (l1.length : Int) := of_decide_eq_true (by (with_reducible assumption))
        obtain ⟨ad324, e324, hx324_0⟩ := Kd.at_int HR1.out x10_1 p324 q324
        cases e324
        replace hx324_0 := (HB.out.cell (World.block_lt_of_cell? w _ hx324_0)).trans hx324_0
        replace p324 := eq_true p324
        replace q324 := eq_true q324
        have p325 : 0 ≤ (x10_1 : Int) := of_decide_eq_true (by (with_reducible assumption))
        have q325 : x10_1 < (l1.length : Int) := of_decide_eq_true (by (with_reducible assumption))
        obtain ⟨ad325, e325, hx325_0⟩ := Kd.at_int HR1.out x10_1 p325 q325
        obtain rfl : ad324 = ad325 := (by injection e325)
        replace hx325_0 := (HB.out.cell (World.block_lt_of_cell? w _ hx325_0)).trans hx325_0
        replace p325 := eq_true p325
        replace q325 := eq_true q325
        have hnb24 := NB318_319.out
        have hnc24 := NB319_318.out
        have hcz25_0 : wr.cell? ⟨gb318, 0, none⟩ = some (.string a0_0) := (blk_cell BK318.out 0).trans rfl
        have hcz25_1 : wr.cell? ⟨gb318, 1, none⟩ = some (.slice A0_1 l0_1.length c0_1) := (blk_cell BK318.out 1).trans rfl
        have hcz25_2 : wr.cell? ⟨gb318, 2, none⟩ = some (.slice A0_2 l0_2.length c0_2) := (blk_cell BK318.out 2).trans rfl
        have hfz25_0 := blk_frozen BK318.out 0
        have hfz25_1 := blk_frozen BK318.out 1
        have hfz25_2 := blk_frozen BK318.out 2
        go_wp2
        repeat (go_quiet (fail); try go_wp2)
        go_roundg k1
        case measure => have := HK1.out; omega
        case rel => exact ⟨(wrap64 (x10_1 + 1)), (x320000_1), (by rfl), H', ⟨by have := HK1.out; omega⟩, ⟨by (with_reducible repeat apply Kd.V_drewN); exact HO_319001.out⟩, ⟨by (with_reducible repeat apply Kd.V_drewN); exact HO_319002.out⟩, ⟨by (with_reducible repeat (refine blk_drewN ?_ _)); exact BK318.out⟩, ⟨by (with_reducible repeat (refine blk_drewN ?_ _)); exact BK319.out⟩, ⟨by repeat ((with_reducible first | exact HB.out | apply pw_below_drewN))⟩⟩
     ·
      rw [if_neg c16] at H
      exact absurd H (by simp)
    ·
     rw [if_neg c15] at H
     have c15b0 : decide (x10_1 < (l1.length : Int)) = false := decide_eq_false c15
     clear c15
     have H' := Aside0.mk H
     clear H
     go_wp2
     repeat (go_quiet (fail); try go_wp2)
     go_loopg [11] k1 (fun kq v11 w' => ∃ (x11_2 : Int) (x320000_2 : Int), v11 = .int .i64 x11_2 ∧ Aside0 (peristyleref32_Choose.l1 kq l1 l2 l3 x11_2 a0_0 l0_1 l0_2 = some (r1, r2, r3)) ∧ Aside0 (kq ≤ k1) ∧ Aside0 (Kd.V k177 177 w' w.heap.size (fun k_ => ((P0_1_ k_ ∨ P0_2_ k_) ∨ w.heap.size ≤ k_) ∧ k_ ≠ gb318 ∧ k_ ≠ gb319) (.slice A0_1 l0_1.length c0_1) l0_1) ∧ Aside0 (Kd.V k138 138 w' w.heap.size (fun k_ => ((P0_1_ k_ ∨ P0_2_ k_) ∨ w.heap.size ≤ k_) ∧ k_ ≠ gb318 ∧ k_ ≠ gb319) (.slice A0_2 l0_2.length c0_2) l0_2) ∧ Aside0 (w'.heap[gb318]? = some (.cells #[.string a0_0, (.slice A0_1 l0_1.length c0_1), (.slice A0_2 l0_2.length c0_2)] 63 (0, 0))) ∧ Aside0 (w'.heap[gb319]? = some (.cells #[.int .i64 x320000_2, (.slice none 0 0)] 68 (0, 0))) ∧ Aside0 (Below w.heap.size w w'))
     case atStart => exact ⟨(0), (x320000_1), (by rfl), H', ⟨Nat.le_refl _⟩, ⟨HO_319001.out⟩, ⟨HO_319002.out⟩, ⟨BK318.out⟩, ⟨BK319.out⟩, ⟨HB.out⟩⟩
     case round =>
      clear H'
      try clear c15b0
      obtain ⟨x11_2, x320000_2, rfl, HA, HK2, HO_319001, HO_319002, BK318, BK319, HB⟩ := hrel
      cases gk with
      | zero => exact absurd HA.out (by simp [peristyleref32_Choose.l1])
      | succ k2 =>
       have H := HA.out
       clear HA
       simp only [peristyleref32_Choose.l1] at H
       by_cases c26 : x11_2 < (l2.length : Int)
       ·
        rw [if_pos c26] at H
        have c26b0 : decide (x11_2 < (l2.length : Int)) = true := decide_eq_true c26
        clear c26
        by_cases c27 : 0 ≤ x11_2
        ·
         rw [if_pos c27] at H
         have c27b0 : decide (0 ≤ x11_2) = true := decide_eq_true c27
         clear c27
         by_cases c28 : (rd l2 x11_2) < 0
         ·
          rw [if_pos c28] at H
          have c28b0 : decide ((rd l2 x11_2) < 0) = true := decide_eq_true c28
          clear c28
          simp only [Option.some.injEq, Prod.mk.injEq] at H
          obtain ⟨rfl, rfl, rfl⟩ := H
          have p326 : 0 ≤ (x11_2 : Int) := of_decide_eq_true (by (with_reducible assumption))
          have q326 : x11_2 < (l2.length : Int) := of_decide_eq_true (by (with_reducible assumption))
          obtain ⟨ad326, e326, hx326_0⟩ := Kd.at_int HR2.out x11_2 p326 q326
          cases e326
          replace hx326_0 := (HB.out.cell (World.block_lt_of_cell? w _ hx326_0)).trans hx326_0
          replace p326 := eq_true p326
          replace q326 := eq_true q326
          have hnb29 := NB319_318.out
          have hnc29 := NB318_319.out
          have hcz30_0 : wr.cell? ⟨gb319, 0, none⟩ = some (.int .i64 x320000_2) := (blk_cell BK319.out 0).trans rfl
          have hcz30_1 : wr.cell? ⟨gb319, 1, none⟩ = some (.slice none 0 0) := (blk_cell BK319.out 1).trans rfl
          have hfz30_0 := blk_frozen BK319.out 0
          have hfz30_1 := blk_frozen BK319.out 1
          go_wp2
          repeat (go_quiet (fail); try go_wp2)
          refine bodyPost_ret (results_ct rfl _ _ gb319 68 #[.int .i64 0, .slice none 0 0] (0, 0) _ rfl (by refine blk_put (cs := #[.int .i64 0, .slice none 0 0]) ?_ 1 _ rfl; refine blk_put (cs := #[.int .i64 x320000_2, .slice none 0 0]) ?_ 0 _ rfl; (with_reducible repeat (refine blk_drewN ?_ _)); exact BK319.out) Try.underlying68 rfl (by kernel_rfl)) rfl ?_
          exact ⟨_, by rfl, by exact Kd.R_nil _ _ _ _ _, by repeat ((with_reducible first | exact HB.out | apply pw_below_drewN | refine below_set ?_ GE319.out))⟩
         ·
          rw [if_neg c28] at H
          have c28b0 : decide ((rd l2 x11_2) < 0) = false := decide_eq_false c28
          clear c28
          by_cases c31 : (rd l2 x11_2) ≥ (l0_1.length : Int)
          ·
           rw [if_pos c31] at H
           have c31b0 : decide ((l0_1.length : Int) ≤ (rd l2 x11_2)) = true := decide_eq_true c31
           clear c31
           simp only [Option.some.injEq, Prod.mk.injEq] at H
           obtain ⟨rfl, rfl, rfl⟩ := H
           have p326 : 0 ≤ (x11_2 : Int) := of_decide_eq_true (by (with_reducible assumption))
           have q326 : x11_2 < (l2.length : Int) := of_decide_eq_true (by (with_reducible assumption))
           obtain ⟨ad326, e326, hx326_0⟩ := Kd.at_int HR2.out x11_2 p326 q326
           cases e326
           replace hx326_0 := (HB.out.cell (World.block_lt_of_cell? w _ hx326_0)).trans hx326_0
           replace p326 := eq_true p326
           replace q326 := eq_true q326
           have p327 : 0 ≤ (x11_2 : Int) := of_decide_eq_true (by (with_reducible assumption))
           have q327 : x11_2 < (l2.length : Int) := of_decide_eq_true (by (with_reducible assumption))
           obtain ⟨ad327, e327, hx327_0⟩ := Kd.at_int HR2.out x11_2 p327 q327
           obtain rfl : ad326 = ad327 := (by injection e327)
           replace hx327_0 := (HB.out.cell (World.block_lt_of_cell? w _ hx327_0)).trans hx327_0
           replace p327 := eq_true p327
           replace q327 := eq_true q327
           have hnb32 := NB318_319.out
           have hnc32 := NB319_318.out
           have hcz33_0 : wr.cell? ⟨gb318, 0, none⟩ = some (.string a0_0) := (blk_cell BK318.out 0).trans rfl
           have hcz33_1 : wr.cell? ⟨gb318, 1, none⟩ = some (.slice A0_1 l0_1.length c0_1) := (blk_cell BK318.out 1).trans rfl
           have hcz33_2 : wr.cell? ⟨gb318, 2, none⟩ = some (.slice A0_2 l0_2.length c0_2) := (blk_cell BK318.out 2).trans rfl
           have hfz33_0 := blk_frozen BK318.out 0
           have hfz33_1 := blk_frozen BK318.out 1
           have hfz33_2 := blk_frozen BK318.out 2
           have hcz34_0 : wr.cell? ⟨gb319, 0, none⟩ = some (.int .i64 x320000_2) := (blk_cell BK319.out 0).trans rfl
           have hcz34_1 : wr.cell? ⟨gb319, 1, none⟩ = some (.slice none 0 0) := (blk_cell BK319.out 1).trans rfl
           have hfz34_0 := blk_frozen BK319.out 0
           have hfz34_1 := blk_frozen BK319.out 1
           go_wp2
           repeat (go_quiet (fail); try go_wp2)
           refine bodyPost_ret (results_ct rfl _ _ gb319 68 #[.int .i64 0, .slice none 0 0] (0, 0) _ rfl (by refine blk_put (cs := #[.int .i64 0, .slice none 0 0]) ?_ 1 _ rfl; refine blk_put (cs := #[.int .i64 x320000_2, .slice none 0 0]) ?_ 0 _ rfl; (with_reducible repeat (refine blk_drewN ?_ _)); exact BK319.out) Try.underlying68 rfl (by kernel_rfl)) rfl ?_
           exact ⟨_, by rfl, by exact Kd.R_nil _ _ _ _ _, by repeat ((with_reducible first | exact HB.out | apply pw_below_drewN | refine below_set ?_ GE319.out))⟩
          ·
           rw [if_neg c31] at H
           have c31b0 : decide ((l0_1.length : Int) ≤ (rd l2 x11_2)) = false := decide_eq_false c31
           clear c31
           have H' := Aside0.mk H
           clear H
           have p326 : 0 ≤ (x11_2 : Int) := of_decide_eq_true (by (with_reducible assumption))
           have q326 : x11_2 < (l2.length : Int) := of_decide_eq_true (by (with_reducible assumption))
           obtain ⟨ad326, e326, hx326_0⟩ := Kd.at_int HR2.out x11_2 p326 q326
           cases e326
           replace hx326_0 := (HB.out.cell (World.block_lt_of_cell? w _ hx326_0)).trans hx326_0
           replace p326 := eq_true p326
           replace q326 := eq_true q326
           have p327 : 0 ≤ (x11_2 : Int) := of_decide_eq_true (by (with_reducible assumption))
           have q327 : x11_2 < (l2.length : Int) := of_decide_eq_true (by (with_reducible assumption))
           obtain ⟨ad327, e327, hx327_0⟩ := Kd.at_int HR2.out x11_2 p327 q327
           obtain rfl : ad326 = ad327 := (by injection e327)
           replace hx327_0 := (HB.out.cell (World.block_lt_of_cell? w _ hx327_0)).trans hx327_0
           replace p327 := eq_true p327
           replace q327 := eq_true q327
           have hnb35 := NB318_319.out
           have hnc35 := NB319_318.out
           have hcz36_0 : wr.cell? ⟨gb318, 0, none⟩ = some (.string a0_0) := (blk_cell BK318.out 0).trans rfl
           have hcz36_1 : wr.cell? ⟨gb318, 1, none⟩ = some (.slice A0_1 l0_1.length c0_1) := (blk_cell BK318.out 1).trans rfl
           have hcz36_2 : wr.cell? ⟨gb318, 2, none⟩ = some (.slice A0_2 l0_2.length c0_2) := (blk_cell BK318.out 2).trans rfl
           have hfz36_0 := blk_frozen BK318.out 0
           have hfz36_1 := blk_frozen BK318.out 1
           have hfz36_2 := blk_frozen BK318.out 2
           go_wp2
           repeat (go_quiet (fail); try go_wp2)
           go_roundg k2
           case measure => have := HK1.out; have := HK2.out; omega
           case rel => exact ⟨(wrap64 (x11_2 + 1)), (x320000_2), (by rfl), H', ⟨by have := HK1.out; have := HK2.out; omega⟩, ⟨by (with_reducible repeat apply Kd.V_drewN); exact HO_319001.out⟩, ⟨by (with_reducible repeat apply Kd.V_drewN); exact HO_319002.out⟩, ⟨by (with_reducible repeat (refine blk_drewN ?_ _)); exact BK318.out⟩, ⟨by (with_reducible repeat (refine blk_drewN ?_ _)); exact BK319.out⟩, ⟨by repeat ((with_reducible first | exact HB.out | apply pw_below_drewN))⟩⟩
        ·
         rw [if_neg c27] at H
         exact absurd H (by simp)
       ·
        rw [if_neg c26] at H
        have c26b0 : decide (x11_2 < (l2.length : Int)) = false := decide_eq_false c26
        clear c26
        replace H := Option.bind_eq_some_iff.mp H
        obtain ⟨t328, A370, H⟩ := H
        replace H : (if (t328.length : Int) = 0 then (peristyleref32_Choose.l2 k2 l1 l2 (-1) 0 a0_0 l0_1 l0_2) else ((peristyleref32_from.f k2 a0_0 l0_1 l0_2 l1 t328).bind fun bt341 => (if bt341.2 = true then (if 0 < (t328.length : Int) then (some (rd t328 0, bt341.1, 0)) else (none)) else (some (0, ([] : List Int), 320))))) = some (r1, r2, r3) := H
        have A37 := Aside0.mk A370
        clear A370
        by_cases c38 : (t328.length : Int) = 0
        ·
         rw [if_pos c38] at H
         have c38b0 : ((t328.length : Int) == 0) = true := beq_iff_eq.mpr c38
         have c38b1 : ((t328.length : Int) != 0) = false := bne_eq_false_iff_eq.mpr c38
         clear c38
         have H' := Aside0.mk H
         clear H
         have hnb39 := NB318_319.out
         have hnc39 := NB319_318.out
         have hcz40_0 : wr.cell? ⟨gb318, 0, none⟩ = some (.string a0_0) := (blk_cell BK318.out 0).trans rfl
         have hcz40_1 : wr.cell? ⟨gb318, 1, none⟩ = some (.slice A0_1 l0_1.length c0_1) := (blk_cell BK318.out 1).trans rfl
         have hcz40_2 : wr.cell? ⟨gb318, 2, none⟩ = some (.slice A0_2 l0_2.length c0_2) := (blk_cell BK318.out 2).trans rfl
         have hfz40_0 := blk_frozen BK318.out 0
         have hfz40_1 := blk_frozen BK318.out 1
         have hfz40_2 := blk_frozen BK318.out 2
         go_wp2_with ((go_at_call 82; (with_reducible refine (peristyleref32_used.calls k2 a0_0 _ _ l0_1 _ _ l0_2 _ _ l3 t328 _ ?side1 ?side2 ?side3 ?side4 ?side5 ?side6 A37.out).mono ?_); (case side1 => repeat (exact (Kd.V_reads' HO_319001.out).2.2)); (case side2 => exact (Kd.V_reads' HO_319001.out).2.1); (case side3 => repeat (exact (Kd.V_reads' HO_319002.out).2.2)); (case side4 => exact (Kd.V_reads' HO_319002.out).2.1); (case side5 => repeat (exact (Kd.C_below HR3.out HB.out))); (case side6 => exact HC3.out); rintro e w41 ⟨v329, rfl, ho0, hb⟩; have n0_ := Aside0.mk (Kd.V_elder' HO_319001.out (Kd.R_base ho0) hb); have n1_ := Aside0.mk (Kd.V_elder' HO_319002.out (Kd.R_base ho0) hb); have n2_ := Aside0.mk (Kd.R_lower (Kd.R_newM (M := fun k_ => (w.heap.size ≤ k_)) ho0 (below_size HB.out) (fun k_ h_ => h_)) (below_size HB.out)); have n3_ := Aside0.mk (blk_below (g := gb318) (o := .cells #[.string a0_0, .slice A0_1 l0_1.length c0_1, .slice A0_2 l0_2.length c0_2] 63 (0, 0)) BK318.out hb); have n4_ := Aside0.mk (blk_below (g := gb319) (o := .cells #[.int .i64 x320000_2, .slice none 0 0] 68 (0, 0)) BK319.out hb); have n5_ := Aside0.mk (below_step HB.out hb); clear HO_319001 HO_319002 BK318 BK319 HB; have HO_319001 := n0_; have HO_319002 := n1_; have HO330 := n2_; have BK318 := n3_; have BK319 := n4_; have HB := n5_; clear n0_ n1_ n2_ n3_ n4_ n5_; (try clear hb); (try clear ho0); obtain ⟨Ao42, co42, eo42⟩ := Kd.R_slice HO330.out; subst eo42))
         repeat (go_quiet (fail); try go_wp2_with fail)
         go_loopg [13, 14] k2 (fun kq v13 v14 w' => ∃ (x13_3 : Int) (x14_3 : Int), v13 = .int .i64 x13_3 ∧ v14 = .int .i64 x14_3 ∧ Aside0 (peristyleref32_Choose.l2 kq l1 l2 x13_3 x14_3 a0_0 l0_1 l0_2 = some (r1, r2, r3)) ∧ Aside0 (kq ≤ k2) ∧ Aside0 (Kd.V k177 177 w' w.heap.size (fun k_ => ((P0_1_ k_ ∨ P0_2_ k_) ∨ w.heap.size ≤ k_) ∧ k_ ≠ gb318 ∧ k_ ≠ gb319) (.slice A0_1 l0_1.length c0_1) l0_1) ∧ Aside0 (Kd.V k138 138 w' w.heap.size (fun k_ => ((P0_1_ k_ ∨ P0_2_ k_) ∨ w.heap.size ≤ k_) ∧ k_ ≠ gb318 ∧ k_ ≠ gb319) (.slice A0_2 l0_2.length c0_2) l0_2) ∧ Aside0 (w'.heap[gb318]? = some (.cells #[.string a0_0, (.slice A0_1 l0_1.length c0_1), (.slice A0_2 l0_2.length c0_2)] 63 (0, 0))) ∧ Aside0 (w'.heap[gb319]? = some (.cells #[.int .i64 x320000_2, (.slice none 0 0)] 68 (0, 0))) ∧ Aside0 (Below w.heap.size w w'))
         case atStart => exact ⟨((-1)), (0), (by rfl), (by rfl), H', ⟨Nat.le_refl _⟩, ⟨by exact Kd.V_mono HO_319001.out (fun _ hk => ⟨hk.1.1, ⟨hk.1.2.1, hk.1.2.2⟩⟩)⟩, ⟨by exact Kd.V_mono HO_319002.out (fun _ hk => ⟨hk.1.1, ⟨hk.1.2.1, hk.1.2.2⟩⟩)⟩, ⟨BK318.out⟩, ⟨BK319.out⟩, ⟨HB.out⟩⟩
         case round =>
          clear H'
          try clear c26b0
          try clear c38b0
          try clear c38b1
          try clear hcz40_0
          try clear hcz40_1
          try clear hcz40_2
          try clear hfz40_0
          try clear hfz40_1
          try clear hfz40_2
          obtain ⟨x13_3, x14_3, rfl, rfl, HA, HK3, HO_319001, HO_319002, BK318, BK319, HB⟩ := hrel
          cases gk with
          | zero => exact absurd HA.out (by simp [peristyleref32_Choose.l2])
          | succ k3 =>
           have H := HA.out
           clear HA
           simp only [peristyleref32_Choose.l2] at H
           by_cases c43 : x14_3 < (l0_2.length : Int)
           ·
            rw [if_pos c43] at H
            have c43b0 : decide (x14_3 < (l0_2.length : Int)) = true := decide_eq_true c43
            clear c43
            replace H := Option.bind_eq_some_iff.mp H
            obtain ⟨t339, A440, H⟩ := H
            replace H : (if t339 = true then (if x13_3 < 0 then (peristyleref32_Choose.l2 k3 l1 l2 x14_3 (wrap64 (x14_3 + 1)) a0_0 l0_1 l0_2) else ((peristyleref32_better.f k3 a0_0 l0_1 l0_2 x14_3 x13_3 l2).bind fun t340 => (if t340 = true then (peristyleref32_Choose.l2 k3 l1 l2 x14_3 (wrap64 (x14_3 + 1)) a0_0 l0_1 l0_2) else (peristyleref32_Choose.l2 k3 l1 l2 x13_3 (wrap64 (x14_3 + 1)) a0_0 l0_1 l0_2)))) else (peristyleref32_Choose.l2 k3 l1 l2 x13_3 (wrap64 (x14_3 + 1)) a0_0 l0_1 l0_2)) = some (r1, r2, r3) := H
            have A44 := Aside0.mk A440
            clear A440
            by_cases c45 : t339 = true
            ·
             subst c45
             have H1 : (if x13_3 < 0 then (peristyleref32_Choose.l2 k3 l1 l2 x14_3 (wrap64 (x14_3 + 1)) a0_0 l0_1 l0_2) else ((peristyleref32_better.f k3 a0_0 l0_1 l0_2 x14_3 x13_3 l2).bind fun t340 => (if t340 = true then (peristyleref32_Choose.l2 k3 l1 l2 x14_3 (wrap64 (x14_3 + 1)) a0_0 l0_1 l0_2) else (peristyleref32_Choose.l2 k3 l1 l2 x13_3 (wrap64 (x14_3 + 1)) a0_0 l0_1 l0_2)))) = some (r1, r2, r3) := by rw [if_pos rfl] at H; exact H
             clear H
             have H := H1
             clear H1
             by_cases c46 : x13_3 < 0
             ·
              rw [if_pos c46] at H
              have c46b0 : decide (x13_3 < 0) = true := decide_eq_true c46
              clear c46
              have H' := Aside0.mk H
              clear H
              have hnb47 := NB318_319.out
              have hnc47 := NB319_318.out
              have hcz48_0 : wr.cell? ⟨gb318, 0, none⟩ = some (.string a0_0) := (blk_cell BK318.out 0).trans rfl
              have hcz48_1 : wr.cell? ⟨gb318, 1, none⟩ = some (.slice A0_1 l0_1.length c0_1) := (blk_cell BK318.out 1).trans rfl
              have hcz48_2 : wr.cell? ⟨gb318, 2, none⟩ = some (.slice A0_2 l0_2.length c0_2) := (blk_cell BK318.out 2).trans rfl
              have hfz48_0 := blk_frozen BK318.out 0
              have hfz48_1 := blk_frozen BK318.out 1
              have hfz48_2 := blk_frozen BK318.out 2
              go_wp2_with ((go_at_call 83; (with_reducible refine (peristyleref32_all.calls k3 a0_0 _ _ l0_1 _ _ l0_2 x14_3 _ _ l1 true _ ?side1 ?side2 ?side3 ?side4 ?side5 ?side6 A44.out).mono ?_); (case side1 => repeat (exact (Kd.V_reads' HO_319001.out).2.2)); (case side2 => exact (Kd.V_reads' HO_319001.out).2.1); (case side3 => repeat (exact (Kd.V_reads' HO_319002.out).2.2)); (case side4 => exact (Kd.V_reads' HO_319002.out).2.1); (case side5 => repeat (exact (Kd.C_below HR1.out HB.out))); (case side6 => exact HC1.out); rintro e w49 ⟨rfl, hb⟩; have n0_ := Aside0.mk (Kd.V_below HO_319001.out hb); have n1_ := Aside0.mk (Kd.V_below HO_319002.out hb); have n2_ := Aside0.mk (blk_below (g := gb318) (o := .cells #[.string a0_0, .slice A0_1 l0_1.length c0_1, .slice A0_2 l0_2.length c0_2] 63 (0, 0)) BK318.out hb); have n3_ := Aside0.mk (blk_below (g := gb319) (o := .cells #[.int .i64 x320000_2, .slice none 0 0] 68 (0, 0)) BK319.out hb); have n4_ := Aside0.mk (below_step HB.out hb); clear HO_319001 HO_319002 BK318 BK319 HB; have HO_319001 := n0_; have HO_319002 := n1_; have BK318 := n2_; have BK319 := n3_; have HB := n4_; clear n0_ n1_ n2_ n3_ n4_; (try clear hb)))
              repeat (go_quiet (fail); try go_wp2_with fail)
              go_roundg k3
              case measure => have := HK1.out; have := HK2.out; have := HK3.out; omega
              case rel => exact ⟨(x14_3), (wrap64 (x14_3 + 1)), (by rfl), (by rfl), H', ⟨by have := HK1.out; have := HK2.out; have := HK3.out; omega⟩, ⟨HO_319001.out⟩, ⟨HO_319002.out⟩, ⟨BK318.out⟩, ⟨BK319.out⟩, ⟨HB.out⟩⟩
             ·
              rw [if_neg c46] at H
              have c46b0 : decide (x13_3 < 0) = false := decide_eq_false c46
              clear c46
              replace H := Option.bind_eq_some_iff.mp H
              obtain ⟨t340, A500, H⟩ := H
              replace H : (if t340 = true then (peristyleref32_Choose.l2 k3 l1 l2 x14_3 (wrap64 (x14_3 + 1)) a0_0 l0_1 l0_2) else (peristyleref32_Choose.l2 k3 l1 l2 x13_3 (wrap64 (x14_3 + 1)) a0_0 l0_1 l0_2)) = some (r1, r2, r3) := H
              have A50 := Aside0.mk A500
              clear A500
              by_cases c51 : t340 = true
              ·
               subst c51
               have H1 : (peristyleref32_Choose.l2 k3 l1 l2 x14_3 (wrap64 (x14_3 + 1)) a0_0 l0_1 l0_2) = some (r1, r2, r3) := by rw [if_pos rfl] at H; exact H
               clear H
               have H := H1
               clear H1
               have H' := Aside0.mk H
               clear H
               have hnb52 := NB318_319.out
               have hnc52 := NB319_318.out
               have hcz53_0 : wr.cell? ⟨gb318, 0, none⟩ = some (.string a0_0) := (blk_cell BK318.out 0).trans rfl
               have hcz53_1 : wr.cell? ⟨gb318, 1, none⟩ = some (.slice A0_1 l0_1.length c0_1) := (blk_cell BK318.out 1).trans rfl
               have hcz53_2 : wr.cell? ⟨gb318, 2, none⟩ = some (.slice A0_2 l0_2.length c0_2) := (blk_cell BK318.out 2).trans rfl
               have hfz53_0 := blk_frozen BK318.out 0
               have hfz53_1 := blk_frozen BK318.out 1
               have hfz53_2 := blk_frozen BK318.out 2
               go_wp2_with (first | (go_at_call 83; (with_reducible refine (peristyleref32_all.calls k3 a0_0 _ _ l0_1 _ _ l0_2 x14_3 _ _ l1 true _ ?side1 ?side2 ?side3 ?side4 ?side5 ?side6 A44.out).mono ?_); (case side1 => repeat (exact (Kd.V_reads' HO_319001.out).2.2)); (case side2 => exact (Kd.V_reads' HO_319001.out).2.1); (case side3 => repeat (exact (Kd.V_reads' HO_319002.out).2.2)); (case side4 => exact (Kd.V_reads' HO_319002.out).2.1); (case side5 => repeat (exact (Kd.C_below HR1.out HB.out))); (case side6 => exact HC1.out); rintro e w54 ⟨rfl, hb⟩; have n0_ := Aside0.mk (Kd.V_below HO_319001.out hb); have n1_ := Aside0.mk (Kd.V_below HO_319002.out hb); have n2_ := Aside0.mk (blk_below (g := gb318) (o := .cells #[.string a0_0, .slice A0_1 l0_1.length c0_1, .slice A0_2 l0_2.length c0_2] 63 (0, 0)) BK318.out hb); have n3_ := Aside0.mk (blk_below (g := gb319) (o := .cells #[.int .i64 x320000_2, .slice none 0 0] 68 (0, 0)) BK319.out hb); have n4_ := Aside0.mk (below_step HB.out hb); clear HO_319001 HO_319002 BK318 BK319 HB; have HO_319001 := n0_; have HO_319002 := n1_; have BK318 := n2_; have BK319 := n3_; have HB := n4_; clear n0_ n1_ n2_ n3_ n4_; (try clear hb); have hcz55_0 : w54.cell? ⟨gb318, 0, none⟩ = some (.string a0_0) := (blk_cell BK318.out 0).trans rfl; have hcz55_1 : w54.cell? ⟨gb318, 1, none⟩ = some (.slice A0_1 l0_1.length c0_1) := (blk_cell BK318.out 1).trans rfl; have hcz55_2 : w54.cell? ⟨gb318, 2, none⟩ = some (.slice A0_2 l0_2.length c0_2) := (blk_cell BK318.out 2).trans rfl; have hfz55_0 := blk_frozen BK318.out 0; have hfz55_1 := blk_frozen BK318.out 1; have hfz55_2 := blk_frozen BK318.out 2) | (go_at_call 84; (with_reducible refine (peristyleref32_better.calls k3 a0_0 _ _ l0_1 _ _ l0_2 x14_3 x13_3 _ _ l2 true _ ?side1 ?side2 ?side3 ?side4 ?side5 ?side6 A50.out).mono ?_); (case side1 => repeat (exact (Kd.V_reads' HO_319001.out).2.2)); (case side2 => exact (Kd.V_reads' HO_319001.out).2.1); (case side3 => repeat (exact (Kd.V_reads' HO_319002.out).2.2)); (case side4 => exact (Kd.V_reads' HO_319002.out).2.1); (case side5 => repeat (exact (Kd.C_below HR2.out HB.out))); (case side6 => exact HC2.out); rintro e w56 ⟨rfl, hb⟩; have n0_ := Aside0.mk (Kd.V_below HO_319001.out hb); have n1_ := Aside0.mk (Kd.V_below HO_319002.out hb); have n2_ := Aside0.mk (blk_below (g := gb318) (o := .cells #[.string a0_0, .slice A0_1 l0_1.length c0_1, .slice A0_2 l0_2.length c0_2] 63 (0, 0)) BK318.out hb); have n3_ := Aside0.mk (blk_below (g := gb319) (o := .cells #[.int .i64 x320000_2, .slice none 0 0] 68 (0, 0)) BK319.out hb); have n4_ := Aside0.mk (below_step HB.out hb); clear HO_319001 HO_319002 BK318 BK319 HB; have HO_319001 := n0_; have HO_319002 := n1_; have BK318 := n2_; have BK319 := n3_; have HB := n4_; clear n0_ n1_ n2_ n3_ n4_; (try clear hb)))
               repeat (go_quiet (fail); try go_wp2_with fail)
               go_roundg k3
               case measure => have := HK1.out; have := HK2.out; have := HK3.out; omega
               case rel => exact ⟨(x14_3), (wrap64 (x14_3 + 1)), (by rfl), (by rfl), H', ⟨by have := HK1.out; have := HK2.out; have := HK3.out; omega⟩, ⟨HO_319001.out⟩, ⟨HO_319002.out⟩, ⟨BK318.out⟩, ⟨BK319.out⟩, ⟨HB.out⟩⟩
              ·
               replace c51 := Bool.eq_false_iff.mpr c51
               subst c51
               have H1 : (peristyleref32_Choose.l2 k3 l1 l2 x13_3 (wrap64 (x14_3 + 1)) a0_0 l0_1 l0_2) = some (r1, r2, r3) := by rw [if_neg (show ¬ (false = true) by decide)] at H; exact H
               clear H
               have H := H1
               clear H1
               have H' := Aside0.mk H
               clear H
               have hnb57 := NB318_319.out
               have hnc57 := NB319_318.out
               have hcz58_0 : wr.cell? ⟨gb318, 0, none⟩ = some (.string a0_0) := (blk_cell BK318.out 0).trans rfl
               have hcz58_1 : wr.cell? ⟨gb318, 1, none⟩ = some (.slice A0_1 l0_1.length c0_1) := (blk_cell BK318.out 1).trans rfl
               have hcz58_2 : wr.cell? ⟨gb318, 2, none⟩ = some (.slice A0_2 l0_2.length c0_2) := (blk_cell BK318.out 2).trans rfl
               have hfz58_0 := blk_frozen BK318.out 0
               have hfz58_1 := blk_frozen BK318.out 1
               have hfz58_2 := blk_frozen BK318.out 2
               go_wp2_with (first | (go_at_call 83; (with_reducible refine (peristyleref32_all.calls k3 a0_0 _ _ l0_1 _ _ l0_2 x14_3 _ _ l1 true _ ?side1 ?side2 ?side3 ?side4 ?side5 ?side6 A44.out).mono ?_); (case side1 => repeat (exact (Kd.V_reads' HO_319001.out).2.2)); (case side2 => exact (Kd.V_reads' HO_319001.out).2.1); (case side3 => repeat (exact (Kd.V_reads' HO_319002.out).2.2)); (case side4 => exact (Kd.V_reads' HO_319002.out).2.1); (case side5 => repeat (exact (Kd.C_below HR1.out HB.out))); (case side6 => exact HC1.out); rintro e w59 ⟨rfl, hb⟩; have n0_ := Aside0.mk (Kd.V_below HO_319001.out hb); have n1_ := Aside0.mk (Kd.V_below HO_319002.out hb); have n2_ := Aside0.mk (blk_below (g := gb318) (o := .cells #[.string a0_0, .slice A0_1 l0_1.length c0_1, .slice A0_2 l0_2.length c0_2] 63 (0, 0)) BK318.out hb); have n3_ := Aside0.mk (blk_below (g := gb319) (o := .cells #[.int .i64 x320000_2, .slice none 0 0] 68 (0, 0)) BK319.out hb); have n4_ := Aside0.mk (below_step HB.out hb); clear HO_319001 HO_319002 BK318 BK319 HB; have HO_319001 := n0_; have HO_319002 := n1_; have BK318 := n2_; have BK319 := n3_; have HB := n4_; clear n0_ n1_ n2_ n3_ n4_; (try clear hb); have hcz60_0 : w59.cell? ⟨gb318, 0, none⟩ = some (.string a0_0) := (blk_cell BK318.out 0).trans rfl; have hcz60_1 : w59.cell? ⟨gb318, 1, none⟩ = some (.slice A0_1 l0_1.length c0_1) := (blk_cell BK318.out 1).trans rfl; have hcz60_2 : w59.cell? ⟨gb318, 2, none⟩ = some (.slice A0_2 l0_2.length c0_2) := (blk_cell BK318.out 2).trans rfl; have hfz60_0 := blk_frozen BK318.out 0; have hfz60_1 := blk_frozen BK318.out 1; have hfz60_2 := blk_frozen BK318.out 2) | (go_at_call 84; (with_reducible refine (peristyleref32_better.calls k3 a0_0 _ _ l0_1 _ _ l0_2 x14_3 x13_3 _ _ l2 false _ ?side1 ?side2 ?side3 ?side4 ?side5 ?side6 A50.out).mono ?_); (case side1 => repeat (exact (Kd.V_reads' HO_319001.out).2.2)); (case side2 => exact (Kd.V_reads' HO_319001.out).2.1); (case side3 => repeat (exact (Kd.V_reads' HO_319002.out).2.2)); (case side4 => exact (Kd.V_reads' HO_319002.out).2.1); (case side5 => repeat (exact (Kd.C_below HR2.out HB.out))); (case side6 => exact HC2.out); rintro e w61 ⟨rfl, hb⟩; have n0_ := Aside0.mk (Kd.V_below HO_319001.out hb); have n1_ := Aside0.mk (Kd.V_below HO_319002.out hb); have n2_ := Aside0.mk (blk_below (g := gb318) (o := .cells #[.string a0_0, .slice A0_1 l0_1.length c0_1, .slice A0_2 l0_2.length c0_2] 63 (0, 0)) BK318.out hb); have n3_ := Aside0.mk (blk_below (g := gb319) (o := .cells #[.int .i64 x320000_2, .slice none 0 0] 68 (0, 0)) BK319.out hb); have n4_ := Aside0.mk (below_step HB.out hb); clear HO_319001 HO_319002 BK318 BK319 HB; have HO_319001 := n0_; have HO_319002 := n1_; have BK318 := n2_; have BK319 := n3_; have HB := n4_; clear n0_ n1_ n2_ n3_ n4_; (try clear hb)))
               repeat (go_quiet (fail); try go_wp2_with fail)
               go_roundg k3
               case measure => have := HK1.out; have := HK2.out; have := HK3.out; omega
               case rel => exact ⟨(x13_3), (wrap64 (x14_3 + 1)), (by rfl), (by rfl), H', ⟨by have := HK1.out; have := HK2.out; have := HK3.out; omega⟩, ⟨HO_319001.out⟩, ⟨HO_319002.out⟩, ⟨BK318.out⟩, ⟨BK319.out⟩, ⟨HB.out⟩⟩
            ·
             replace c45 := Bool.eq_false_iff.mpr c45
             subst c45
             have H1 : (peristyleref32_Choose.l2 k3 l1 l2 x13_3 (wrap64 (x14_3 + 1)) a0_0 l0_1 l0_2) = some (r1, r2, r3) := by rw [if_neg (show ¬ (false = true) by decide)] at H; exact H
             clear H
             have H := H1
             clear H1
             have H' := Aside0.mk H
             clear H
             have hnb62 := NB318_319.out
             have hnc62 := NB319_318.out
             have hcz63_0 : wr.cell? ⟨gb318, 0, none⟩ = some (.string a0_0) := (blk_cell BK318.out 0).trans rfl
             have hcz63_1 : wr.cell? ⟨gb318, 1, none⟩ = some (.slice A0_1 l0_1.length c0_1) := (blk_cell BK318.out 1).trans rfl
             have hcz63_2 : wr.cell? ⟨gb318, 2, none⟩ = some (.slice A0_2 l0_2.length c0_2) := (blk_cell BK318.out 2).trans rfl
             have hfz63_0 := blk_frozen BK318.out 0
             have hfz63_1 := blk_frozen BK318.out 1
             have hfz63_2 := blk_frozen BK318.out 2
             go_wp2_with ((go_at_call 83; (with_reducible refine (peristyleref32_all.calls k3 a0_0 _ _ l0_1 _ _ l0_2 x14_3 _ _ l1 false _ ?side1 ?side2 ?side3 ?side4 ?side5 ?side6 A44.out).mono ?_); (case side1 => repeat (exact (Kd.V_reads' HO_319001.out).2.2)); (case side2 => exact (Kd.V_reads' HO_319001.out).2.1); (case side3 => repeat (exact (Kd.V_reads' HO_319002.out).2.2)); (case side4 => exact (Kd.V_reads' HO_319002.out).2.1); (case side5 => repeat (exact (Kd.C_below HR1.out HB.out))); (case side6 => exact HC1.out); rintro e w64 ⟨rfl, hb⟩; have n0_ := Aside0.mk (Kd.V_below HO_319001.out hb); have n1_ := Aside0.mk (Kd.V_below HO_319002.out hb); have n2_ := Aside0.mk (blk_below (g := gb318) (o := .cells #[.string a0_0, .slice A0_1 l0_1.length c0_1, .slice A0_2 l0_2.length c0_2] 63 (0, 0)) BK318.out hb); have n3_ := Aside0.mk (blk_below (g := gb319) (o := .cells #[.int .i64 x320000_2, .slice none 0 0] 68 (0, 0)) BK319.out hb); have n4_ := Aside0.mk (below_step HB.out hb); clear HO_319001 HO_319002 BK318 BK319 HB; have HO_319001 := n0_; have HO_319002 := n1_; have BK318 := n2_; have BK319 := n3_; have HB := n4_; clear n0_ n1_ n2_ n3_ n4_; (try clear hb)))
             repeat (go_quiet (fail); try go_wp2_with fail)
             go_roundg k3
             case measure => have := HK1.out; have := HK2.out; have := HK3.out; omega
             case rel => exact ⟨(x13_3), (wrap64 (x14_3 + 1)), (by rfl), (by rfl), H', ⟨by have := HK1.out; have := HK2.out; have := HK3.out; omega⟩, ⟨HO_319001.out⟩, ⟨HO_319002.out⟩, ⟨BK318.out⟩, ⟨BK319.out⟩, ⟨HB.out⟩⟩
           ·
            rw [if_neg c43] at H
            have c43b0 : decide (x14_3 < (l0_2.length : Int)) = false := decide_eq_false c43
            clear c43
            obtain ⟨y331, hy331⟩ : ∃ y_ : List Int, y_ = (([x13_3] : List Int)) := ⟨_, rfl⟩
            replace H : ((peristyleref32_from.f k3 a0_0 l0_1 l0_2 l1 y331).bind fun bt334 => (if bt334.2 = true then (if 0 < (y331.length : Int) then (some (rd y331 0, bt334.1, 0)) else (none)) else (some (0, ([] : List Int), 320)))) = some (r1, r2, r3) := by (have H2_ := (Option.bind_some _ _).symm.trans H; rw [hy331]; with_reducible exact H2_)
            have Ny331 := Aside0.mk hy331
            clear hy331
            replace H := Option.bind_eq_some_iff.mp H
            obtain ⟨⟨t334, t337⟩, A650, H⟩ := H
            replace H : (if t337 = true then (if 0 < (y331.length : Int) then (some (rd y331 0, t334, 0)) else (none)) else (some (0, ([] : List Int), 320))) = some (r1, r2, r3) := H
            have A65 := Aside0.mk A650
            clear A650
            by_cases c66 : t337 = true
            ·
             subst c66
             have H1 : (if 0 < (y331.length : Int) then (some (rd y331 0, t334, 0)) else (none)) = some (r1, r2, r3) := by rw [if_pos rfl] at H; exact H
             clear H
             have H := H1
             clear H1
             by_cases c67 : 0 < (y331.length : Int)
             ·
              rw [if_pos c67] at H
              have c67b0 : decide (0 < (y331.length : Int)) = true := decide_eq_true c67
              have c67b1 : decide (0 < y331.length) = true := decide_eq_true (by omega)
              clear c67
              simp only [Option.some.injEq, Prod.mk.injEq] at H
              obtain ⟨rfl, rfl, rfl⟩ := H
              have hnb68 := NB318_319.out
              have hnc68 := NB319_318.out
              have hcz69_0 : wr.cell? ⟨gb318, 0, none⟩ = some (.string a0_0) := (blk_cell BK318.out 0).trans rfl
              have hcz69_1 : wr.cell? ⟨gb318, 1, none⟩ = some (.slice A0_1 l0_1.length c0_1) := (blk_cell BK318.out 1).trans rfl
              have hcz69_2 : wr.cell? ⟨gb318, 2, none⟩ = some (.slice A0_2 l0_2.length c0_2) := (blk_cell BK318.out 2).trans rfl
              have hfz69_0 := blk_frozen BK318.out 0
              have hfz69_1 := blk_frozen BK318.out 1
              have hfz69_2 := blk_frozen BK318.out 2
              go_wp2_with (first | ((with_reducible refine gate_dst (N := 96) rfl ?_); (try (refine gate_guard (by rfl) ?_; dsimp only)); refine Kd.R_lit (Kd.int .i64) _ 3 ?hg (N := 96) ?hd (xs := ([x13_3] : List Int)) (inner := [.int .i64 x13_3]) (ok := fun _ => True) (okp := fun _ => True) ?hr ?hp (fun _ hk => hk) trivial (Below.refl _ _) (Nat.le_refl _) (by simp) ?_; (case hd => rfl); (case hg => rfl); (case hr => (go_simp; done)); (case hp => exact (Reps.one (show Kd.M (Kd.int .i64) _ _ _ x13_3 [.int .i64 x13_3] from rfl) (Reps.none _ _))); intro v332 w70 ho71 hb hg_ hnew_; clear hg_ hnew_; (rw [← Ny331.out] at ho71); have n0_ := Aside0.mk (Kd.V_elder' HO_319001.out (Kd.R_base ho71) hb); have n1_ := Aside0.mk (Kd.V_elder' HO_319002.out (Kd.R_base ho71) hb); have n2_ := Aside0.mk (Kd.R_lower (Kd.R_newM (M := fun k_ => (w.heap.size ≤ k_)) ho71 (below_size HB.out) (fun k_ h_ => h_)) (below_size HB.out)); have n3_ := Aside0.mk (blk_below (g := gb318) (o := .cells #[.string a0_0, .slice A0_1 l0_1.length c0_1, .slice A0_2 l0_2.length c0_2] 63 (0, 0)) BK318.out hb); have n4_ := Aside0.mk (blk_below (g := gb319) (o := .cells #[.int .i64 x320000_2, .slice none 0 0] 68 (0, 0)) BK319.out hb); have n5_ := Aside0.mk (below_step HB.out hb); clear HO_319001 HO_319002 BK318 BK319 HB; have HO_319001 := n0_; have HO_319002 := n1_; have HO333 := n2_; have BK318 := n3_; have BK319 := n4_; have HB := n5_; clear n0_ n1_ n2_ n3_ n4_ n5_ hb ho71; have hcz72_0 : w70.cell? ⟨gb318, 0, none⟩ = some (.string a0_0) := (blk_cell BK318.out 0).trans rfl; have hcz72_1 : w70.cell? ⟨gb318, 1, none⟩ = some (.slice A0_1 l0_1.length c0_1) := (blk_cell BK318.out 1).trans rfl; have hcz72_2 : w70.cell? ⟨gb318, 2, none⟩ = some (.slice A0_2 l0_2.length c0_2) := (blk_cell BK318.out 2).trans rfl; have hfz72_0 := blk_frozen BK318.out 0; have hfz72_1 := blk_frozen BK318.out 1; have hfz72_2 := blk_frozen BK318.out 2; obtain ⟨Ao73, co73, eo73⟩ := Kd.R_slice HO333.out; subst eo73) | (go_at_call 85; (with_reducible refine (peristyleref32_from.calls k3 a0_0 _ _ l0_1 _ _ l0_2 _ _ l1 _ _ y331 t334 true _ ?side1 ?side2 ?side3 ?side4 ?side5 ?side6 ?side7 ?side8 A65.out).mono ?_); (case side1 => repeat (exact (Kd.V_reads' HO_319001.out).2.2)); (case side2 => exact (Kd.V_reads' HO_319001.out).2.1); (case side3 => repeat (exact (Kd.V_reads' HO_319002.out).2.2)); (case side4 => exact (Kd.V_reads' HO_319002.out).2.1); (case side5 => repeat (exact (Kd.C_below HR1.out HB.out))); (case side6 => exact HC1.out); (case side7 => repeat (exact (Kd.R_reads' HO333.out).2.2)); (case side8 => exact (Kd.R_reads' HO333.out).2.1); rintro e w74 ⟨v335, rfl, ho0, hb⟩; have n0_ := Aside0.mk (Kd.V_elder' HO_319001.out (Kd.R_base ho0) hb); have n1_ := Aside0.mk (Kd.V_elder' HO_319002.out (Kd.R_base ho0) hb); have n2_ := Aside0.mk (Kd.R_elder' HO333.out (Kd.R_base ho0) hb); have n3_ := Aside0.mk (Kd.R_lower (Kd.R_new' (Kd.R_newM (M := fun k_ => (w.heap.size ≤ k_)) ho0 (below_size HB.out) (fun k_ h_ => h_)) (Kd.R_lt HO333.out)) (below_size HB.out)); have n4_ := Aside0.mk (blk_below (g := gb318) (o := .cells #[.string a0_0, .slice A0_1 l0_1.length c0_1, .slice A0_2 l0_2.length c0_2] 63 (0, 0)) BK318.out hb); have n5_ := Aside0.mk (blk_below (g := gb319) (o := .cells #[.int .i64 x320000_2, .slice none 0 0] 68 (0, 0)) BK319.out hb); have n6_ := Aside0.mk (below_step HB.out hb); clear HO_319001 HO_319002 HO333 BK318 BK319 HB; have HO_319001 := n0_; have HO_319002 := n1_; have HO333 := n2_; have HO336 := n3_; have BK318 := n4_; have BK319 := n5_; have HB := n6_; clear n0_ n1_ n2_ n3_ n4_ n5_ n6_; (try clear hb); (try clear ho0); have p338 : 0 ≤ (0 : Int) := (by omega); have q338 : 0 < (y331.length : Int) := of_decide_eq_true (by (with_reducible assumption)); obtain ⟨ad338, e338, hx338_0⟩ := Kd.at_int (Kd.R_reads' HO333.out).2.2 0 p338 q338; cases e338; have qi338 : (0 < y331.length) = True := eq_true (by omega); (try rw [show ((0 : Int)).toNat = 0 from rfl] at hx338_0); (try rw [Addr.add_zero'] at hx338_0); replace p338 := eq_true p338; replace q338 := eq_true q338; obtain ⟨Ao75, co75, eo75⟩ := Kd.R_slice HO336.out; subst eo75; have hcz76_0 : w74.cell? ⟨gb319, 0, none⟩ = some (.int .i64 x320000_2) := (blk_cell BK319.out 0).trans rfl; have hcz76_1 : w74.cell? ⟨gb319, 1, none⟩ = some (.slice none 0 0) := (blk_cell BK319.out 1).trans rfl; have hfz76_0 := blk_frozen BK319.out 0; have hfz76_1 := blk_frozen BK319.out 1))
              repeat (go_quiet (fail); try go_wp2_with fail)
              refine bodyPost_ret (results_ct rfl _ _ gb319 68 #[.int .i64 (rd y331 0), .slice Ao75 t334.length co75] (0, 0) _ rfl (by refine blk_put (cs := #[.int .i64 (rd y331 0), .slice none 0 0]) ?_ 1 _ rfl; refine blk_put (cs := #[.int .i64 x320000_2, .slice none 0 0]) ?_ 0 _ rfl; exact BK319.out) Try.underlying68 rfl (by kernel_rfl)) rfl ?_
              exact ⟨_, by rfl, by exact Kd.R_mono (Kd.R_far (p := ⟨gb319, 1, none⟩) (Kd.R_far (p := ⟨gb319, 0, none⟩) (Kd.R_types HO336.out BK319.out (by decide)) (fun _ hk => hk.2) (.int .i64 (rd y331 0))) (fun _ hk => hk.2) (.slice Ao75 t334.length co75)) (fun _ hk => hk.1.1.1), by repeat ((with_reducible first | exact HB.out | refine below_set ?_ GE319.out))⟩
             ·
              rw [if_neg c67] at H
              exact absurd H (by simp)
            ·
             replace c66 := Bool.eq_false_iff.mpr c66
             subst c66
             have H1 : (some (0, ([] : List Int), 320)) = some (r1, r2, r3) := by rw [if_neg (show ¬ (false = true) by decide)] at H; exact H
             clear H
             have H := H1
             clear H1
             simp only [Option.some.injEq, Prod.mk.injEq] at H
             obtain ⟨rfl, rfl, rfl⟩ := H
             have hnb77 := NB318_319.out
             have hnc77 := NB319_318.out
             have hcz78_0 : wr.cell? ⟨gb318, 0, none⟩ = some (.string a0_0) := (blk_cell BK318.out 0).trans rfl
             have hcz78_1 : wr.cell? ⟨gb318, 1, none⟩ = some (.slice A0_1 l0_1.length c0_1) := (blk_cell BK318.out 1).trans rfl
             have hcz78_2 : wr.cell? ⟨gb318, 2, none⟩ = some (.slice A0_2 l0_2.length c0_2) := (blk_cell BK318.out 2).trans rfl
             have hfz78_0 := blk_frozen BK318.out 0
             have hfz78_1 := blk_frozen BK318.out 1
             have hfz78_2 := blk_frozen BK318.out 2
             go_wp2_with (first | ((with_reducible refine gate_dst (N := 96) rfl ?_); (try (refine gate_guard (by rfl) ?_; dsimp only)); refine Kd.R_lit (Kd.int .i64) _ 3 ?hg (N := 96) ?hd (xs := ([x13_3] : List Int)) (inner := [.int .i64 x13_3]) (ok := fun _ => True) (okp := fun _ => True) ?hr ?hp (fun _ hk => hk) trivial (Below.refl _ _) (Nat.le_refl _) (by simp) ?_; (case hd => rfl); (case hg => rfl); (case hr => (go_simp; done)); (case hp => exact (Reps.one (show Kd.M (Kd.int .i64) _ _ _ x13_3 [.int .i64 x13_3] from rfl) (Reps.none _ _))); intro v332 w79 ho80 hb hg_ hnew_; clear hg_ hnew_; (rw [← Ny331.out] at ho80); have n0_ := Aside0.mk (Kd.V_elder' HO_319001.out (Kd.R_base ho80) hb); have n1_ := Aside0.mk (Kd.V_elder' HO_319002.out (Kd.R_base ho80) hb); have n2_ := Aside0.mk (Kd.R_lower (Kd.R_newM (M := fun k_ => (w.heap.size ≤ k_)) ho80 (below_size HB.out) (fun k_ h_ => h_)) (below_size HB.out)); have n3_ := Aside0.mk (blk_below (g := gb318) (o := .cells #[.string a0_0, .slice A0_1 l0_1.length c0_1, .slice A0_2 l0_2.length c0_2] 63 (0, 0)) BK318.out hb); have n4_ := Aside0.mk (blk_below (g := gb319) (o := .cells #[.int .i64 x320000_2, .slice none 0 0] 68 (0, 0)) BK319.out hb); have n5_ := Aside0.mk (below_step HB.out hb); clear HO_319001 HO_319002 BK318 BK319 HB; have HO_319001 := n0_; have HO_319002 := n1_; have HO333 := n2_; have BK318 := n3_; have BK319 := n4_; have HB := n5_; clear n0_ n1_ n2_ n3_ n4_ n5_ hb ho80; have hcz81_0 : w79.cell? ⟨gb318, 0, none⟩ = some (.string a0_0) := (blk_cell BK318.out 0).trans rfl; have hcz81_1 : w79.cell? ⟨gb318, 1, none⟩ = some (.slice A0_1 l0_1.length c0_1) := (blk_cell BK318.out 1).trans rfl; have hcz81_2 : w79.cell? ⟨gb318, 2, none⟩ = some (.slice A0_2 l0_2.length c0_2) := (blk_cell BK318.out 2).trans rfl; have hfz81_0 := blk_frozen BK318.out 0; have hfz81_1 := blk_frozen BK318.out 1; have hfz81_2 := blk_frozen BK318.out 2; obtain ⟨Ao82, co82, eo82⟩ := Kd.R_slice HO333.out; subst eo82) | (go_at_call 85; (with_reducible refine (peristyleref32_from.calls k3 a0_0 _ _ l0_1 _ _ l0_2 _ _ l1 _ _ y331 t334 false _ ?side1 ?side2 ?side3 ?side4 ?side5 ?side6 ?side7 ?side8 A65.out).mono ?_); (case side1 => repeat (exact (Kd.V_reads' HO_319001.out).2.2)); (case side2 => exact (Kd.V_reads' HO_319001.out).2.1); (case side3 => repeat (exact (Kd.V_reads' HO_319002.out).2.2)); (case side4 => exact (Kd.V_reads' HO_319002.out).2.1); (case side5 => repeat (exact (Kd.C_below HR1.out HB.out))); (case side6 => exact HC1.out); (case side7 => repeat (exact (Kd.R_reads' HO333.out).2.2)); (case side8 => exact (Kd.R_reads' HO333.out).2.1); rintro e w83 ⟨v335, rfl, ho0, hb⟩; have n0_ := Aside0.mk (Kd.V_elder' HO_319001.out (Kd.R_base ho0) hb); have n1_ := Aside0.mk (Kd.V_elder' HO_319002.out (Kd.R_base ho0) hb); have n2_ := Aside0.mk (Kd.R_elder' HO333.out (Kd.R_base ho0) hb); have n3_ := Aside0.mk (Kd.R_lower (Kd.R_new' (Kd.R_newM (M := fun k_ => (w.heap.size ≤ k_)) ho0 (below_size HB.out) (fun k_ h_ => h_)) (Kd.R_lt HO333.out)) (below_size HB.out)); have n4_ := Aside0.mk (blk_below (g := gb318) (o := .cells #[.string a0_0, .slice A0_1 l0_1.length c0_1, .slice A0_2 l0_2.length c0_2] 63 (0, 0)) BK318.out hb); have n5_ := Aside0.mk (blk_below (g := gb319) (o := .cells #[.int .i64 x320000_2, .slice none 0 0] 68 (0, 0)) BK319.out hb); have n6_ := Aside0.mk (below_step HB.out hb); clear HO_319001 HO_319002 HO333 BK318 BK319 HB; have HO_319001 := n0_; have HO_319002 := n1_; have HO333 := n2_; have HO336 := n3_; have BK318 := n4_; have BK319 := n5_; have HB := n6_; clear n0_ n1_ n2_ n3_ n4_ n5_ n6_; (try clear hb); (try clear ho0); have hcz84_0 : w83.cell? ⟨gb319, 0, none⟩ = some (.int .i64 x320000_2) := (blk_cell BK319.out 0).trans rfl; have hcz84_1 : w83.cell? ⟨gb319, 1, none⟩ = some (.slice none 0 0) := (blk_cell BK319.out 1).trans rfl; have hfz84_0 := blk_frozen BK319.out 0; have hfz84_1 := blk_frozen BK319.out 1))
             repeat (go_quiet (fail); try go_wp2_with fail)
             refine bodyPost_ret (results_ct rfl _ _ gb319 68 #[.int .i64 0, .slice none 0 0] (0, 0) _ rfl (by refine blk_put (cs := #[.int .i64 0, .slice none 0 0]) ?_ 1 _ rfl; refine blk_put (cs := #[.int .i64 x320000_2, .slice none 0 0]) ?_ 0 _ rfl; exact BK319.out) Try.underlying68 rfl (by kernel_rfl)) rfl ?_
             exact ⟨_, by rfl, by exact Kd.R_nil _ _ _ _ _, by repeat ((with_reducible first | exact HB.out | refine below_set ?_ GE319.out))⟩
        ·
         rw [if_neg c38] at H
         have c38b0 : ((t328.length : Int) == 0) = false := beq_eq_false_iff_ne.mpr c38
         have c38b1 : ((t328.length : Int) != 0) = true := bne_iff_ne.mpr c38
         have c38b2 : ¬ (t328 = []) := fun h_ => c38 (by rw [h_]; rfl)
         replace H := Option.bind_eq_some_iff.mp H
         obtain ⟨⟨t341, t344⟩, A850, H⟩ := H
         replace H : (if t344 = true then (if 0 < (t328.length : Int) then (some (rd t328 0, t341, 0)) else (none)) else (some (0, ([] : List Int), 320))) = some (r1, r2, r3) := H
         have A85 := Aside0.mk A850
         clear A850
         by_cases c86 : t344 = true
         ·
          subst c86
          have H1 : (if 0 < (t328.length : Int) then (some (rd t328 0, t341, 0)) else (none)) = some (r1, r2, r3) := by rw [if_pos rfl] at H; exact H
          clear H
          have H := H1
          clear H1
          by_cases c87 : 0 < (t328.length : Int)
          ·
           rw [if_pos c87] at H
           have c87b0 : decide (0 < (t328.length : Int)) = true := decide_eq_true c87
           have c87b1 : decide (0 < t328.length) = true := decide_eq_true (by omega)
           clear c87
           simp only [Option.some.injEq, Prod.mk.injEq] at H
           obtain ⟨rfl, rfl, rfl⟩ := H
           have hnb88 := NB318_319.out
           have hnc88 := NB319_318.out
           have hcz89_0 : wr.cell? ⟨gb318, 0, none⟩ = some (.string a0_0) := (blk_cell BK318.out 0).trans rfl
           have hcz89_1 : wr.cell? ⟨gb318, 1, none⟩ = some (.slice A0_1 l0_1.length c0_1) := (blk_cell BK318.out 1).trans rfl
           have hcz89_2 : wr.cell? ⟨gb318, 2, none⟩ = some (.slice A0_2 l0_2.length c0_2) := (blk_cell BK318.out 2).trans rfl
           have hfz89_0 := blk_frozen BK318.out 0
           have hfz89_1 := blk_frozen BK318.out 1
           have hfz89_2 := blk_frozen BK318.out 2
           go_wp2_with (first | (go_at_call 82; (with_reducible refine (peristyleref32_used.calls k2 a0_0 _ _ l0_1 _ _ l0_2 _ _ l3 t328 _ ?side1 ?side2 ?side3 ?side4 ?side5 ?side6 A37.out).mono ?_); (case side1 => repeat (exact (Kd.V_reads' HO_319001.out).2.2)); (case side2 => exact (Kd.V_reads' HO_319001.out).2.1); (case side3 => repeat (exact (Kd.V_reads' HO_319002.out).2.2)); (case side4 => exact (Kd.V_reads' HO_319002.out).2.1); (case side5 => repeat (exact (Kd.C_below HR3.out HB.out))); (case side6 => exact HC3.out); rintro e w90 ⟨v329, rfl, ho0, hb⟩; have n0_ := Aside0.mk (Kd.V_elder' HO_319001.out (Kd.R_base ho0) hb); have n1_ := Aside0.mk (Kd.V_elder' HO_319002.out (Kd.R_base ho0) hb); have n2_ := Aside0.mk (Kd.R_lower (Kd.R_newM (M := fun k_ => (w.heap.size ≤ k_)) ho0 (below_size HB.out) (fun k_ h_ => h_)) (below_size HB.out)); have n3_ := Aside0.mk (blk_below (g := gb318) (o := .cells #[.string a0_0, .slice A0_1 l0_1.length c0_1, .slice A0_2 l0_2.length c0_2] 63 (0, 0)) BK318.out hb); have n4_ := Aside0.mk (blk_below (g := gb319) (o := .cells #[.int .i64 x320000_2, .slice none 0 0] 68 (0, 0)) BK319.out hb); have n5_ := Aside0.mk (below_step HB.out hb); clear HO_319001 HO_319002 BK318 BK319 HB; have HO_319001 := n0_; have HO_319002 := n1_; have HO330 := n2_; have BK318 := n3_; have BK319 := n4_; have HB := n5_; clear n0_ n1_ n2_ n3_ n4_ n5_; (try clear hb); (try clear ho0); obtain ⟨Ao91, co91, eo91⟩ := Kd.R_slice HO330.out; subst eo91; have hcz92_0 : w90.cell? ⟨gb318, 0, none⟩ = some (.string a0_0) := (blk_cell BK318.out 0).trans rfl; have hcz92_1 : w90.cell? ⟨gb318, 1, none⟩ = some (.slice A0_1 l0_1.length c0_1) := (blk_cell BK318.out 1).trans rfl; have hcz92_2 : w90.cell? ⟨gb318, 2, none⟩ = some (.slice A0_2 l0_2.length c0_2) := (blk_cell BK318.out 2).trans rfl; have hfz92_0 := blk_frozen BK318.out 0; have hfz92_1 := blk_frozen BK318.out 1; have hfz92_2 := blk_frozen BK318.out 2) | (go_at_call 85; (with_reducible refine (peristyleref32_from.calls k2 a0_0 _ _ l0_1 _ _ l0_2 _ _ l1 _ _ t328 t341 true _ ?side1 ?side2 ?side3 ?side4 ?side5 ?side6 ?side7 ?side8 A85.out).mono ?_); (case side1 => repeat (exact (Kd.V_reads' HO_319001.out).2.2)); (case side2 => exact (Kd.V_reads' HO_319001.out).2.1); (case side3 => repeat (exact (Kd.V_reads' HO_319002.out).2.2)); (case side4 => exact (Kd.V_reads' HO_319002.out).2.1); (case side5 => repeat (exact (Kd.C_below HR1.out HB.out))); (case side6 => exact HC1.out); (case side7 => repeat (exact (Kd.R_reads' HO330.out).2.2)); (case side8 => exact (Kd.R_reads' HO330.out).2.1); rintro e w93 ⟨v342, rfl, ho0, hb⟩; have n0_ := Aside0.mk (Kd.V_elder' HO_319001.out (Kd.R_base ho0) hb); have n1_ := Aside0.mk (Kd.V_elder' HO_319002.out (Kd.R_base ho0) hb); have n2_ := Aside0.mk (Kd.R_elder' HO330.out (Kd.R_base ho0) hb); have n3_ := Aside0.mk (Kd.R_lower (Kd.R_new' (Kd.R_newM (M := fun k_ => (w.heap.size ≤ k_)) ho0 (below_size HB.out) (fun k_ h_ => h_)) (Kd.R_lt HO330.out)) (below_size HB.out)); have n4_ := Aside0.mk (blk_below (g := gb318) (o := .cells #[.string a0_0, .slice A0_1 l0_1.length c0_1, .slice A0_2 l0_2.length c0_2] 63 (0, 0)) BK318.out hb); have n5_ := Aside0.mk (blk_below (g := gb319) (o := .cells #[.int .i64 x320000_2, .slice none 0 0] 68 (0, 0)) BK319.out hb); have n6_ := Aside0.mk (below_step HB.out hb); clear HO_319001 HO_319002 HO330 BK318 BK319 HB; have HO_319001 := n0_; have HO_319002 := n1_; have HO330 := n2_; have HO343 := n3_; have BK318 := n4_; have BK319 := n5_; have HB := n6_; clear n0_ n1_ n2_ n3_ n4_ n5_ n6_; (try clear hb); (try clear ho0); have p345 : 0 ≤ (0 : Int) := (by omega); have q345 : 0 < (t328.length : Int) := of_decide_eq_true (by (with_reducible assumption)); obtain ⟨ad345, e345, hx345_0⟩ := Kd.at_int (Kd.R_reads' HO330.out).2.2 0 p345 q345; cases e345; have qi345 : (0 < t328.length) = True := eq_true (by omega); (try rw [show ((0 : Int)).toNat = 0 from rfl] at hx345_0); (try rw [Addr.add_zero'] at hx345_0); replace p345 := eq_true p345; replace q345 := eq_true q345; obtain ⟨Ao94, co94, eo94⟩ := Kd.R_slice HO343.out; subst eo94; have hcz95_0 : w93.cell? ⟨gb319, 0, none⟩ = some (.int .i64 x320000_2) := (blk_cell BK319.out 0).trans rfl; have hcz95_1 : w93.cell? ⟨gb319, 1, none⟩ = some (.slice none 0 0) := (blk_cell BK319.out 1).trans rfl; have hfz95_0 := blk_frozen BK319.out 0; have hfz95_1 := blk_frozen BK319.out 1))
           repeat (go_quiet (fail); try go_wp2_with fail)
           refine bodyPost_ret (results_ct rfl _ _ gb319 68 #[.int .i64 (rd t328 0), .slice Ao94 t341.length co94] (0, 0) _ rfl (by refine blk_put (cs := #[.int .i64 (rd t328 0), .slice none 0 0]) ?_ 1 _ rfl; refine blk_put (cs := #[.int .i64 x320000_2, .slice none 0 0]) ?_ 0 _ rfl; exact BK319.out) Try.underlying68 rfl (by kernel_rfl)) rfl ?_
           exact ⟨_, by rfl, by exact Kd.R_mono (Kd.R_far (p := ⟨gb319, 1, none⟩) (Kd.R_far (p := ⟨gb319, 0, none⟩) (Kd.R_types HO343.out BK319.out (by decide)) (fun _ hk => hk.2) (.int .i64 (rd t328 0))) (fun _ hk => hk.2) (.slice Ao94 t341.length co94)) (fun _ hk => hk.1.1.1), by repeat ((with_reducible first | exact HB.out | refine below_set ?_ GE319.out))⟩
          ·
           rw [if_neg c87] at H
           exact absurd H (by simp)
         ·
          replace c86 := Bool.eq_false_iff.mpr c86
          subst c86
          have H1 : (some (0, ([] : List Int), 320)) = some (r1, r2, r3) := by rw [if_neg (show ¬ (false = true) by decide)] at H; exact H
          clear H
          have H := H1
          clear H1
          simp only [Option.some.injEq, Prod.mk.injEq] at H
          obtain ⟨rfl, rfl, rfl⟩ := H
          have hnb96 := NB318_319.out
          have hnc96 := NB319_318.out
          have hcz97_0 : wr.cell? ⟨gb318, 0, none⟩ = some (.string a0_0) := (blk_cell BK318.out 0).trans rfl
          have hcz97_1 : wr.cell? ⟨gb318, 1, none⟩ = some (.slice A0_1 l0_1.length c0_1) := (blk_cell BK318.out 1).trans rfl
          have hcz97_2 : wr.cell? ⟨gb318, 2, none⟩ = some (.slice A0_2 l0_2.length c0_2) := (blk_cell BK318.out 2).trans rfl
          have hfz97_0 := blk_frozen BK318.out 0
          have hfz97_1 := blk_frozen BK318.out 1
          have hfz97_2 := blk_frozen BK318.out 2
          go_wp2_with (first | (go_at_call 82; (with_reducible refine (peristyleref32_used.calls k2 a0_0 _ _ l0_1 _ _ l0_2 _ _ l3 t328 _ ?side1 ?side2 ?side3 ?side4 ?side5 ?side6 A37.out).mono ?_); (case side1 => repeat (exact (Kd.V_reads' HO_319001.out).2.2)); (case side2 => exact (Kd.V_reads' HO_319001.out).2.1); (case side3 => repeat (exact (Kd.V_reads' HO_319002.out).2.2)); (case side4 => exact (Kd.V_reads' HO_319002.out).2.1); (case side5 => repeat (exact (Kd.C_below HR3.out HB.out))); (case side6 => exact HC3.out); rintro e w98 ⟨v329, rfl, ho0, hb⟩; have n0_ := Aside0.mk (Kd.V_elder' HO_319001.out (Kd.R_base ho0) hb); have n1_ := Aside0.mk (Kd.V_elder' HO_319002.out (Kd.R_base ho0) hb); have n2_ := Aside0.mk (Kd.R_lower (Kd.R_newM (M := fun k_ => (w.heap.size ≤ k_)) ho0 (below_size HB.out) (fun k_ h_ => h_)) (below_size HB.out)); have n3_ := Aside0.mk (blk_below (g := gb318) (o := .cells #[.string a0_0, .slice A0_1 l0_1.length c0_1, .slice A0_2 l0_2.length c0_2] 63 (0, 0)) BK318.out hb); have n4_ := Aside0.mk (blk_below (g := gb319) (o := .cells #[.int .i64 x320000_2, .slice none 0 0] 68 (0, 0)) BK319.out hb); have n5_ := Aside0.mk (below_step HB.out hb); clear HO_319001 HO_319002 BK318 BK319 HB; have HO_319001 := n0_; have HO_319002 := n1_; have HO330 := n2_; have BK318 := n3_; have BK319 := n4_; have HB := n5_; clear n0_ n1_ n2_ n3_ n4_ n5_; (try clear hb); (try clear ho0); obtain ⟨Ao99, co99, eo99⟩ := Kd.R_slice HO330.out; subst eo99; have hcz100_0 : w98.cell? ⟨gb318, 0, none⟩ = some (.string a0_0) := (blk_cell BK318.out 0).trans rfl; have hcz100_1 : w98.cell? ⟨gb318, 1, none⟩ = some (.slice A0_1 l0_1.length c0_1) := (blk_cell BK318.out 1).trans rfl; have hcz100_2 : w98.cell? ⟨gb318, 2, none⟩ = some (.slice A0_2 l0_2.length c0_2) := (blk_cell BK318.out 2).trans rfl; have hfz100_0 := blk_frozen BK318.out 0; have hfz100_1 := blk_frozen BK318.out 1; have hfz100_2 := blk_frozen BK318.out 2) | (go_at_call 85; (with_reducible refine (peristyleref32_from.calls k2 a0_0 _ _ l0_1 _ _ l0_2 _ _ l1 _ _ t328 t341 false _ ?side1 ?side2 ?side3 ?side4 ?side5 ?side6 ?side7 ?side8 A85.out).mono ?_); (case side1 => repeat (exact (Kd.V_reads' HO_319001.out).2.2)); (case side2 => exact (Kd.V_reads' HO_319001.out).2.1); (case side3 => repeat (exact (Kd.V_reads' HO_319002.out).2.2)); (case side4 => exact (Kd.V_reads' HO_319002.out).2.1); (case side5 => repeat (exact (Kd.C_below HR1.out HB.out))); (case side6 => exact HC1.out); (case side7 => repeat (exact (Kd.R_reads' HO330.out).2.2)); (case side8 => exact (Kd.R_reads' HO330.out).2.1); rintro e w101 ⟨v342, rfl, ho0, hb⟩; have n0_ := Aside0.mk (Kd.V_elder' HO_319001.out (Kd.R_base ho0) hb); have n1_ := Aside0.mk (Kd.V_elder' HO_319002.out (Kd.R_base ho0) hb); have n2_ := Aside0.mk (Kd.R_elder' HO330.out (Kd.R_base ho0) hb); have n3_ := Aside0.mk (Kd.R_lower (Kd.R_new' (Kd.R_newM (M := fun k_ => (w.heap.size ≤ k_)) ho0 (below_size HB.out) (fun k_ h_ => h_)) (Kd.R_lt HO330.out)) (below_size HB.out)); have n4_ := Aside0.mk (blk_below (g := gb318) (o := .cells #[.string a0_0, .slice A0_1 l0_1.length c0_1, .slice A0_2 l0_2.length c0_2] 63 (0, 0)) BK318.out hb); have n5_ := Aside0.mk (blk_below (g := gb319) (o := .cells #[.int .i64 x320000_2, .slice none 0 0] 68 (0, 0)) BK319.out hb); have n6_ := Aside0.mk (below_step HB.out hb); clear HO_319001 HO_319002 HO330 BK318 BK319 HB; have HO_319001 := n0_; have HO_319002 := n1_; have HO330 := n2_; have HO343 := n3_; have BK318 := n4_; have BK319 := n5_; have HB := n6_; clear n0_ n1_ n2_ n3_ n4_ n5_ n6_; (try clear hb); (try clear ho0); have hcz102_0 : w101.cell? ⟨gb319, 0, none⟩ = some (.int .i64 x320000_2) := (blk_cell BK319.out 0).trans rfl; have hcz102_1 : w101.cell? ⟨gb319, 1, none⟩ = some (.slice none 0 0) := (blk_cell BK319.out 1).trans rfl; have hfz102_0 := blk_frozen BK319.out 0; have hfz102_1 := blk_frozen BK319.out 1))
          repeat (go_quiet (fail); try go_wp2_with fail)
          refine bodyPost_ret (results_ct rfl _ _ gb319 68 #[.int .i64 0, .slice none 0 0] (0, 0) _ rfl (by refine blk_put (cs := #[.int .i64 0, .slice none 0 0]) ?_ 1 _ rfl; refine blk_put (cs := #[.int .i64 x320000_2, .slice none 0 0]) ?_ 0 _ rfl; exact BK319.out) Try.underlying68 rfl (by kernel_rfl)) rfl ?_
          exact ⟨_, by rfl, by exact Kd.R_nil _ _ _ _ _, by repeat ((with_reducible first | exact HB.out | refine below_set ?_ GE319.out))⟩
 ·
  replace c6 := Bool.eq_false_iff.mpr c6
  subst c6
  have H1 : (some (0, ([] : List Int), 1)) = some (r1, r2, r3) := by rw [if_neg (show ¬ (false = true) by decide)] at H; exact H
  clear H
  have H := H1
  clear H1
  simp only [Option.some.injEq, Prod.mk.injEq] at H
  obtain ⟨rfl, rfl, rfl⟩ := H
  go_enter Try.func33, Try.ntmps33
  go_wp2_with (first | ((with_reducible refine gate_dst (N := 4) rfl ?_); (try (refine gate_guard (by rfl) ?_; dsimp only)); refine box_event ?hg (N := 4) ?hd (cs := #[.string a0_0, .slice A0_1 l0_1.length c0_1, .slice A0_2 l0_2.length c0_2]) (t := 63) ?hr ?_; (case hd => rfl); (case hg => rfl); (case hr => (go_simp; done)); intro gb318 hg w103 hbox hb; have n0_ := Aside0.mk (Kd.V_below (Kd.V_elderB HO0_1.out gb318 (Nat.le_of_eq hg.symm)) hb); have n1_ := Aside0.mk (Kd.V_below (Kd.V_elderB HO0_2.out gb318 (Nat.le_of_eq hg.symm)) hb); have n2_ := Aside0.mk (below_step HB.out hb); have n3_ := Aside0.mk (hbox); have n4_ := Aside0.mk ((by rw [hg]; exact (below_size HB.out) : w.heap.size ≤ gb318)); have n5_ := Aside0.mk ((by rw [hg]; exact (below_size HB.out) : w.heap.size ≤ gb318)); clear HO0_1 HO0_2 HB; have HO0_1 := n0_; have HO0_2 := n1_; have HB := n2_; have BK318 := n3_; have GW318 := n4_; have GE318 := n5_; clear n0_ n1_ n2_ n3_ n4_ n5_ hb hbox hg) | ((with_reducible refine gate_dst (N := 8) rfl ?_); (try (refine gate_guard (by rfl) ?_; dsimp only)); refine box_event ?hg (N := 8) ?hd (cs := #[.int .i64 0, .slice none 0 0]) (t := 68) ?hr ?_; (case hd => rfl); (case hg => rfl); (case hr => (go_simp; done)); intro gb319 hg w104 hbox hb; have n0_ := Aside0.mk (Kd.V_below (Kd.V_elderB HO0_1.out gb319 (Nat.le_of_eq hg.symm)) hb); have n1_ := Aside0.mk (Kd.V_below (Kd.V_elderB HO0_2.out gb319 (Nat.le_of_eq hg.symm)) hb); have n2_ := Aside0.mk (blk_below (g := gb318) (o := .cells #[.string a0_0, .slice A0_1 l0_1.length c0_1, .slice A0_2 l0_2.length c0_2] 63 (0, 0)) BK318.out hb); have n3_ := Aside0.mk (below_step HB.out hb); have n4_ := Aside0.mk (hbox); have n5_ := Aside0.mk ((by rw [hg]; exact (below_size HB.out) : w.heap.size ≤ gb319)); have n6_ := Aside0.mk ((by rw [hg]; exact (below_size HB.out) : w.heap.size ≤ gb319)); have n7_ := Aside0.mk ((by rw [hg]; exact Nat.ne_of_lt (blk_lt (g := gb318) (o := .cells #[.string a0_0, .slice A0_1 l0_1.length c0_1, .slice A0_2 l0_2.length c0_2] 63 (0, 0)) BK318.out) : gb318 ≠ gb319)); have n8_ := Aside0.mk ((by rw [hg]; exact Nat.ne_of_gt (blk_lt (g := gb318) (o := .cells #[.string a0_0, .slice A0_1 l0_1.length c0_1, .slice A0_2 l0_2.length c0_2] 63 (0, 0)) BK318.out) : gb319 ≠ gb318)); clear HO0_1 HO0_2 BK318 HB; have HO0_1 := n0_; have HO0_2 := n1_; have BK318 := n2_; have HB := n3_; have BK319 := n4_; have GW319 := n5_; have GE319 := n6_; have NB318_319 := n7_; have NB319_318 := n8_; clear n0_ n1_ n2_ n3_ n4_ n5_ n6_ n7_ n8_ hb hbox hg; have hnb105 := NB318_319.out; have hnc105 := NB319_318.out; have hcz106_0 : w104.cell? ⟨gb318, 0, none⟩ = some (.string a0_0) := (blk_cell BK318.out 0).trans rfl; have hcz106_1 : w104.cell? ⟨gb318, 1, none⟩ = some (.slice A0_1 l0_1.length c0_1) := (blk_cell BK318.out 1).trans rfl; have hcz106_2 : w104.cell? ⟨gb318, 2, none⟩ = some (.slice A0_2 l0_2.length c0_2) := (blk_cell BK318.out 2).trans rfl; have hfz106_0 := blk_frozen BK318.out 0; have hfz106_1 := blk_frozen BK318.out 1; have hfz106_2 := blk_frozen BK318.out 2) | ((with_reducible refine gate_dst (N := 18) rfl ?_); (try (refine gate_guard (by rfl) ?_; dsimp only)); refine Kd.N_lit k63 _ 63 ?hg (N' := 18) ?hd (xs := ([(⟨a0_0, l0_1, l0_2⟩ : S63)] : List (S63))) (inner := [.string a0_0, .slice A0_1 l0_1.length c0_1, .slice A0_2 l0_2.length c0_2]) (ok := (fun k_ => ((P0_1_ k_ ∨ P0_2_ k_) ∨ w.heap.size ≤ k_) ∧ k_ ≠ gb318 ∧ k_ ≠ gb319)) (okp := (fun k_ => ((P0_1_ k_ ∨ P0_2_ k_) ∨ w.heap.size ≤ k_) ∧ k_ ≠ gb318 ∧ k_ ≠ gb319)) ?hr ?hp (fun _ hk => hk) ((show ∀ k_, w104.heap.size ≤ k_ → (fun k_ => ((P0_1_ k_ ∨ P0_2_ k_) ∨ w.heap.size ≤ k_) ∧ k_ ≠ gb318 ∧ k_ ≠ gb319) k_ from fun k_ hk => ⟨(.inr (Nat.le_trans (below_size HB.out) hk)), Kd.freshB (g := gb318) (o := .cells #[.string a0_0, .slice A0_1 l0_1.length c0_1, .slice A0_2 l0_2.length c0_2] 63 (0, 0)) BK318.out k_ hk, Kd.freshB (g := gb319) (o := .cells #[.int .i64 0, .slice none 0 0] 68 (0, 0)) BK319.out k_ hk⟩) _ (Nat.le_refl _)) (Below.refl _ _) (Nat.le_refl _) (by simp) ?_; (case hd => rfl); (case hg => rfl); (case hr => (go_simp; done)); (case hp => exact (Reps.c3 (show Kd.FK k63 _ _ (⟨a0_0, l0_1, l0_2⟩ : S63) [.string a0_0, .slice A0_1 l0_1.length c0_1, .slice A0_2 l0_2.length c0_2] from (k63_mkF _ _ (⟨a0_0, l0_1, l0_2⟩ : S63) (Kd.V_reads' (Kd.V_mono (ok' := (fun k_ => ((P0_1_ k_ ∨ P0_2_ k_) ∨ w.heap.size ≤ k_) ∧ k_ ≠ gb318 ∧ k_ ≠ gb319)) (HO0_1.out) (fun k_ hk => ⟨hk.1.1, ⟨hk.1.2, hk.2⟩⟩))).2.1 (Kd.V_F (e := 0) (base := 0) (Kd.V_mono (e := 0) (base := 0) (ok' := (fun k_ => ((P0_1_ k_ ∨ P0_2_ k_) ∨ w.heap.size ≤ k_) ∧ k_ ≠ gb318 ∧ k_ ≠ gb319)) (HO0_1.out) (fun k_ hk => ⟨hk.1.1, ⟨hk.1.2, hk.2⟩⟩))) (Kd.V_reads' (Kd.V_mono (ok' := (fun k_ => ((P0_1_ k_ ∨ P0_2_ k_) ∨ w.heap.size ≤ k_) ∧ k_ ≠ gb318 ∧ k_ ≠ gb319)) (HO0_2.out) (fun k_ hk => ⟨hk.1.1, ⟨hk.1.2, hk.2⟩⟩))).2.1 (Kd.V_F (e := 0) (base := 0) (Kd.V_mono (e := 0) (base := 0) (ok' := (fun k_ => ((P0_1_ k_ ∨ P0_2_ k_) ∨ w.heap.size ≤ k_) ∧ k_ ≠ gb318 ∧ k_ ≠ gb319)) (HO0_2.out) (fun k_ hk => ⟨hk.1.1, ⟨hk.1.2, hk.2⟩⟩))))) (Reps.none _ _))); intro v321 w107 ho108 hb hg_ hnew_; clear hg_ hnew_; (rw [← Ny320.out] at ho108); have n0_ := Aside0.mk (Kd.V_elder' HO0_1.out (Kd.N_base ho108) hb); have n1_ := Aside0.mk (Kd.V_elder' HO0_2.out (Kd.N_base ho108) hb); have n2_ := Aside0.mk (Kd.N_lower ho108 (below_size HB.out)); have n3_ := Aside0.mk (blk_below (g := gb318) (o := .cells #[.string a0_0, .slice A0_1 l0_1.length c0_1, .slice A0_2 l0_2.length c0_2] 63 (0, 0)) BK318.out hb); have n4_ := Aside0.mk (blk_below (g := gb319) (o := .cells #[.int .i64 0, .slice none 0 0] 68 (0, 0)) BK319.out hb); have n5_ := Aside0.mk (below_step HB.out hb); clear HO0_1 HO0_2 BK318 BK319 HB; have HO0_1 := n0_; have HO0_2 := n1_; have HO322 := n2_; have BK318 := n3_; have BK319 := n4_; have HB := n5_; clear n0_ n1_ n2_ n3_ n4_ n5_ hb ho108; obtain ⟨Ao109, co109, eo109⟩ := Kd.N_slice HO322.out; subst eo109) | (go_at_call 35; (with_reducible refine (peristyleref25_May.calls k _ _ y320 false _ ?side1 ?side2 A5.out).mono ?_); (case side1 => repeat (exact (Kd.N_reads' HO322.out).2.2)); (case side2 => exact (Kd.N_reads' HO322.out).2.1); rintro e w110 ⟨rfl, hb⟩; have n0_ := Aside0.mk (Kd.V_below HO0_1.out hb); have n1_ := Aside0.mk (Kd.V_below HO0_2.out hb); have n2_ := Aside0.mk (Kd.N_below HO322.out hb); have n3_ := Aside0.mk (blk_below (g := gb318) (o := .cells #[.string a0_0, .slice A0_1 l0_1.length c0_1, .slice A0_2 l0_2.length c0_2] 63 (0, 0)) BK318.out hb); have n4_ := Aside0.mk (blk_below (g := gb319) (o := .cells #[.int .i64 0, .slice none 0 0] 68 (0, 0)) BK319.out hb); have n5_ := Aside0.mk (below_step HB.out hb); clear HO0_1 HO0_2 HO322 BK318 BK319 HB; have HO0_1 := n0_; have HO0_2 := n1_; have HO322 := n2_; have BK318 := n3_; have BK319 := n4_; have HB := n5_; clear n0_ n1_ n2_ n3_ n4_ n5_; (try clear hb); have hcz111_0 : w110.cell? ⟨gb319, 0, none⟩ = some (.int .i64 0) := (blk_cell BK319.out 0).trans rfl; have hcz111_1 : w110.cell? ⟨gb319, 1, none⟩ = some (.slice none 0 0) := (blk_cell BK319.out 1).trans rfl; have hfz111_0 := blk_frozen BK319.out 0; have hfz111_1 := blk_frozen BK319.out 1))
  repeat (go_quiet (fail); try go_wp2_with fail)
  refine bodyPost_ret (results_ct rfl _ _ gb319 68 #[.int .i64 0, .slice none 0 0] (0, 0) _ rfl (by refine blk_put (cs := #[.int .i64 0, .slice none 0 0]) ?_ 1 _ rfl; refine blk_put (cs := #[.int .i64 0, .slice none 0 0]) ?_ 0 _ rfl; exact BK319.out) Try.underlying68 rfl (by kernel_rfl)) rfl ?_
  exact ⟨_, by rfl, by exact Kd.R_nil _ _ _ _ _, by repeat ((with_reducible first | exact HB.out | refine below_set ?_ GE319.out))⟩
end Go.Proofs.Ytgjclhhjigflkab.C
