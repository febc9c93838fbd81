-- written by mkprint.py, a program of this session, over the kit's printer
import Derived.Test.YtgjclhhjigflkabCx0
import Derived.Test.YtgjclhhjigflkabCx1
import Derived.Test.YtgjclhhjigflkabCx2
import Derived.Test.YtgjclhhjigflkabCx5
import Derived.Test.YtgjclhhjigflkabCvManual
namespace Go.Proofs.Ytgjclhhjigflkab.C
open Go.RowKit Go.Proofs.YtgjclhhjigflkabW.PrintWords Go.Proofs.YtgjclhhjigflkabW.PrintLast Go.Proofs.YtgjclhhjigflkabW.PrintMore
attribute [local go_sem] max2_int min2_int max_two min_two max_three min_three max_four min_four   -- for this text's walks alone
set_option linter.unusedVariables false
set_option linter.unusedSimpArgs false
/-! ### peristylelaw32_CoverMay: function 8 -/
mutual
def peristylelaw32_CoverMay.j0 : Nat → List ByteArray → Bool → ByteArray → List (S177) → List (S138) → List Int → List Int → Option (Bool)
 | 0, _, _, _, _, _, _, _ => none
 | k + 1, x2, x34, x365000, x365001, x365002, x366000, x366001 => if x34 = true then ((peristylelaw32_awake.f k).bind fun t371 => (some t371)) else (peristylelaw32_CoverMay.l0 k x2 (x365001.length : Int) ([] : List Int) 0 x365000 x365001 x365002 x366000 x366001)
def peristylelaw32_CoverMay.l0 : Nat → List ByteArray → Int → List Int → Int → ByteArray → List (S177) → List (S138) → List Int → List Int → Option (Bool)
 | 0, _, _, _, _, _, _, _, _, _ => none
 | k + 1, x2, x7, x8, x10, x365000, x365001, x365002, x366000, x366001 => if x10 < (x366000.length : Int) then (if 0 ≤ x10 then (if x7 = 0 then (none) else (if x8.length < 17592186044416 then (peristylelaw32_CoverMay.l0 k x2 x7 (x8 ++ [Int.tmod (Go.bits .and .i64 (rd x366000 x10) 255) x7]) (wrap64 (x10 + 1)) x365000 x365001 x365002 x366000 x366001) else (none))) else (none)) else (peristylelaw32_CoverMay.l1 k x2 x7 x8 ([] : List Int) 0 x365000 x365001 x365002 x366000 x366001)
def peristylelaw32_CoverMay.l1 : Nat → List ByteArray → Int → List Int → List Int → Int → ByteArray → List (S177) → List (S138) → List Int → List Int → Option (Bool)
 | 0, _, _, _, _, _, _, _, _, _, _ => none
 | k + 1, x2, x7, x8, x9, x11, x365000, x365001, x365002, x366000, x366001 => if x11 < (x366001.length : Int) then (if 0 ≤ x11 then (if x7 = 0 then (none) else (if x9.length < 17592186044416 then (peristylelaw32_CoverMay.l1 k x2 x7 x8 (x9 ++ [Int.tmod (Go.bits .and .i64 (rd x366001 x11) 255) x7]) (wrap64 (x11 + 1)) x365000 x365001 x365002 x366000 x366001) else (none))) else (none)) else ((cover_Choose.f k x365000 x365001 x365002 x8 x9 x2).bind fun bt380 => ((cover_Choose.f k x365000 x365001 x365002 x8 x9 ([] : List ByteArray)).bind fun bt386 => (if bt386.2.2 = 0 then ((cover_Check.f k x365000 x365001 x365002 x8 bt386.1 bt386.2.1).bind fun t392 => (if t392 = 0 then (if bt380.2.2 = 0 then (peristylelaw32_CoverMay.j3 k x8 bt380.2.2 false x365000 x365001 x365002 bt380.1 bt380.2.1 bt386.1 bt386.2.1) else (peristylelaw32_CoverMay.j3 k x8 bt380.2.2 (bt380.2.2 != 320) x365000 x365001 x365002 bt380.1 bt380.2.1 bt386.1 bt386.2.1)) else (peristylelaw32_CoverMay.j3 k x8 bt380.2.2 true x365000 x365001 x365002 bt380.1 bt380.2.1 bt386.1 bt386.2.1))) else (peristylelaw32_CoverMay.j3 k x8 bt380.2.2 true x365000 x365001 x365002 bt380.1 bt380.2.1 bt386.1 bt386.2.1))))
def peristylelaw32_CoverMay.j3 : Nat → List Int → Int → Bool → ByteArray → List (S177) → List (S138) → Int → List Int → Int → List Int → Option (Bool)
 | 0, _, _, _, _, _, _, _, _, _, _ => none
 | k + 1, x8, x13, x106, x365000, x365001, x365002, x386000, x386001, x392000, x392001 => if x106 = true then (none) else (peristylelaw32_CoverMay.l2 k x8 x13 0 x365000 x365001 x365002 x386000 x386001 x392000 x392001)
def peristylelaw32_CoverMay.l2 : Nat → List Int → Int → Int → ByteArray → List (S177) → List (S138) → Int → List Int → Int → List Int → Option (Bool)
 | 0, _, _, _, _, _, _, _, _, _, _ => none
 | k + 1, x8, x13, x16, x365000, x365001, x365002, x386000, x386001, x392000, x392001 => if x16 < (x8.length : Int) then (if 0 ≤ x16 then ((cover_Place.f k x365000 x365001 x365002 x392000 (rd x8 x16)).bind fun t394 => (if t394 < 0 then (none) else (peristylelaw32_CoverMay.l2 k x8 x13 (wrap64 (x16 + 1)) x365000 x365001 x365002 x386000 x386001 x392000 x392001))) else (none)) else (if x13 = 0 then ((cover_Check.f k x365000 x365001 x365002 x8 x386000 x386001).bind fun t395 => (if t395 = 0 then ((peristylelaw32_awake.f k).bind fun t396 => (some t396)) else (none))) else ((peristylelaw32_awake.f k).bind fun t397 => (some t397)))
end
def peristylelaw32_CoverMay.f (k : Nat) (a0_0 : ByteArray) (l0_1 : List (S177)) (l0_2 : List (S138)) (l1_0 : List Int) (l1_1 : List Int) (l2 : List ByteArray) : Option (Bool) := (peristylelaw32_light.f k a0_0 l0_1 l0_2 l1_0 l2).bind fun t366 => (if t366 = true then (if (l1_1.length : Int) > 20 then (peristylelaw32_CoverMay.j0 k l2 true a0_0 l0_1 l0_2 l1_0 l1_1) else ((peristyleref25_May.f k (([(⟨a0_0, l0_1, l0_2⟩ : S63)] : List (S63)))).bind fun t370 => (peristylelaw32_CoverMay.j0 k l2 (!t370) a0_0 l0_1 l0_2 l1_0 l1_1))) else (peristylelaw32_CoverMay.j0 k l2 true a0_0 l0_1 l0_2 l1_0 l1_1))
def peristylelaw32_CoverMay.T20 : Bool × List (List Nat × List Nat) := (true, [([], []), ([], []), ([1], [1]), ([], []), ([], []), ([3, 4], [3, 4]), ([5], [5]), ([0, 2, 6], [0, 2, 6]), ([7], [7])])
def peristylelaw32_CoverMay.B20 : List Nat := [0, 0, 2, 0, 0, 24, 56, 127, 255]
theorem peristylelaw32_CoverMay.tab20 : rtab .any (opsOf Try.f8 20) = peristylelaw32_CoverMay.T20 := by kernel_rfl
theorem peristylelaw32_CoverMay.bits20 : waitsOk peristylelaw32_CoverMay.T20.2 peristylelaw32_CoverMay.B20 = true := by kernel_rfl
set_option maxHeartbeats 8000000 in
set_option maxRecDepth 100000 in
theorem peristylelaw32_CoverMay.calls (k : Nat) (a0_0 : ByteArray) (P0_1_ : Nat → Prop) (A0_1 : Option Addr) (c0_1 : Nat) (l0_1 : List (S177)) (P0_2_ : Nat → Prop) (A0_2 : Option Addr) (c0_2 : Nat) (l0_2 : List (S138)) (A1_0 : Option Addr) (c1_0 : Nat) (l1_0 : List Int) (A1_1 : Option Addr) (c1_1 : Nat) (l1_1 : List Int) (A2 : Option Addr) (c2 : Nat) (l2 : List ByteArray) (r : Bool) (w : World) (hs0_1 : Kd.V k177 177 w w.heap.size (fun k_ => P0_1_ k_) (.slice A0_1 l0_1.length c0_1) l0_1) (hs0_2 : Kd.V k138 138 w w.heap.size (fun k_ => P0_2_ k_) (.slice A0_2 l0_2.length c0_2) l0_2) (hr1_0 : Kd.C (Kd.int .i64) w A1_0 l1_0.length l1_0) (hc1_0 : l1_0.length ≤ c1_0) (hr1_1 : Kd.C (Kd.int .i64) w A1_1 l1_1.length l1_1) (hc1_1 : l1_1.length ≤ c1_1) (hr2 : Kd.C Kd.string w A2 l2.length l2) (hc2 : l2.length ≤ c2) (h : peristylelaw32_CoverMay.f k a0_0 l0_1 l0_2 l1_0 l1_1 l2 = some r) :
  Calls Try.prog 8 #[.agg #[.string a0_0, .slice A0_1 l0_1.length c0_1, .slice A0_2 l0_2.length c0_2], .agg #[.slice A1_0 l1_0.length c1_0, .slice A1_1 l1_1.length c1_1], .slice A2 l2.length c2] w fun e w' => e = .returned (.bool r) ∧ Below w.heap.size w w' := by
 have hu63 := Try.underlying63
 have hu65 := Try.underlying65
 have hu68 := Try.underlying68
 have HO0_1 := Aside0.mk (show Kd.V k177 177 w w.heap.size (fun k_ => ((P0_1_ k_ ∨ P0_2_ k_) ∨ w.heap.size ≤ k_)) (.slice A0_1 l0_1.length c0_1) l0_1 from Kd.V_mono hs0_1 (fun k_ hk => .inl (.inl hk)))
 have HO0_2 := Aside0.mk (show Kd.V k138 138 w w.heap.size (fun k_ => ((P0_1_ k_ ∨ P0_2_ k_) ∨ w.heap.size ≤ k_)) (.slice A0_2 l0_2.length c0_2) l0_2 from Kd.V_mono hs0_2 (fun k_ hk => .inl (.inr hk)))
 have HR1_0 := Aside0.mk hr1_0
 have HC1_0 := Aside0.mk hc1_0
 clear hr1_0 hc1_0
 have HR1_1 := Aside0.mk hr1_1
 have HC1_1 := Aside0.mk hc1_1
 clear hr1_1 hc1_1
 have HR2 := Aside0.mk hr2
 have HC2 := Aside0.mk hc2
 clear hr2 hc2
 have HB := Aside0.mk (Below.refl w.heap.size w)
 have H : ((peristylelaw32_light.f k a0_0 l0_1 l0_2 l1_0 l2).bind fun t366 => (if t366 = true then (if (l1_1.length : Int) > 20 then (peristylelaw32_CoverMay.j0 k l2 true a0_0 l0_1 l0_2 l1_0 l1_1) else ((peristyleref25_May.f k (([(⟨a0_0, l0_1, l0_2⟩ : S63)] : List (S63)))).bind fun t370 => (peristylelaw32_CoverMay.j0 k l2 (!t370) a0_0 l0_1 l0_2 l1_0 l1_1))) else (peristylelaw32_CoverMay.j0 k l2 true a0_0 l0_1 l0_2 l1_0 l1_1))) = some r := h
 clear h
 have HC4 := Aside0.mk H
 clear H
 go_enter Try.func8, Try.ntmps8
 go_upto_region 1 with (first | ((with_reducible refine gate_dst (N := 3) rfl ?_); (try (refine gate_guard (by rfl) ?_; dsimp only)); refine box_event ?hg (N := 3) ?hd (cs := #[.string a0_0, .slice A0_1 l0_1.length c0_1, .slice A0_2 l0_2.length c0_2]) (t := 63) ?hr ?_; (case hd => rfl); (case hg => rfl); (case hr => (go_simp; done)); intro gb364 hg w5 hbox hb; have n0_ := Aside0.mk (Kd.V_below (Kd.V_elderB HO0_1.out gb364 (Nat.le_of_eq hg.symm)) hb); have n1_ := Aside0.mk (Kd.V_below (Kd.V_elderB HO0_2.out gb364 (Nat.le_of_eq hg.symm)) hb); have n2_ := Aside0.mk (below_step HB.out hb); have n3_ := Aside0.mk (hbox); have n4_ := Aside0.mk ((by rw [hg]; exact (below_size HB.out) : w.heap.size ≤ gb364)); have n5_ := Aside0.mk ((by rw [hg]; exact (below_size HB.out) : w.heap.size ≤ gb364)); clear HO0_1 HO0_2 HB; have HO0_1 := n0_; have HO0_2 := n1_; have HB := n2_; have BK364 := n3_; have GW364 := n4_; have GE364 := n5_; clear n0_ n1_ n2_ n3_ n4_ n5_ hb hbox hg) | ((with_reducible refine gate_dst (N := 4) rfl ?_); (try (refine gate_guard (by rfl) ?_; dsimp only)); refine box_event ?hg (N := 4) ?hd (cs := #[.slice A1_0 l1_0.length c1_0, .slice A1_1 l1_1.length c1_1]) (t := 65) ?hr ?_; (case hd => rfl); (case hg => rfl); (case hr => (go_simp; done)); intro gb365 hg w6 hbox hb; have n0_ := Aside0.mk (Kd.V_below (Kd.V_elderB HO0_1.out gb365 (Nat.le_of_eq hg.symm)) hb); have n1_ := Aside0.mk (Kd.V_below (Kd.V_elderB HO0_2.out gb365 (Nat.le_of_eq hg.symm)) hb); have n2_ := Aside0.mk (blk_below (g := gb364) (o := .cells #[.string a0_0, .slice A0_1 l0_1.length c0_1, .slice A0_2 l0_2.length c0_2] 63 (0, 0)) BK364.out hb); have n3_ := Aside0.mk (below_step HB.out hb); have n4_ := Aside0.mk (hbox); have n5_ := Aside0.mk ((by rw [hg]; exact (below_size HB.out) : w.heap.size ≤ gb365)); have n6_ := Aside0.mk ((by rw [hg]; exact (below_size HB.out) : w.heap.size ≤ gb365)); have n7_ := Aside0.mk ((by rw [hg]; exact Nat.ne_of_lt (blk_lt (g := gb364) (o := .cells #[.string a0_0, .slice A0_1 l0_1.length c0_1, .slice A0_2 l0_2.length c0_2] 63 (0, 0)) BK364.out) : gb364 ≠ gb365)); have n8_ := Aside0.mk ((by rw [hg]; exact Nat.ne_of_gt (blk_lt (g := gb364) (o := .cells #[.string a0_0, .slice A0_1 l0_1.length c0_1, .slice A0_2 l0_2.length c0_2] 63 (0, 0)) BK364.out) : gb365 ≠ gb364)); clear HO0_1 HO0_2 BK364 HB; have HO0_1 := n0_; have HO0_2 := n1_; have BK364 := n2_; have HB := n3_; have BK365 := n4_; have GW365 := n5_; have GE365 := n6_; have NB364_365 := n7_; have NB365_364 := n8_; clear n0_ n1_ n2_ n3_ n4_ n5_ n6_ n7_ n8_ hb hbox hg))
 go_cut [34] (fun v34 wc => ∃ (kq : Nat) (x34_3 : Bool), v34 = .bool x34_3 ∧ Aside0 (peristylelaw32_CoverMay.j0 kq l2 x34_3 a0_0 l0_1 l0_2 l1_0 l1_1 = some r) ∧ Aside0 (kq ≤ k) ∧ Aside0 (Kd.V k177 177 wc w.heap.size (fun k_ => ((P0_1_ k_ ∨ P0_2_ k_) ∨ w.heap.size ≤ k_) ∧ k_ ≠ gb364 ∧ k_ ≠ gb365) (.slice A0_1 l0_1.length c0_1) l0_1) ∧ Aside0 (Kd.V k138 138 wc w.heap.size (fun k_ => ((P0_1_ k_ ∨ P0_2_ k_) ∨ w.heap.size ≤ k_) ∧ k_ ≠ gb364 ∧ k_ ≠ gb365) (.slice A0_2 l0_2.length c0_2) l0_2) ∧ Aside0 (wc.heap[gb364]? = some (.cells #[.string a0_0, (.slice A0_1 l0_1.length c0_1), (.slice A0_2 l0_2.length c0_2)] 63 (0, 0))) ∧ Aside0 (wc.heap[gb365]? = some (.cells #[(.slice A1_0 l1_0.length c1_0), (.slice A1_1 l1_1.length c1_1)] 65 (0, 0))) ∧ Aside0 (Below w.heap.size w wc))
 case first =>
  have H := HC4.out
  clear HC4
  replace H := Option.bind_eq_some_iff.mp H
  obtain ⟨t366, A70, H⟩ := H
  replace H : (if t366 = true then (if (l1_1.length : Int) > 20 then (peristylelaw32_CoverMay.j0 k l2 true a0_0 l0_1 l0_2 l1_0 l1_1) else ((peristyleref25_May.f k (([(⟨a0_0, l0_1, l0_2⟩ : S63)] : List (S63)))).bind fun t370 => (peristylelaw32_CoverMay.j0 k l2 (!t370) a0_0 l0_1 l0_2 l1_0 l1_1))) else (peristylelaw32_CoverMay.j0 k l2 true a0_0 l0_1 l0_2 l1_0 l1_1)) = some r := H
  have A7 := Aside0.mk A70
  clear A70
  by_cases c8 : t366 = true
  ·
   subst c8
   have H1 : (if (l1_1.length : Int) > 20 then (peristylelaw32_CoverMay.j0 k l2 true a0_0 l0_1 l0_2 l1_0 l1_1) else ((peristyleref25_May.f k (([(⟨a0_0, l0_1, l0_2⟩ : S63)] : List (S63)))).bind fun t370 => (peristylelaw32_CoverMay.j0 k l2 (!t370) a0_0 l0_1 l0_2 l1_0 l1_1))) = some r := by rw [if_pos rfl] at H; exact H
   clear H
   have H := H1
   clear H1
   by_cases c9 : (l1_1.length : Int) > 20
   ·
    rw [if_pos c9] at H
    have c9b0 : decide (20 < (l1_1.length : Int)) = true := decide_eq_true c9
    have c9b1 : decide (20 < l1_1.length) = true := decide_eq_true (by omega)
    clear c9
    have H' := Aside0.mk H
    clear H
    have hnb10 := NB364_365.out
    have hnc10 := NB365_364.out
    have hcz11_0 : w6.cell? ⟨gb364, 0, none⟩ = some (.string a0_0) := (blk_cell BK364.out 0).trans rfl
    have hcz11_1 : w6.cell? ⟨gb364, 1, none⟩ = some (.slice A0_1 l0_1.length c0_1) := (blk_cell BK364.out 1).trans rfl
    have hcz11_2 : w6.cell? ⟨gb364, 2, none⟩ = some (.slice A0_2 l0_2.length c0_2) := (blk_cell BK364.out 2).trans rfl
    have hfz11_0 := blk_frozen BK364.out 0
    have hfz11_1 := blk_frozen BK364.out 1
    have hfz11_2 := blk_frozen BK364.out 2
    have hcz12_0 : w6.cell? ⟨gb365, 0, none⟩ = some (.slice A1_0 l1_0.length c1_0) := (blk_cell BK365.out 0).trans rfl
    have hcz12_1 : w6.cell? ⟨gb365, 1, none⟩ = some (.slice A1_1 l1_1.length c1_1) := (blk_cell BK365.out 1).trans rfl
    have hfz12_0 := blk_frozen BK365.out 0
    have hfz12_1 := blk_frozen BK365.out 1
    go_wp2_with (((with_reducible refine gate_callee (f := 30) rfl ?_); refine goesL_ (some 21) rfl rfl Try.func30 (by kernel_rfl) rfl #[.agg #[.string a0_0, .slice A0_1 l0_1.length c0_1, .slice A0_2 l0_2.length c0_2], .slice A1_0 l1_0.length c1_0, .slice A2 l2.length c2] rfl (by (try simp only [List.map_toArray, List.map_cons, List.map_nil]); rfl) ?_; (with_reducible refine (peristylelaw32_light.calls k a0_0 (fun k_ => ((((P0_1_ k_ ∨ P0_2_ k_) ∨ w.heap.size ≤ k_) ∧ k_ ≠ gb364) ∧ k_ ≠ gb365)) _ _ l0_1 (fun k_ => ((((P0_1_ k_ ∨ P0_2_ k_) ∨ w.heap.size ≤ k_) ∧ k_ ≠ gb364) ∧ k_ ≠ gb365)) _ _ l0_2 _ _ l1_0 _ _ l2 true _ ?side1 ?side2 ?side3 ?side4 ?side5 ?side6 A7.out).mono ?_); (case side1 => exact HO0_1.out); (case side2 => exact HO0_2.out); (case side3 => repeat (exact (Kd.C_below HR1_0.out HB.out))); (case side4 => exact HC1_0.out); (case side5 => repeat (exact (Kd.C_below HR2.out HB.out))); (case side6 => exact HC2.out); rintro e w13 ⟨rfl, hb⟩; refine ⟨_, rfl, ?_⟩; have n0_ := Aside0.mk (Kd.V_below HO0_1.out hb); have n1_ := Aside0.mk (Kd.V_below HO0_2.out hb); have n2_ := Aside0.mk (blk_below (g := gb364) (o := .cells #[.string a0_0, .slice A0_1 l0_1.length c0_1, .slice A0_2 l0_2.length c0_2] 63 (0, 0)) BK364.out hb); have n3_ := Aside0.mk (blk_below (g := gb365) (o := .cells #[.slice A1_0 l1_0.length c1_0, .slice A1_1 l1_1.length c1_1] 65 (0, 0)) BK365.out hb); have n4_ := Aside0.mk (below_step HB.out hb); clear HO0_1 HO0_2 BK364 BK365 HB; have HO0_1 := n0_; have HO0_2 := n1_; have BK364 := n2_; have BK365 := n3_; have HB := n4_; clear n0_ n1_ n2_ n3_ n4_; (try clear hb); have hcz14_0 : w13.cell? ⟨gb365, 0, none⟩ = some (.slice A1_0 l1_0.length c1_0) := (blk_cell BK365.out 0).trans rfl; have hcz14_1 : w13.cell? ⟨gb365, 1, none⟩ = some (.slice A1_1 l1_1.length c1_1) := (blk_cell BK365.out 1).trans rfl; have hfz14_0 := blk_frozen BK365.out 0; have hfz14_1 := blk_frozen BK365.out 1))
    go_meet
    case rel => exact ⟨_, (true), (by rfl), H', ⟨by omega⟩, ⟨by exact Kd.V_mono HO0_1.out (fun _ hk => ⟨hk.1.1, ⟨hk.1.2, hk.2⟩⟩)⟩, ⟨by exact Kd.V_mono HO0_2.out (fun _ hk => ⟨hk.1.1, ⟨hk.1.2, hk.2⟩⟩)⟩, ⟨BK364.out⟩, ⟨BK365.out⟩, ⟨HB.out⟩⟩
   ·
    rw [if_neg c9] at H
    have c9b0 : decide (20 < (l1_1.length : Int)) = false := decide_eq_false c9
    have c9b1 : decide (20 < l1_1.length) = false := decide_eq_false (by omega)
    clear c9
    obtain ⟨y367, hy367⟩ : ∃ y_ : List (S63), y_ = (([(⟨a0_0, l0_1, l0_2⟩ : S63)] : List (S63))) := ⟨_, rfl⟩
    replace H : ((peristyleref25_May.f k y367).bind fun t370 => (peristylelaw32_CoverMay.j0 k l2 (!t370) a0_0 l0_1 l0_2 l1_0 l1_1)) = some r := by (rw [hy367]; with_reducible exact H)
    have Ny367 := Aside0.mk hy367
    clear hy367
    replace H := Option.bind_eq_some_iff.mp H
    obtain ⟨t370, A150, H⟩ := H
    replace H : (peristylelaw32_CoverMay.j0 k l2 (!t370) a0_0 l0_1 l0_2 l1_0 l1_1) = some r := H
    have A15 := Aside0.mk A150
    clear A150
    have H' := Aside0.mk H
    clear H
    have hnb16 := NB364_365.out
    have hnc16 := NB365_364.out
    have hcz17_0 : w6.cell? ⟨gb364, 0, none⟩ = some (.string a0_0) := (blk_cell BK364.out 0).trans rfl
    have hcz17_1 : w6.cell? ⟨gb364, 1, none⟩ = some (.slice A0_1 l0_1.length c0_1) := (blk_cell BK364.out 1).trans rfl
    have hcz17_2 : w6.cell? ⟨gb364, 2, none⟩ = some (.slice A0_2 l0_2.length c0_2) := (blk_cell BK364.out 2).trans rfl
    have hfz17_0 := blk_frozen BK364.out 0
    have hfz17_1 := blk_frozen BK364.out 1
    have hfz17_2 := blk_frozen BK364.out 2
    have hcz18_0 : w6.cell? ⟨gb365, 0, none⟩ = some (.slice A1_0 l1_0.length c1_0) := (blk_cell BK365.out 0).trans rfl
    have hcz18_1 : w6.cell? ⟨gb365, 1, none⟩ = some (.slice A1_1 l1_1.length c1_1) := (blk_cell BK365.out 1).trans rfl
    have hfz18_0 := blk_frozen BK365.out 0
    have hfz18_1 := blk_frozen BK365.out 1
    go_wp2_with (first | ((with_reducible refine gate_callee (f := 30) rfl ?_); refine goesL_ (some 21) rfl rfl Try.func30 (by kernel_rfl) rfl #[.agg #[.string a0_0, .slice A0_1 l0_1.length c0_1, .slice A0_2 l0_2.length c0_2], .slice A1_0 l1_0.length c1_0, .slice A2 l2.length c2] rfl (by (try simp only [List.map_toArray, List.map_cons, List.map_nil]); rfl) ?_; (with_reducible refine (peristylelaw32_light.calls k a0_0 (fun k_ => ((((P0_1_ k_ ∨ P0_2_ k_) ∨ w.heap.size ≤ k_) ∧ k_ ≠ gb364) ∧ k_ ≠ gb365)) _ _ l0_1 (fun k_ => ((((P0_1_ k_ ∨ P0_2_ k_) ∨ w.heap.size ≤ k_) ∧ k_ ≠ gb364) ∧ k_ ≠ gb365)) _ _ l0_2 _ _ l1_0 _ _ l2 true _ ?side1 ?side2 ?side3 ?side4 ?side5 ?side6 A7.out).mono ?_); (case side1 => exact HO0_1.out); (case side2 => exact HO0_2.out); (case side3 => repeat (exact (Kd.C_below HR1_0.out HB.out))); (case side4 => exact HC1_0.out); (case side5 => repeat (exact (Kd.C_below HR2.out HB.out))); (case side6 => exact HC2.out); rintro e w19 ⟨rfl, hb⟩; refine ⟨_, rfl, ?_⟩; have n0_ := Aside0.mk (Kd.V_below HO0_1.out hb); have n1_ := Aside0.mk (Kd.V_below HO0_2.out hb); have n2_ := Aside0.mk (blk_below (g := gb364) (o := .cells #[.string a0_0, .slice A0_1 l0_1.length c0_1, .slice A0_2 l0_2.length c0_2] 63 (0, 0)) BK364.out hb); have n3_ := Aside0.mk (blk_below (g := gb365) (o := .cells #[.slice A1_0 l1_0.length c1_0, .slice A1_1 l1_1.length c1_1] 65 (0, 0)) BK365.out hb); have n4_ := Aside0.mk (below_step HB.out hb); clear HO0_1 HO0_2 BK364 BK365 HB; have HO0_1 := n0_; have HO0_2 := n1_; have BK364 := n2_; have BK365 := n3_; have HB := n4_; clear n0_ n1_ n2_ n3_ n4_; (try clear hb); have hcz20_0 : w19.cell? ⟨gb365, 0, none⟩ = some (.slice A1_0 l1_0.length c1_0) := (blk_cell BK365.out 0).trans rfl; have hcz20_1 : w19.cell? ⟨gb365, 1, none⟩ = some (.slice A1_1 l1_1.length c1_1) := (blk_cell BK365.out 1).trans rfl; have hfz20_0 := blk_frozen BK365.out 0; have hfz20_1 := blk_frozen BK365.out 1; have hcz21_0 : w19.cell? ⟨gb364, 0, none⟩ = some (.string a0_0) := (blk_cell BK364.out 0).trans rfl; have hcz21_1 : w19.cell? ⟨gb364, 1, none⟩ = some (.slice A0_1 l0_1.length c0_1) := (blk_cell BK364.out 1).trans rfl; have hcz21_2 : w19.cell? ⟨gb364, 2, none⟩ = some (.slice A0_2 l0_2.length c0_2) := (blk_cell BK364.out 2).trans rfl; have hfz21_0 := blk_frozen BK364.out 0; have hfz21_1 := blk_frozen BK364.out 1; have hfz21_2 := blk_frozen BK364.out 2) | ((with_reducible refine gate_dst (N := 31) rfl ?_); (try (refine gate_guard (by rfl) ?_; dsimp only)); refine Kd.N_lit k63 _ 63 ?hg (N' := 31) ?hd (xs := ([(⟨a0_0, l0_1, l0_2⟩ : S63)] : List (S63))) (inner := [.string a0_0, .slice A0_1 l0_1.length c0_1, .slice A0_2 l0_2.length c0_2]) (ok := (fun k_ => ((P0_1_ k_ ∨ P0_2_ k_) ∨ w.heap.size ≤ k_) ∧ k_ ≠ gb364 ∧ k_ ≠ gb365)) (okp := (fun k_ => ((P0_1_ k_ ∨ P0_2_ k_) ∨ w.heap.size ≤ k_) ∧ k_ ≠ gb364 ∧ k_ ≠ gb365)) ?hr ?hp (fun _ hk => hk) ((show ∀ k_, w19.heap.size ≤ k_ → (fun k_ => ((P0_1_ k_ ∨ P0_2_ k_) ∨ w.heap.size ≤ k_) ∧ k_ ≠ gb364 ∧ k_ ≠ gb365) k_ from fun k_ hk => ⟨(.inr (Nat.le_trans (below_size HB.out) hk)), Kd.freshB (g := gb364) (o := .cells #[.string a0_0, .slice A0_1 l0_1.length c0_1, .slice A0_2 l0_2.length c0_2] 63 (0, 0)) BK364.out k_ hk, Kd.freshB (g := gb365) (o := .cells #[.slice A1_0 l1_0.length c1_0, .slice A1_1 l1_1.length c1_1] 65 (0, 0)) BK365.out k_ hk⟩) _ (Nat.le_refl _)) (Below.refl _ _) (Nat.le_refl _) (by simp) ?_; (case hd => rfl); (case hg => rfl); (case hr => (go_simp; done)); (case hp => exact (Reps.c3 (show Kd.FK k63 _ _ (⟨a0_0, l0_1, l0_2⟩ : S63) [.string a0_0, .slice A0_1 l0_1.length c0_1, .slice A0_2 l0_2.length c0_2] from (k63_mkF _ _ (⟨a0_0, l0_1, l0_2⟩ : S63) (Kd.V_reads' (Kd.V_mono (ok' := (fun k_ => ((P0_1_ k_ ∨ P0_2_ k_) ∨ w.heap.size ≤ k_) ∧ k_ ≠ gb364 ∧ k_ ≠ gb365)) (HO0_1.out) (fun k_ hk => ⟨hk.1.1, ⟨hk.1.2, hk.2⟩⟩))).2.1 (Kd.V_F (e := 0) (base := 0) (Kd.V_mono (e := 0) (base := 0) (ok' := (fun k_ => ((P0_1_ k_ ∨ P0_2_ k_) ∨ w.heap.size ≤ k_) ∧ k_ ≠ gb364 ∧ k_ ≠ gb365)) (HO0_1.out) (fun k_ hk => ⟨hk.1.1, ⟨hk.1.2, hk.2⟩⟩))) (Kd.V_reads' (Kd.V_mono (ok' := (fun k_ => ((P0_1_ k_ ∨ P0_2_ k_) ∨ w.heap.size ≤ k_) ∧ k_ ≠ gb364 ∧ k_ ≠ gb365)) (HO0_2.out) (fun k_ hk => ⟨hk.1.1, ⟨hk.1.2, hk.2⟩⟩))).2.1 (Kd.V_F (e := 0) (base := 0) (Kd.V_mono (e := 0) (base := 0) (ok' := (fun k_ => ((P0_1_ k_ ∨ P0_2_ k_) ∨ w.heap.size ≤ k_) ∧ k_ ≠ gb364 ∧ k_ ≠ gb365)) (HO0_2.out) (fun k_ hk => ⟨hk.1.1, ⟨hk.1.2, hk.2⟩⟩))))) (Reps.none _ _))); intro v368 w22 ho23 hb hg_ hnew_; clear hg_ hnew_; (rw [← Ny367.out] at ho23); have n0_ := Aside0.mk (Kd.V_elder' HO0_1.out (Kd.N_base ho23) hb); have n1_ := Aside0.mk (Kd.V_elder' HO0_2.out (Kd.N_base ho23) hb); have n2_ := Aside0.mk (Kd.N_lower ho23 (below_size HB.out)); have n3_ := Aside0.mk (blk_below (g := gb364) (o := .cells #[.string a0_0, .slice A0_1 l0_1.length c0_1, .slice A0_2 l0_2.length c0_2] 63 (0, 0)) BK364.out hb); have n4_ := Aside0.mk (blk_below (g := gb365) (o := .cells #[.slice A1_0 l1_0.length c1_0, .slice A1_1 l1_1.length c1_1] 65 (0, 0)) BK365.out hb); have n5_ := Aside0.mk (below_step HB.out hb); clear HO0_1 HO0_2 BK364 BK365 HB; have HO0_1 := n0_; have HO0_2 := n1_; have HO369 := n2_; have BK364 := n3_; have BK365 := n4_; have HB := n5_; clear n0_ n1_ n2_ n3_ n4_ n5_ hb ho23; obtain ⟨Ao24, co24, eo24⟩ := Kd.N_slice HO369.out; subst eo24) | (go_at_call 35; (with_reducible refine (peristyleref25_May.calls k _ _ y367 t370 _ ?side1 ?side2 A15.out).mono ?_); (case side1 => repeat (exact (Kd.N_reads' HO369.out).2.2)); (case side2 => exact (Kd.N_reads' HO369.out).2.1); rintro e w25 ⟨rfl, hb⟩; have n0_ := Aside0.mk (Kd.V_below HO0_1.out hb); have n1_ := Aside0.mk (Kd.V_below HO0_2.out hb); have n2_ := Aside0.mk (Kd.N_below HO369.out hb); have n3_ := Aside0.mk (blk_below (g := gb364) (o := .cells #[.string a0_0, .slice A0_1 l0_1.length c0_1, .slice A0_2 l0_2.length c0_2] 63 (0, 0)) BK364.out hb); have n4_ := Aside0.mk (blk_below (g := gb365) (o := .cells #[.slice A1_0 l1_0.length c1_0, .slice A1_1 l1_1.length c1_1] 65 (0, 0)) BK365.out hb); have n5_ := Aside0.mk (below_step HB.out hb); clear HO0_1 HO0_2 HO369 BK364 BK365 HB; have HO0_1 := n0_; have HO0_2 := n1_; have HO369 := n2_; have BK364 := n3_; have BK365 := n4_; have HB := n5_; clear n0_ n1_ n2_ n3_ n4_ n5_; (try clear hb)))
    go_meet
    case rel => exact ⟨_, (!t370), (by rfl), H', ⟨by omega⟩, ⟨by exact Kd.V_mono HO0_1.out (fun _ hk => ⟨hk.1.1.1, ⟨hk.1.1.2, hk.1.2⟩⟩)⟩, ⟨by exact Kd.V_mono HO0_2.out (fun _ hk => ⟨hk.1.1.1, ⟨hk.1.1.2, hk.1.2⟩⟩)⟩, ⟨BK364.out⟩, ⟨BK365.out⟩, ⟨HB.out⟩⟩
  ·
   replace c8 := Bool.eq_false_iff.mpr c8
   subst c8
   have H1 : (peristylelaw32_CoverMay.j0 k l2 true a0_0 l0_1 l0_2 l1_0 l1_1) = some r := by rw [if_neg (show ¬ (false = true) by decide)] at H; exact H
   clear H
   have H := H1
   clear H1
   have H' := Aside0.mk H
   clear H
   have hnb26 := NB364_365.out
   have hnc26 := NB365_364.out
   have hcz27_0 : w6.cell? ⟨gb364, 0, none⟩ = some (.string a0_0) := (blk_cell BK364.out 0).trans rfl
   have hcz27_1 : w6.cell? ⟨gb364, 1, none⟩ = some (.slice A0_1 l0_1.length c0_1) := (blk_cell BK364.out 1).trans rfl
   have hcz27_2 : w6.cell? ⟨gb364, 2, none⟩ = some (.slice A0_2 l0_2.length c0_2) := (blk_cell BK364.out 2).trans rfl
   have hfz27_0 := blk_frozen BK364.out 0
   have hfz27_1 := blk_frozen BK364.out 1
   have hfz27_2 := blk_frozen BK364.out 2
   have hcz28_0 : w6.cell? ⟨gb365, 0, none⟩ = some (.slice A1_0 l1_0.length c1_0) := (blk_cell BK365.out 0).trans rfl
   have hcz28_1 : w6.cell? ⟨gb365, 1, none⟩ = some (.slice A1_1 l1_1.length c1_1) := (blk_cell BK365.out 1).trans rfl
   have hfz28_0 := blk_frozen BK365.out 0
   have hfz28_1 := blk_frozen BK365.out 1
   go_wp2_with (((with_reducible refine gate_callee (f := 30) rfl ?_); refine goesL_ (some 21) rfl rfl Try.func30 (by kernel_rfl) rfl #[.agg #[.string a0_0, .slice A0_1 l0_1.length c0_1, .slice A0_2 l0_2.length c0_2], .slice A1_0 l1_0.length c1_0, .slice A2 l2.length c2] rfl (by (try simp only [List.map_toArray, List.map_cons, List.map_nil]); rfl) ?_; (with_reducible refine (peristylelaw32_light.calls k a0_0 (fun k_ => ((((P0_1_ k_ ∨ P0_2_ k_) ∨ w.heap.size ≤ k_) ∧ k_ ≠ gb364) ∧ k_ ≠ gb365)) _ _ l0_1 (fun k_ => ((((P0_1_ k_ ∨ P0_2_ k_) ∨ w.heap.size ≤ k_) ∧ k_ ≠ gb364) ∧ k_ ≠ gb365)) _ _ l0_2 _ _ l1_0 _ _ l2 false _ ?side1 ?side2 ?side3 ?side4 ?side5 ?side6 A7.out).mono ?_); (case side1 => exact HO0_1.out); (case side2 => exact HO0_2.out); (case side3 => repeat (exact (Kd.C_below HR1_0.out HB.out))); (case side4 => exact HC1_0.out); (case side5 => repeat (exact (Kd.C_below HR2.out HB.out))); (case side6 => exact HC2.out); rintro e w29 ⟨rfl, hb⟩; refine ⟨_, rfl, ?_⟩; have n0_ := Aside0.mk (Kd.V_below HO0_1.out hb); have n1_ := Aside0.mk (Kd.V_below HO0_2.out hb); have n2_ := Aside0.mk (blk_below (g := gb364) (o := .cells #[.string a0_0, .slice A0_1 l0_1.length c0_1, .slice A0_2 l0_2.length c0_2] 63 (0, 0)) BK364.out hb); have n3_ := Aside0.mk (blk_below (g := gb365) (o := .cells #[.slice A1_0 l1_0.length c1_0, .slice A1_1 l1_1.length c1_1] 65 (0, 0)) BK365.out hb); have n4_ := Aside0.mk (below_step HB.out hb); clear HO0_1 HO0_2 BK364 BK365 HB; have HO0_1 := n0_; have HO0_2 := n1_; have BK364 := n2_; have BK365 := n3_; have HB := n4_; clear n0_ n1_ n2_ n3_ n4_; (try clear hb)))
   go_meet
   case rel => exact ⟨_, (true), (by rfl), H', ⟨by omega⟩, ⟨by exact Kd.V_mono HO0_1.out (fun _ hk => ⟨hk.1.1, ⟨hk.1.2, hk.2⟩⟩)⟩, ⟨by exact Kd.V_mono HO0_2.out (fun _ hk => ⟨hk.1.1, ⟨hk.1.2, hk.2⟩⟩)⟩, ⟨BK364.out⟩, ⟨BK365.out⟩, ⟨HB.out⟩⟩
 case rest =>
  clear HC4
  obtain ⟨kq, x34_3, rfl, HA, HJ3, HO_365001, HO_365002, BK364, BK365, HB⟩ := hcut
  cases kq with
  | zero => exact absurd HA.out (by simp [peristylelaw32_CoverMay.j0])
  | succ kj3 =>
   have H := HA.out
   clear HA
   simp only [peristylelaw32_CoverMay.j0] at H
   by_cases c30 : x34_3 = true
   ·
    subst c30
    have H1 : ((peristylelaw32_awake.f kj3).bind fun t371 => (some t371)) = some r := by rw [if_pos rfl] at H; exact H
    clear H
    have H := H1
    clear H1
    replace H := Option.bind_eq_some_iff.mp H
    obtain ⟨t371, A310, H⟩ := H
    replace H : (some t371) = some r := H
    have A31 := Aside0.mk A310
    clear A310
    obtain rfl := Option.some.inj H
    go_wp2_with (((with_reducible refine gate_callee (f := 31) rfl ?_); refine goesL_ (some 35) rfl rfl Try.func31 (by kernel_rfl) rfl #[] rfl (by (try simp only [List.map_toArray, List.map_cons, List.map_nil]); done) ?_; (with_reducible refine (peristylelaw32_awake.calls kj3  t371 _ A31.out).mono ?_); rintro e w32 ⟨rfl, hb⟩; refine ⟨_, rfl, ?_⟩; have n0_ := Aside0.mk (Kd.V_below HO_365001.out hb); have n1_ := Aside0.mk (Kd.V_below HO_365002.out hb); have n2_ := Aside0.mk (blk_below (g := gb364) (o := .cells #[.string a0_0, .slice A0_1 l0_1.length c0_1, .slice A0_2 l0_2.length c0_2] 63 (0, 0)) BK364.out hb); have n3_ := Aside0.mk (blk_below (g := gb365) (o := .cells #[.slice A1_0 l1_0.length c1_0, .slice A1_1 l1_1.length c1_1] 65 (0, 0)) BK365.out hb); have n4_ := Aside0.mk (below_step HB.out hb); clear HO_365001 HO_365002 BK364 BK365 HB; have HO_365001 := n0_; have HO_365002 := n1_; have BK364 := n2_; have BK365 := n3_; have HB := n4_; clear n0_ n1_ n2_ n3_ n4_; (try clear hb)))
    go_ret
    exact ⟨by rfl, by repeat exact HB.out⟩
   ·
    replace c30 := Bool.eq_false_iff.mpr c30
    subst c30
    have H1 : (peristylelaw32_CoverMay.l0 kj3 l2 (l0_1.length : Int) ([] : List Int) 0 a0_0 l0_1 l0_2 l1_0 l1_1) = some r := by rw [if_neg (show ¬ (false = true) by decide)] at H; exact H
    clear H
    have H := H1
    clear H1
    have H' := Aside0.mk H
    clear H
    have hnb33 := NB364_365.out
    have hnc33 := NB365_364.out
    have hcz34_0 : wc.cell? ⟨gb364, 0, none⟩ = some (.string a0_0) := (blk_cell BK364.out 0).trans rfl
    have hcz34_1 : wc.cell? ⟨gb364, 1, none⟩ = some (.slice A0_1 l0_1.length c0_1) := (blk_cell BK364.out 1).trans rfl
    have hcz34_2 : wc.cell? ⟨gb364, 2, none⟩ = some (.slice A0_2 l0_2.length c0_2) := (blk_cell BK364.out 2).trans rfl
    have hfz34_0 := blk_frozen BK364.out 0
    have hfz34_1 := blk_frozen BK364.out 1
    have hfz34_2 := blk_frozen BK364.out 2
    go_wp2
    go_loopg [8, 10] kj3 (fun kq v8 v10 w' => ∃ (x8_2 : List Int) (x10_2 : Int), v10 = .int .i64 x10_2 ∧ Aside0 (peristylelaw32_CoverMay.l0 kq l2 (l0_1.length : Int) x8_2 x10_2 a0_0 l0_1 l0_2 l1_0 l1_1 = some r) ∧ Aside0 (kq ≤ kj3) ∧ Aside0 (Kd.R (Kd.int .i64) 3 w' w.heap.size (fun k_ => (w.heap.size ≤ k_)) v8 x8_2) ∧ Aside0 (Kd.V k177 177 w' w.heap.size (fun k_ => ((P0_1_ k_ ∨ P0_2_ k_) ∨ w.heap.size ≤ k_) ∧ some k_ ≠ (v8 : Value).ownBlock ∧ k_ ≠ gb364 ∧ k_ ≠ gb365) (.slice A0_1 l0_1.length c0_1) l0_1) ∧ Aside0 (Kd.V k138 138 w' w.heap.size (fun k_ => ((P0_1_ k_ ∨ P0_2_ k_) ∨ w.heap.size ≤ k_) ∧ some k_ ≠ (v8 : Value).ownBlock ∧ k_ ≠ gb364 ∧ k_ ≠ gb365) (.slice A0_2 l0_2.length c0_2) l0_2) ∧ Aside0 (w'.heap[gb364]? = some (.cells #[.string a0_0, (.slice A0_1 l0_1.length c0_1), (.slice A0_2 l0_2.length c0_2)] 63 (0, 0))) ∧ Aside0 (w'.heap[gb365]? = some (.cells #[(.slice A1_0 l1_0.length c1_0), (.slice A1_1 l1_1.length c1_1)] 65 (0, 0))) ∧ Aside0 (Below w.heap.size w w'))
    case atStart => exact ⟨(([] : List Int)), (0), (by rfl), H', ⟨Nat.le_refl _⟩, ⟨by exact Kd.R_nil _ _ _ _ _⟩, ⟨by exact Kd.V_mono HO_365001.out (fun _ hk => ⟨hk.1, ⟨(by simp [Value.ownBlock]), ⟨hk.2.1, hk.2.2⟩⟩⟩)⟩, ⟨by exact Kd.V_mono HO_365002.out (fun _ hk => ⟨hk.1, ⟨(by simp [Value.ownBlock]), ⟨hk.2.1, hk.2.2⟩⟩⟩)⟩, ⟨BK364.out⟩, ⟨BK365.out⟩, ⟨HB.out⟩⟩
    case round =>
     clear H'
     try clear hcz34_0
     try clear hcz34_1
     try clear hcz34_2
     try clear hfz34_0
     try clear hfz34_1
     try clear hfz34_2
     obtain ⟨x8_2, x10_2, rfl, HA, HK2, HO_8, HO_365001, HO_365002, BK364, BK365, HB⟩ := hrel
     cases gk with
     | zero => exact absurd HA.out (by simp [peristylelaw32_CoverMay.l0])
     | succ k2 =>
      have H := HA.out
      clear HA
      simp only [peristylelaw32_CoverMay.l0] at H
      by_cases c35 : x10_2 < (l1_0.length : Int)
      ·
       rw [if_pos c35] at H
       have c35b0 : decide (x10_2 < (l1_0.length : Int)) = true := decide_eq_true c35
       clear c35
       by_cases c36 : 0 ≤ x10_2
       ·
        rw [if_pos c36] at H
        have c36b0 : decide (0 ≤ x10_2) = true := decide_eq_true c36
        clear c36
        by_cases c37 : (l0_1.length : Int) = 0
        ·
         rw [if_pos c37] at H
         exact absurd H (by simp)
        ·
         rw [if_neg c37] at H
         have c37b0 : ((l0_1.length : Int) == 0) = false := beq_eq_false_iff_ne.mpr c37
         have c37b1 : ((l0_1.length : Int) != 0) = true := bne_iff_ne.mpr c37
         have c37b2 : ¬ (l0_1 = []) := fun h_ => c37 (by rw [h_]; rfl)
         by_cases c38 : x8_2.length < 17592186044416
         ·
          rw [if_pos c38] at H
          have LMc38 := Aside0.mk c38
          clear c38
          obtain ⟨y373, hy373⟩ : ∃ y_ : List Int, y_ = (x8_2 ++ [Int.tmod (Go.bits .and .i64 (rd l1_0 x10_2) 255) (l0_1.length : Int)]) := ⟨_, rfl⟩
          replace H : (peristylelaw32_CoverMay.l0 k2 l2 (l0_1.length : Int) y373 (wrap64 (x10_2 + 1)) a0_0 l0_1 l0_2 l1_0 l1_1) = some r := by (rw [hy373]; with_reducible exact H)
          have Ny373 := Aside0.mk hy373
          clear hy373
          have H' := Aside0.mk H
          clear H
          have hnb39 := NB365_364.out
          have hnc39 := NB364_365.out
          have hcz40_0 : wr.cell? ⟨gb365, 0, none⟩ = some (.slice A1_0 l1_0.length c1_0) := (blk_cell BK365.out 0).trans rfl
          have hcz40_1 : wr.cell? ⟨gb365, 1, none⟩ = some (.slice A1_1 l1_1.length c1_1) := (blk_cell BK365.out 1).trans rfl
          have hfz40_0 := blk_frozen BK365.out 0
          have hfz40_1 := blk_frozen BK365.out 1
          have p372 : 0 ≤ (x10_2 : Int) := of_decide_eq_true (by (with_reducible assumption))
          have q372 : x10_2 < (l1_0.length : Int) := of_decide_eq_true (by (with_reducible assumption))
          obtain ⟨ad372, e372, hx372_0⟩ := Kd.at_int HR1_0.out x10_2 p372 q372
          cases e372
          replace hx372_0 := (HB.out.cell (World.block_lt_of_cell? w _ hx372_0)).trans hx372_0
          replace p372 := eq_true p372
          replace q372 := eq_true q372
          go_wp2_with (((with_reducible refine gate_builtin (b := .append) (xs := #[.tmp 46, .tmp 55]) rfl ?_); (try (refine gate_guard (by rfl) ?_; dsimp only)); at_builtin; refine Kd.R_append (Kd.int .i64) (w0 := w) w.heap.size rfl (.tmp 46) (.tmp 55) 33 3 (.int .i64 0) 8 rfl Try.underlying33 info3 rfl (by decide) (by omega) u8 x8_2 (Int.tmod (Go.bits .and .i64 (rd l1_0 x10_2) 255) (l0_1.length : Int)) [.int .i64 (Int.tmod (Go.bits .and .i64 (rd l1_0 x10_2) 255) (l0_1.length : Int))] (fun k_ => (w.heap.size ≤ k_)) (fun _ => False) rfl rfl ?aP (fun _ hk => hk.elim) ?aF ?aO ?aB ?aS ?aL ?_; (case aP => exact rfl); (case aB => exact HB.out); (case aF => exact (fun k_ hk => (Nat.le_trans (below_size HB.out) hk))); (case aO => exact HO_8.out); (case aS => exact (below_size HB.out)); (case aL => have := LMc38.out; omega); intro v374 w41 ho hb hg hat; rw [← Ny373.out] at ho; have n0_ := Aside0.mk (Kd.V_afterv (ok := (fun k_ => ((P0_1_ k_ ∨ P0_2_ k_) ∨ w.heap.size ≤ k_) ∧ k_ ≠ gb364 ∧ k_ ≠ gb365)) (by exact Kd.V_mono HO_365001.out (fun _ hk => ⟨⟨hk.1, ⟨hk.2.2.1, hk.2.2.2⟩⟩, hk.2.1⟩)) hg hat); have n1_ := Aside0.mk (Kd.V_afterv (ok := (fun k_ => ((P0_1_ k_ ∨ P0_2_ k_) ∨ w.heap.size ≤ k_) ∧ k_ ≠ gb364 ∧ k_ ≠ gb365)) (by exact Kd.V_mono HO_365002.out (fun _ hk => ⟨⟨hk.1, ⟨hk.2.2.1, hk.2.2.2⟩⟩, hk.2.1⟩)) hg hat); have n2_ := Aside0.mk (blk_grown (g := gb364) (o := .cells #[.string a0_0, .slice A0_1 l0_1.length c0_1, .slice A0_2 l0_2.length c0_2] 63 (0, 0)) BK364.out hg (Kd.R_ne HO_8.out BK364.out (by decide))); have n3_ := Aside0.mk (blk_grown (g := gb365) (o := .cells #[.slice (some ad372) l1_0.length c1_0, .slice A1_1 l1_1.length c1_1] 65 (0, 0)) BK365.out hg (Kd.R_ne HO_8.out BK365.out (by decide))); have n4_ := Aside0.mk (hb); have n5_ := Aside0.mk (ho); clear HO_365001 HO_365002 BK364 BK365 HB HO_8; have HO_365001 := n0_; have HO_365002 := n1_; have BK364 := n2_; have BK365 := n3_; have HB := n4_; have HO375 := n5_; clear n0_ n1_ n2_ n3_ n4_ n5_ ho hb hg hat))
          go_roundg k2
          case measure => have := HJ3.out; have := HK2.out; omega
          case rel => exact ⟨(y373), (wrap64 (x10_2 + 1)), (by rfl), H', ⟨by have := HJ3.out; have := HK2.out; omega⟩, ⟨HO375.out⟩, ⟨by exact Kd.V_mono HO_365001.out (fun _ hk => ⟨hk.1.1, ⟨hk.2, ⟨hk.1.2.1, hk.1.2.2⟩⟩⟩)⟩, ⟨by exact Kd.V_mono HO_365002.out (fun _ hk => ⟨hk.1.1, ⟨hk.2, ⟨hk.1.2.1, hk.1.2.2⟩⟩⟩)⟩, ⟨BK364.out⟩, ⟨BK365.out⟩, ⟨HB.out⟩⟩
         ·
          rw [if_neg c38] at H
          exact absurd H (by simp)
       ·
        rw [if_neg c36] at H
        exact absurd H (by simp)
      ·
       rw [if_neg c35] at H
       have c35b0 : decide (x10_2 < (l1_0.length : Int)) = false := decide_eq_false c35
       clear c35
       have H' := Aside0.mk H
       clear H
       have hnb42 := NB365_364.out
       have hnc42 := NB364_365.out
       have hcz43_0 : wr.cell? ⟨gb365, 0, none⟩ = some (.slice A1_0 l1_0.length c1_0) := (blk_cell BK365.out 0).trans rfl
       have hcz43_1 : wr.cell? ⟨gb365, 1, none⟩ = some (.slice A1_1 l1_1.length c1_1) := (blk_cell BK365.out 1).trans rfl
       have hfz43_0 := blk_frozen BK365.out 0
       have hfz43_1 := blk_frozen BK365.out 1
       go_wp2
       go_loopg [9, 11] k2 (fun kq v9 v11 w' => ∃ (x9_3 : List Int) (x11_3 : Int), v11 = .int .i64 x11_3 ∧ Aside0 (peristylelaw32_CoverMay.l1 kq l2 (l0_1.length : Int) x8_2 x9_3 x11_3 a0_0 l0_1 l0_2 l1_0 l1_1 = some r) ∧ Aside0 (kq ≤ k2) ∧ Aside0 (Kd.R (Kd.int .i64) 3 w' w.heap.size (fun k_ => (w.heap.size ≤ k_) ∧ some k_ ≠ (v9 : Value).ownBlock) u8 x8_2) ∧ Aside0 (Kd.R (Kd.int .i64) 3 w' w.heap.size (fun k_ => (w.heap.size ≤ k_) ∧ some k_ ≠ (u8 : Value).ownBlock) v9 x9_3) ∧ Aside0 (Kd.V k177 177 w' w.heap.size (fun k_ => ((P0_1_ k_ ∨ P0_2_ k_) ∨ w.heap.size ≤ k_) ∧ some k_ ≠ (u8 : Value).ownBlock ∧ some k_ ≠ (v9 : Value).ownBlock ∧ k_ ≠ gb364 ∧ k_ ≠ gb365) (.slice A0_1 l0_1.length c0_1) l0_1) ∧ Aside0 (Kd.V k138 138 w' w.heap.size (fun k_ => ((P0_1_ k_ ∨ P0_2_ k_) ∨ w.heap.size ≤ k_) ∧ some k_ ≠ (u8 : Value).ownBlock ∧ some k_ ≠ (v9 : Value).ownBlock ∧ k_ ≠ gb364 ∧ k_ ≠ gb365) (.slice A0_2 l0_2.length c0_2) l0_2) ∧ Aside0 (w'.heap[gb364]? = some (.cells #[.string a0_0, (.slice A0_1 l0_1.length c0_1), (.slice A0_2 l0_2.length c0_2)] 63 (0, 0))) ∧ Aside0 (w'.heap[gb365]? = some (.cells #[(.slice A1_0 l1_0.length c1_0), (.slice A1_1 l1_1.length c1_1)] 65 (0, 0))) ∧ Aside0 (Below w.heap.size w w'))
       case atStart => exact ⟨(([] : List Int)), (0), (by rfl), H', ⟨Nat.le_refl _⟩, ⟨by exact Kd.R_mono HO_8.out (fun _ hk => ⟨hk, (by simp [Value.ownBlock])⟩)⟩, ⟨by exact Kd.R_nil _ _ _ _ _⟩, ⟨by exact Kd.V_mono HO_365001.out (fun _ hk => ⟨hk.1, ⟨hk.2.1, ⟨(by simp [Value.ownBlock]), ⟨hk.2.2.1, hk.2.2.2⟩⟩⟩⟩)⟩, ⟨by exact Kd.V_mono HO_365002.out (fun _ hk => ⟨hk.1, ⟨hk.2.1, ⟨(by simp [Value.ownBlock]), ⟨hk.2.2.1, hk.2.2.2⟩⟩⟩⟩)⟩, ⟨BK364.out⟩, ⟨BK365.out⟩, ⟨HB.out⟩⟩
       case round =>
        clear H'
        try clear c35b0
        try clear hcz43_0
        try clear hcz43_1
        try clear hfz43_0
        try clear hfz43_1
        obtain ⟨x9_3, x11_3, rfl, HA, HK3, HO_8, HO_9, HO_365001, HO_365002, BK364, BK365, HB⟩ := hrel
        cases gk with
        | zero => exact absurd HA.out (by simp [peristylelaw32_CoverMay.l1])
        | succ k3 =>
         have H := HA.out
         clear HA
         simp only [peristylelaw32_CoverMay.l1] at H
         by_cases c44 : x11_3 < (l1_1.length : Int)
         ·
          rw [if_pos c44] at H
          have c44b0 : decide (x11_3 < (l1_1.length : Int)) = true := decide_eq_true c44
          clear c44
          by_cases c45 : 0 ≤ x11_3
          ·
           rw [if_pos c45] at H
           have c45b0 : decide (0 ≤ x11_3) = true := decide_eq_true c45
           clear c45
           by_cases c46 : (l0_1.length : Int) = 0
           ·
            rw [if_pos c46] at H
            exact absurd H (by simp)
           ·
            rw [if_neg c46] at H
            have c46b0 : ((l0_1.length : Int) == 0) = false := beq_eq_false_iff_ne.mpr c46
            have c46b1 : ((l0_1.length : Int) != 0) = true := bne_iff_ne.mpr c46
            have c46b2 : ¬ (l0_1 = []) := fun h_ => c46 (by rw [h_]; rfl)
            by_cases c47 : x9_3.length < 17592186044416
            ·
             rw [if_pos c47] at H
             have LMc47 := Aside0.mk c47
             clear c47
             obtain ⟨y377, hy377⟩ : ∃ y_ : List Int, y_ = (x9_3 ++ [Int.tmod (Go.bits .and .i64 (rd l1_1 x11_3) 255) (l0_1.length : Int)]) := ⟨_, rfl⟩
             replace H : (peristylelaw32_CoverMay.l1 k3 l2 (l0_1.length : Int) x8_2 y377 (wrap64 (x11_3 + 1)) a0_0 l0_1 l0_2 l1_0 l1_1) = some r := by (rw [hy377]; with_reducible exact H)
             have Ny377 := Aside0.mk hy377
             clear hy377
             have H' := Aside0.mk H
             clear H
             have hnb48 := NB365_364.out
             have hnc48 := NB364_365.out
             have hcz49_0 : wr.cell? ⟨gb365, 0, none⟩ = some (.slice A1_0 l1_0.length c1_0) := (blk_cell BK365.out 0).trans rfl
             have hcz49_1 : wr.cell? ⟨gb365, 1, none⟩ = some (.slice A1_1 l1_1.length c1_1) := (blk_cell BK365.out 1).trans rfl
             have hfz49_0 := blk_frozen BK365.out 0
             have hfz49_1 := blk_frozen BK365.out 1
             have p376 : 0 ≤ (x11_3 : Int) := of_decide_eq_true (by (with_reducible assumption))
             have q376 : x11_3 < (l1_1.length : Int) := of_decide_eq_true (by (with_reducible assumption))
             obtain ⟨ad376, e376, hx376_0⟩ := Kd.at_int HR1_1.out x11_3 p376 q376
             cases e376
             replace hx376_0 := (HB.out.cell (World.block_lt_of_cell? w _ hx376_0)).trans hx376_0
             replace p376 := eq_true p376
             replace q376 := eq_true q376
             go_wp2_with (((with_reducible refine gate_builtin (b := .append) (xs := #[.tmp 64, .tmp 73]) rfl ?_); (try (refine gate_guard (by rfl) ?_; dsimp only)); at_builtin; refine Kd.R_append (Kd.int .i64) (w0 := w) w.heap.size rfl (.tmp 64) (.tmp 73) 33 3 (.int .i64 0) 8 rfl Try.underlying33 info3 rfl (by decide) (by omega) u9 x9_3 (Int.tmod (Go.bits .and .i64 (rd l1_1 x11_3) 255) (l0_1.length : Int)) [.int .i64 (Int.tmod (Go.bits .and .i64 (rd l1_1 x11_3) 255) (l0_1.length : Int))] (fun k_ => (w.heap.size ≤ k_) ∧ some k_ ≠ (u8 : Value).ownBlock) (fun _ => False) rfl rfl ?aP (fun _ hk => hk.elim) ?aF ?aO ?aB ?aS ?aL ?_; (case aP => exact rfl); (case aB => exact HB.out); (case aF => exact (fun k_ hk => ⟨(Nat.le_trans (below_size HB.out) hk), Kd.fresh' (Kd.R_lt HO_8.out) k_ hk⟩)); (case aO => exact HO_9.out); (case aS => exact (below_size HB.out)); (case aL => have := LMc47.out; omega); intro v378 w50 ho hb hg hat; rw [← Ny377.out] at ho; have n0_ := Aside0.mk (Kd.R_after (ok := (fun k_ => (w.heap.size ≤ k_))) HO_8.out hg hat); have n1_ := Aside0.mk (Kd.V_afterv (ok := (fun k_ => ((P0_1_ k_ ∨ P0_2_ k_) ∨ w.heap.size ≤ k_) ∧ some k_ ≠ (u8 : Value).ownBlock ∧ k_ ≠ gb364 ∧ k_ ≠ gb365)) (by exact Kd.V_mono HO_365001.out (fun _ hk => ⟨⟨hk.1, ⟨hk.2.1, ⟨hk.2.2.2.1, hk.2.2.2.2⟩⟩⟩, hk.2.2.1⟩)) hg hat); have n2_ := Aside0.mk (Kd.V_afterv (ok := (fun k_ => ((P0_1_ k_ ∨ P0_2_ k_) ∨ w.heap.size ≤ k_) ∧ some k_ ≠ (u8 : Value).ownBlock ∧ k_ ≠ gb364 ∧ k_ ≠ gb365)) (by exact Kd.V_mono HO_365002.out (fun _ hk => ⟨⟨hk.1, ⟨hk.2.1, ⟨hk.2.2.2.1, hk.2.2.2.2⟩⟩⟩, hk.2.2.1⟩)) hg hat); have n3_ := Aside0.mk (blk_grown (g := gb364) (o := .cells #[.string a0_0, .slice A0_1 l0_1.length c0_1, .slice A0_2 l0_2.length c0_2] 63 (0, 0)) BK364.out hg (Kd.R_ne HO_9.out BK364.out (by decide))); have n4_ := Aside0.mk (blk_grown (g := gb365) (o := .cells #[.slice A1_0 l1_0.length c1_0, .slice (some ad376) l1_1.length c1_1] 65 (0, 0)) BK365.out hg (Kd.R_ne HO_9.out BK365.out (by decide))); have n5_ := Aside0.mk (hb); have n6_ := Aside0.mk (ho); clear HO_8 HO_365001 HO_365002 BK364 BK365 HB HO_9; have HO_8 := n0_; have HO_365001 := n1_; have HO_365002 := n2_; have BK364 := n3_; have BK365 := n4_; have HB := n5_; have HO379 := n6_; clear n0_ n1_ n2_ n3_ n4_ n5_ n6_ ho hb hg hat))
             go_roundg k3
             case measure => have := HJ3.out; have := HK2.out; have := HK3.out; omega
             case rel => exact ⟨(y377), (wrap64 (x11_3 + 1)), (by rfl), H', ⟨by have := HJ3.out; have := HK2.out; have := HK3.out; omega⟩, ⟨HO_8.out⟩, ⟨HO379.out⟩, ⟨by exact Kd.V_mono HO_365001.out (fun _ hk => ⟨hk.1.1, ⟨hk.1.2.1, ⟨hk.2, ⟨hk.1.2.2.1, hk.1.2.2.2⟩⟩⟩⟩)⟩, ⟨by exact Kd.V_mono HO_365002.out (fun _ hk => ⟨hk.1.1, ⟨hk.1.2.1, ⟨hk.2, ⟨hk.1.2.2.1, hk.1.2.2.2⟩⟩⟩⟩)⟩, ⟨BK364.out⟩, ⟨BK365.out⟩, ⟨HB.out⟩⟩
            ·
             rw [if_neg c47] at H
             exact absurd H (by simp)
          ·
           rw [if_neg c45] at H
           exact absurd H (by simp)
         ·
          rw [if_neg c44] at H
          have c44b0 : decide (x11_3 < (l1_1.length : Int)) = false := decide_eq_false c44
          clear c44
          replace H := Option.bind_eq_some_iff.mp H
          obtain ⟨⟨t380, t381, t384⟩, A510, H⟩ := H
          replace H : ((cover_Choose.f k3 a0_0 l0_1 l0_2 x8_2 x9_3 ([] : List ByteArray)).bind fun bt386 => (if bt386.2.2 = 0 then ((cover_Check.f k3 a0_0 l0_1 l0_2 x8_2 bt386.1 bt386.2.1).bind fun t392 => (if t392 = 0 then (if t384 = 0 then (peristylelaw32_CoverMay.j3 k3 x8_2 t384 false a0_0 l0_1 l0_2 t380 t381 bt386.1 bt386.2.1) else (peristylelaw32_CoverMay.j3 k3 x8_2 t384 (t384 != 320) a0_0 l0_1 l0_2 t380 t381 bt386.1 bt386.2.1)) else (peristylelaw32_CoverMay.j3 k3 x8_2 t384 true a0_0 l0_1 l0_2 t380 t381 bt386.1 bt386.2.1))) else (peristylelaw32_CoverMay.j3 k3 x8_2 t384 true a0_0 l0_1 l0_2 t380 t381 bt386.1 bt386.2.1))) = some r := H
          have A51 := Aside0.mk A510
          clear A510
          replace H := Option.bind_eq_some_iff.mp H
          obtain ⟨⟨t386, t387, t390⟩, A520, H⟩ := H
          replace H : (if t390 = 0 then ((cover_Check.f k3 a0_0 l0_1 l0_2 x8_2 t386 t387).bind fun t392 => (if t392 = 0 then (if t384 = 0 then (peristylelaw32_CoverMay.j3 k3 x8_2 t384 false a0_0 l0_1 l0_2 t380 t381 t386 t387) else (peristylelaw32_CoverMay.j3 k3 x8_2 t384 (t384 != 320) a0_0 l0_1 l0_2 t380 t381 t386 t387)) else (peristylelaw32_CoverMay.j3 k3 x8_2 t384 true a0_0 l0_1 l0_2 t380 t381 t386 t387))) else (peristylelaw32_CoverMay.j3 k3 x8_2 t384 true a0_0 l0_1 l0_2 t380 t381 t386 t387)) = some r := H
          have A52 := Aside0.mk A520
          clear A520
          have HC53 := Aside0.mk H
          clear H
          have hnb54 := NB365_364.out
          have hnc54 := NB364_365.out
          have hcz55_0 : wr.cell? ⟨gb365, 0, none⟩ = some (.slice A1_0 l1_0.length c1_0) := (blk_cell BK365.out 0).trans rfl
          have hcz55_1 : wr.cell? ⟨gb365, 1, none⟩ = some (.slice A1_1 l1_1.length c1_1) := (blk_cell BK365.out 1).trans rfl
          have hfz55_0 := blk_frozen BK365.out 0
          have hfz55_1 := blk_frozen BK365.out 1
          have hcz56_0 : wr.cell? ⟨gb364, 0, none⟩ = some (.string a0_0) := (blk_cell BK364.out 0).trans rfl
          have hcz56_1 : wr.cell? ⟨gb364, 1, none⟩ = some (.slice A0_1 l0_1.length c0_1) := (blk_cell BK364.out 1).trans rfl
          have hcz56_2 : wr.cell? ⟨gb364, 2, none⟩ = some (.slice A0_2 l0_2.length c0_2) := (blk_cell BK364.out 2).trans rfl
          have hfz56_0 := blk_frozen BK364.out 0
          have hfz56_1 := blk_frozen BK364.out 1
          have hfz56_2 := blk_frozen BK364.out 2
          obtain ⟨Ao57, co57, eo57⟩ := Kd.R_slice HO_8.out
          subst eo57
          obtain ⟨Ao58, co58, eo58⟩ := Kd.R_slice HO_9.out
          subst eo58
          go_upto_region 15 with (first | ((with_reducible refine gate_callee (f := 32) rfl ?_); refine goesL_ (some 80) rfl rfl Try.func32 (by kernel_rfl) rfl #[.agg #[.string a0_0, .slice A0_1 l0_1.length c0_1, .slice A0_2 l0_2.length c0_2], .slice Ao57 x8_2.length co57, .slice Ao58 x9_3.length co58, .slice A2 l2.length c2] rfl (by (try simp only [List.map_toArray, List.map_cons, List.map_nil]); rfl) ?_; (with_reducible refine (cover_Choose.calls k3 a0_0 _ _ l0_1 _ _ l0_2 _ _ x8_2 _ _ x9_3 _ _ l2 t380 t381 t384 _ ?side1 ?side2 ?side3 ?side4 ?side5 ?side6 ?side7 ?side8 ?side9 ?side10 A51.out).mono ?_); (case side1 => repeat (exact (Kd.V_reads' HO_365001.out).2.2)); (case side2 => exact (Kd.V_reads' HO_365001.out).2.1); (case side3 => repeat (exact (Kd.V_reads' HO_365002.out).2.2)); (case side4 => exact (Kd.V_reads' HO_365002.out).2.1); (case side5 => repeat (exact (Kd.R_reads' HO_8.out).2.2)); (case side6 => exact (Kd.R_reads' HO_8.out).2.1); (case side7 => repeat (exact (Kd.R_reads' HO_9.out).2.2)); (case side8 => exact (Kd.R_reads' HO_9.out).2.1); (case side9 => repeat (exact (Kd.C_below HR2.out HB.out))); (case side10 => exact HC2.out); rintro e w59 ⟨v382, rfl, ho0, hb⟩; refine ⟨_, rfl, ?_⟩; have n0_ := Aside0.mk (Kd.R_elder' HO_8.out (Kd.R_base ho0) hb); have n1_ := Aside0.mk (Kd.R_elder' HO_9.out (Kd.R_base ho0) hb); have n2_ := Aside0.mk (Kd.V_elder' HO_365001.out (Kd.R_base ho0) hb); have n3_ := Aside0.mk (Kd.V_elder' HO_365002.out (Kd.R_base ho0) hb); have n4_ := Aside0.mk (Kd.R_lower (Kd.R_new' (Kd.R_new' (Kd.R_newM (M := fun k_ => (w.heap.size ≤ k_)) ho0 (below_size HB.out) (fun k_ h_ => h_)) (Kd.R_lt HO_8.out)) (Kd.R_lt HO_9.out)) (below_size HB.out)); have n5_ := Aside0.mk (blk_below (g := gb364) (o := .cells #[.string a0_0, .slice A0_1 l0_1.length c0_1, .slice A0_2 l0_2.length c0_2] 63 (0, 0)) BK364.out hb); have n6_ := Aside0.mk (blk_below (g := gb365) (o := .cells #[.slice A1_0 l1_0.length c1_0, .slice A1_1 l1_1.length c1_1] 65 (0, 0)) BK365.out hb); have n7_ := Aside0.mk (below_step HB.out hb); clear HO_8 HO_9 HO_365001 HO_365002 BK364 BK365 HB; have HO_8 := n0_; have HO_9 := n1_; have HO_365001 := n2_; have HO_365002 := n3_; have HO383 := n4_; have BK364 := n5_; have BK365 := n6_; have HB := n7_; clear n0_ n1_ n2_ n3_ n4_ n5_ n6_ n7_; (try clear hb); (try clear ho0)) | ((with_reducible refine gate_dst (N := 12) rfl ?_); (try (refine gate_guard (by rfl) ?_; dsimp only)); refine box_event ?hg (N := 12) ?hd (cs := #[.int .i64 0, .slice none 0 0]) (t := 68) ?hr ?_; (case hd => rfl); (case hg => rfl); (case hr => (go_simp; done)); intro gb385 hg w60 hbox hb; have n0_ := Aside0.mk (Kd.R_below HO_8.out hb); have n1_ := Aside0.mk (Kd.R_below HO_9.out hb); have n2_ := Aside0.mk (Kd.V_below (Kd.V_elderB HO_365001.out gb385 (Nat.le_of_eq hg.symm)) hb); have n3_ := Aside0.mk (Kd.V_below (Kd.V_elderB HO_365002.out gb385 (Nat.le_of_eq hg.symm)) hb); have n4_ := Aside0.mk (Kd.R_below HO383.out hb); have n5_ := Aside0.mk (blk_below (g := gb364) (o := .cells #[.string a0_0, .slice A0_1 l0_1.length c0_1, .slice A0_2 l0_2.length c0_2] 63 (0, 0)) BK364.out hb); have n6_ := Aside0.mk (blk_below (g := gb365) (o := .cells #[.slice A1_0 l1_0.length c1_0, .slice A1_1 l1_1.length c1_1] 65 (0, 0)) BK365.out hb); have n7_ := Aside0.mk (below_step HB.out hb); have n8_ := Aside0.mk (hbox); have n9_ := Aside0.mk ((by rw [hg]; exact (below_size HB.out) : w.heap.size ≤ gb385)); have n10_ := Aside0.mk ((by rw [hg]; exact (below_size HB.out) : w.heap.size ≤ gb385)); have n11_ := Aside0.mk ((by rw [hg]; exact Nat.ne_of_lt (blk_lt (g := gb364) (o := .cells #[.string a0_0, .slice A0_1 l0_1.length c0_1, .slice A0_2 l0_2.length c0_2] 63 (0, 0)) BK364.out) : gb364 ≠ gb385)); have n12_ := Aside0.mk ((by rw [hg]; exact Nat.ne_of_gt (blk_lt (g := gb364) (o := .cells #[.string a0_0, .slice A0_1 l0_1.length c0_1, .slice A0_2 l0_2.length c0_2] 63 (0, 0)) BK364.out) : gb385 ≠ gb364)); have n13_ := Aside0.mk ((by rw [hg]; exact Nat.ne_of_lt (blk_lt (g := gb365) (o := .cells #[.slice A1_0 l1_0.length c1_0, .slice A1_1 l1_1.length c1_1] 65 (0, 0)) BK365.out) : gb365 ≠ gb385)); have n14_ := Aside0.mk ((by rw [hg]; exact Nat.ne_of_gt (blk_lt (g := gb365) (o := .cells #[.slice A1_0 l1_0.length c1_0, .slice A1_1 l1_1.length c1_1] 65 (0, 0)) BK365.out) : gb385 ≠ gb365)); clear HO_8 HO_9 HO_365001 HO_365002 HO383 BK364 BK365 HB; have HO_8 := n0_; have HO_9 := n1_; have HO_365001 := n2_; have HO_365002 := n3_; have HO383 := n4_; have BK364 := n5_; have BK365 := n6_; have HB := n7_; have BK385 := n8_; have GW385 := n9_; have GE385 := n10_; have NB364_385 := n11_; have NB385_364 := n12_; have NB365_385 := n13_; have NB385_365 := n14_; clear n0_ n1_ n2_ n3_ n4_ n5_ n6_ n7_ n8_ n9_ n10_ n11_ n12_ n13_ n14_ hb hbox hg; have hnb61 := NB385_364.out; have hnc61 := NB364_385.out; have hnb62 := NB385_365.out; have hnc62 := NB365_385.out; have hcz63_0 : w60.cell? ⟨gb385, 0, none⟩ = some (.int .i64 0) := (blk_cell BK385.out 0).trans rfl; have hcz63_1 : w60.cell? ⟨gb385, 1, none⟩ = some (.slice none 0 0) := (blk_cell BK385.out 1).trans rfl; have hfz63_0 := blk_frozen BK385.out 0; have hfz63_1 := blk_frozen BK385.out 1; obtain ⟨Ao64, co64, eo64⟩ := Kd.R_slice HO383.out; subst eo64; have hcz65_0 : w60.cell? ⟨gb364, 0, none⟩ = some (.string a0_0) := (blk_cell BK364.out 0).trans rfl; have hcz65_1 : w60.cell? ⟨gb364, 1, none⟩ = some (.slice A0_1 l0_1.length c0_1) := (blk_cell BK364.out 1).trans rfl; have hcz65_2 : w60.cell? ⟨gb364, 2, none⟩ = some (.slice A0_2 l0_2.length c0_2) := (blk_cell BK364.out 2).trans rfl; have hfz65_0 := blk_frozen BK364.out 0; have hfz65_1 := blk_frozen BK364.out 1; have hfz65_2 := blk_frozen BK364.out 2) | ((with_reducible refine gate_callee (f := 32) rfl ?_); refine goesL_ (some 87) rfl rfl Try.func32 (by kernel_rfl) rfl #[.agg #[.string a0_0, .slice A0_1 l0_1.length c0_1, .slice A0_2 l0_2.length c0_2], .slice Ao57 x8_2.length co57, .slice Ao58 x9_3.length co58, .slice none 0 0] rfl (by (try simp only [List.map_toArray, List.map_cons, List.map_nil]); rfl) ?_; (refine (cover_Choose.calls k3 a0_0 _ _ l0_1 _ _ l0_2 _ _ x8_2 _ _ x9_3 _ _ ([] : List ByteArray) t386 t387 t390 _ ?side1 ?side2 ?side3 ?side4 ?side5 ?side6 ?side7 ?side8 ?side9 ?side10 A52.out).mono ?_); (case side1 => (refine (Kd.V_reads' (e := 177) (base := w.heap.size) (ok := fun k_ => (((((P0_1_ k_ ∨ P0_2_ k_) ∨ w.heap.size ≤ k_) ∧ (some k_ ≠ (.slice Ao57 x8_2.length co57 : Value).ownBlock ∧ (some k_ ≠ (.slice Ao58 x9_3.length co58 : Value).ownBlock ∧ (k_ ≠ gb364 ∧ k_ ≠ gb365)))) ∧ some k_ ≠ (.slice Ao64 t381.length co64 : Value).ownBlock) ∧ k_ ≠ gb385)) (n := l0_1.length) (c := c0_1) ?_).2.2; exact (by exact (Kd.V_mono (Kd.V_far (p := ⟨gb385, 1, none⟩) (Kd.V_far (p := ⟨gb385, 0, none⟩) (Kd.V_mono HO_365001.out (fun k_ hk => (⟨hk, hk.2⟩ : _ ∧ k_ ≠ gb385))) (fun _ hk => hk.2) (.int .i64 t380)) (fun _ hk => hk.2) (.slice Ao64 t381.length co64)) (fun _ h_ => h_.1))))); (case side2 => exact (Kd.V_reads' HO_365001.out).2.1); (case side3 => (refine (Kd.V_reads' (e := 138) (base := w.heap.size) (ok := fun k_ => (((((P0_1_ k_ ∨ P0_2_ k_) ∨ w.heap.size ≤ k_) ∧ (some k_ ≠ (.slice Ao57 x8_2.length co57 : Value).ownBlock ∧ (some k_ ≠ (.slice Ao58 x9_3.length co58 : Value).ownBlock ∧ (k_ ≠ gb364 ∧ k_ ≠ gb365)))) ∧ some k_ ≠ (.slice Ao64 t381.length co64 : Value).ownBlock) ∧ k_ ≠ gb385)) (n := l0_2.length) (c := c0_2) ?_).2.2; exact (by exact (Kd.V_mono (Kd.V_far (p := ⟨gb385, 1, none⟩) (Kd.V_far (p := ⟨gb385, 0, none⟩) (Kd.V_mono HO_365002.out (fun k_ hk => (⟨hk, hk.2⟩ : _ ∧ k_ ≠ gb385))) (fun _ hk => hk.2) (.int .i64 t380)) (fun _ hk => hk.2) (.slice Ao64 t381.length co64)) (fun _ h_ => h_.1))))); (case side4 => exact (Kd.V_reads' HO_365002.out).2.1); (case side5 => refine (Kd.R_reads' (e := 3) (base := w.heap.size) (ok := fun k_ => (((w.heap.size ≤ k_) ∧ some k_ ≠ (.slice Ao58 x9_3.length co58 : Value).ownBlock) ∧ some k_ ≠ (.slice Ao64 t381.length co64 : Value).ownBlock)) (n := x8_2.length) (c := co57) ?_).2.2; exact (by exact (Kd.R_mono (Kd.R_far (p := ⟨gb385, 1, none⟩) (Kd.R_far (p := ⟨gb385, 0, none⟩) (Kd.R_types HO_8.out BK385.out (by decide)) (fun _ hk => hk.2) (.int .i64 t380)) (fun _ hk => hk.2) (.slice Ao64 t381.length co64)) (fun _ h_ => h_.1)))); (case side6 => exact (Kd.R_reads' HO_8.out).2.1); (case side7 => refine (Kd.R_reads' (e := 3) (base := w.heap.size) (ok := fun k_ => (((w.heap.size ≤ k_) ∧ some k_ ≠ (.slice Ao57 x8_2.length co57 : Value).ownBlock) ∧ some k_ ≠ (.slice Ao64 t381.length co64 : Value).ownBlock)) (n := x9_3.length) (c := co58) ?_).2.2; exact (by exact (Kd.R_mono (Kd.R_far (p := ⟨gb385, 1, none⟩) (Kd.R_far (p := ⟨gb385, 0, none⟩) (Kd.R_types HO_9.out BK385.out (by decide)) (fun _ hk => hk.2) (.int .i64 t380)) (fun _ hk => hk.2) (.slice Ao64 t381.length co64)) (fun _ h_ => h_.1)))); (case side8 => exact (Kd.R_reads' HO_9.out).2.1); (case side9 => exact Kd.C_nil _ _); (case side10 => exact Nat.le_refl _); rintro e w66 ⟨v388, rfl, ho0, hb⟩; refine ⟨_, rfl, ?_⟩; have n0_ := Aside0.mk (Kd.R_elder' (by exact (Kd.R_mono (Kd.R_far (p := ⟨gb385, 1, none⟩) (Kd.R_far (p := ⟨gb385, 0, none⟩) (Kd.R_types HO_8.out BK385.out (by decide)) (fun _ hk => hk.2) (.int .i64 t380)) (fun _ hk => hk.2) (.slice Ao64 t381.length co64)) (fun _ h_ => h_.1))) (Kd.R_base ho0) hb); have n1_ := Aside0.mk (Kd.R_elder' (by exact (Kd.R_mono (Kd.R_far (p := ⟨gb385, 1, none⟩) (Kd.R_far (p := ⟨gb385, 0, none⟩) (Kd.R_types HO_9.out BK385.out (by decide)) (fun _ hk => hk.2) (.int .i64 t380)) (fun _ hk => hk.2) (.slice Ao64 t381.length co64)) (fun _ h_ => h_.1))) (Kd.R_base ho0) hb); have n2_ := Aside0.mk (Kd.V_elder' (by exact (Kd.V_mono (Kd.V_far (p := ⟨gb385, 1, none⟩) (Kd.V_far (p := ⟨gb385, 0, none⟩) (Kd.V_mono HO_365001.out (fun k_ hk => (⟨hk, hk.2⟩ : _ ∧ k_ ≠ gb385))) (fun _ hk => hk.2) (.int .i64 t380)) (fun _ hk => hk.2) (.slice Ao64 t381.length co64)) (fun _ h_ => h_.1))) (Kd.R_base ho0) hb); have n3_ := Aside0.mk (Kd.V_elder' (by exact (Kd.V_mono (Kd.V_far (p := ⟨gb385, 1, none⟩) (Kd.V_far (p := ⟨gb385, 0, none⟩) (Kd.V_mono HO_365002.out (fun k_ hk => (⟨hk, hk.2⟩ : _ ∧ k_ ≠ gb385))) (fun _ hk => hk.2) (.int .i64 t380)) (fun _ hk => hk.2) (.slice Ao64 t381.length co64)) (fun _ h_ => h_.1))) (Kd.R_base ho0) hb); have n4_ := Aside0.mk (Kd.R_elder' (by exact (Kd.R_mono (Kd.R_far (p := ⟨gb385, 1, none⟩) (Kd.R_far (p := ⟨gb385, 0, none⟩) (Kd.R_types HO383.out BK385.out (by decide)) (fun _ hk => hk.2) (.int .i64 t380)) (fun _ hk => hk.2) (.slice Ao64 t381.length co64)) (fun _ h_ => h_.1))) (Kd.R_base ho0) hb); have n5_ := Aside0.mk (Kd.R_lower (Kd.R_new' (Kd.R_new' (Kd.R_new' (Kd.R_newM (M := fun k_ => (w.heap.size ≤ k_)) ho0 (below_size (by repeat ((with_reducible first | exact HB.out | refine below_set ?_ GE385.out)))) (fun k_ h_ => h_)) (Kd.R_lt (by exact (Kd.R_mono (Kd.R_far (p := ⟨gb385, 1, none⟩) (Kd.R_far (p := ⟨gb385, 0, none⟩) (Kd.R_types HO_8.out BK385.out (by decide)) (fun _ hk => hk.2) (.int .i64 t380)) (fun _ hk => hk.2) (.slice Ao64 t381.length co64)) (fun _ h_ => h_.1))))) (Kd.R_lt (by exact (Kd.R_mono (Kd.R_far (p := ⟨gb385, 1, none⟩) (Kd.R_far (p := ⟨gb385, 0, none⟩) (Kd.R_types HO_9.out BK385.out (by decide)) (fun _ hk => hk.2) (.int .i64 t380)) (fun _ hk => hk.2) (.slice Ao64 t381.length co64)) (fun _ h_ => h_.1))))) (Kd.R_lt (by exact (Kd.R_mono (Kd.R_far (p := ⟨gb385, 1, none⟩) (Kd.R_far (p := ⟨gb385, 0, none⟩) (Kd.R_types HO383.out BK385.out (by decide)) (fun _ hk => hk.2) (.int .i64 t380)) (fun _ hk => hk.2) (.slice Ao64 t381.length co64)) (fun _ h_ => h_.1))))) (below_size (by repeat ((with_reducible first | exact HB.out | refine below_set ?_ GE385.out))))); have n6_ := Aside0.mk (blk_below (g := gb364) (o := .cells #[.string a0_0, .slice A0_1 l0_1.length c0_1, .slice A0_2 l0_2.length c0_2] 63 (0, 0)) (by refine blk_far ?_ NB364_385.out _; refine blk_far ?_ NB364_385.out _; exact BK364.out) hb); have n7_ := Aside0.mk (blk_below (g := gb365) (o := .cells #[.slice A1_0 l1_0.length c1_0, .slice A1_1 l1_1.length c1_1] 65 (0, 0)) (by refine blk_far ?_ NB365_385.out _; refine blk_far ?_ NB365_385.out _; exact BK365.out) hb); have n8_ := Aside0.mk (blk_below (g := gb385) (o := .cells #[.int .i64 t380, .slice Ao64 t381.length co64] 68 (0, 0)) (by refine blk_put (cs := #[.int .i64 t380, .slice none 0 0]) ?_ 1 _ rfl; refine blk_put (cs := #[.int .i64 0, .slice none 0 0]) ?_ 0 _ rfl; exact BK385.out) hb); have n9_ := Aside0.mk (below_step (by repeat ((with_reducible first | exact HB.out | refine below_set ?_ GE385.out))) hb); clear HO_8 HO_9 HO_365001 HO_365002 HO383 BK364 BK365 BK385 HB; have HO_8 := n0_; have HO_9 := n1_; have HO_365001 := n2_; have HO_365002 := n3_; have HO383 := n4_; have HO389 := n5_; have BK364 := n6_; have BK365 := n7_; have BK385 := n8_; have HB := n9_; clear n0_ n1_ n2_ n3_ n4_ n5_ n6_ n7_ n8_ n9_; (try clear hb); (try clear ho0)) | ((with_reducible refine gate_dst (N := 14) rfl ?_); (try (refine gate_guard (by rfl) ?_; dsimp only)); refine box_event ?hg (N := 14) ?hd (cs := #[.int .i64 0, .slice none 0 0]) (t := 68) ?hr ?_; (case hd => rfl); (case hg => rfl); (case hr => (go_simp; done)); intro gb391 hg w67 hbox hb; have n0_ := Aside0.mk (Kd.R_below HO_8.out hb); have n1_ := Aside0.mk (Kd.R_below HO_9.out hb); have n2_ := Aside0.mk (Kd.V_below (Kd.V_elderB HO_365001.out gb391 (Nat.le_of_eq hg.symm)) hb); have n3_ := Aside0.mk (Kd.V_below (Kd.V_elderB HO_365002.out gb391 (Nat.le_of_eq hg.symm)) hb); have n4_ := Aside0.mk (Kd.R_below HO383.out hb); have n5_ := Aside0.mk (Kd.R_below HO389.out hb); have n6_ := Aside0.mk (blk_below (g := gb364) (o := .cells #[.string a0_0, .slice A0_1 l0_1.length c0_1, .slice A0_2 l0_2.length c0_2] 63 (0, 0)) BK364.out hb); have n7_ := Aside0.mk (blk_below (g := gb365) (o := .cells #[.slice A1_0 l1_0.length c1_0, .slice A1_1 l1_1.length c1_1] 65 (0, 0)) BK365.out hb); have n8_ := Aside0.mk (blk_below (g := gb385) (o := .cells #[.int .i64 t380, .slice Ao64 t381.length co64] 68 (0, 0)) BK385.out hb); have n9_ := Aside0.mk (below_step HB.out hb); have n10_ := Aside0.mk (hbox); have n11_ := Aside0.mk ((by rw [hg]; exact (below_size HB.out) : w.heap.size ≤ gb391)); have n12_ := Aside0.mk ((by rw [hg]; exact (below_size HB.out) : w.heap.size ≤ gb391)); have n13_ := Aside0.mk ((by rw [hg]; exact Nat.ne_of_lt (blk_lt (g := gb364) (o := .cells #[.string a0_0, .slice A0_1 l0_1.length c0_1, .slice A0_2 l0_2.length c0_2] 63 (0, 0)) BK364.out) : gb364 ≠ gb391)); have n14_ := Aside0.mk ((by rw [hg]; exact Nat.ne_of_gt (blk_lt (g := gb364) (o := .cells #[.string a0_0, .slice A0_1 l0_1.length c0_1, .slice A0_2 l0_2.length c0_2] 63 (0, 0)) BK364.out) : gb391 ≠ gb364)); have n15_ := Aside0.mk ((by rw [hg]; exact Nat.ne_of_lt (blk_lt (g := gb365) (o := .cells #[.slice A1_0 l1_0.length c1_0, .slice A1_1 l1_1.length c1_1] 65 (0, 0)) BK365.out) : gb365 ≠ gb391)); have n16_ := Aside0.mk ((by rw [hg]; exact Nat.ne_of_gt (blk_lt (g := gb365) (o := .cells #[.slice A1_0 l1_0.length c1_0, .slice A1_1 l1_1.length c1_1] 65 (0, 0)) BK365.out) : gb391 ≠ gb365)); have n17_ := Aside0.mk ((by rw [hg]; exact Nat.ne_of_lt (blk_lt (g := gb385) (o := .cells #[.int .i64 t380, .slice Ao64 t381.length co64] 68 (0, 0)) BK385.out) : gb385 ≠ gb391)); have n18_ := Aside0.mk ((by rw [hg]; exact Nat.ne_of_gt (blk_lt (g := gb385) (o := .cells #[.int .i64 t380, .slice Ao64 t381.length co64] 68 (0, 0)) BK385.out) : gb391 ≠ gb385)); clear HO_8 HO_9 HO_365001 HO_365002 HO383 HO389 BK364 BK365 BK385 HB; have HO_8 := n0_; have HO_9 := n1_; have HO_365001 := n2_; have HO_365002 := n3_; have HO383 := n4_; have HO389 := n5_; have BK364 := n6_; have BK365 := n7_; have BK385 := n8_; have HB := n9_; have BK391 := n10_; have GW391 := n11_; have GE391 := n12_; have NB364_391 := n13_; have NB391_364 := n14_; have NB365_391 := n15_; have NB391_365 := n16_; have NB385_391 := n17_; have NB391_385 := n18_; clear n0_ n1_ n2_ n3_ n4_ n5_ n6_ n7_ n8_ n9_ n10_ n11_ n12_ n13_ n14_ n15_ n16_ n17_ n18_ hb hbox hg; have hnb68 := NB391_364.out; have hnc68 := NB364_391.out; have hnb69 := NB391_365.out; have hnc69 := NB365_391.out; have hnb70 := NB391_385.out; have hnc70 := NB385_391.out; have hcz71_0 : w67.cell? ⟨gb391, 0, none⟩ = some (.int .i64 0) := (blk_cell BK391.out 0).trans rfl; have hcz71_1 : w67.cell? ⟨gb391, 1, none⟩ = some (.slice none 0 0) := (blk_cell BK391.out 1).trans rfl; have hfz71_0 := blk_frozen BK391.out 0; have hfz71_1 := blk_frozen BK391.out 1; obtain ⟨Ao72, co72, eo72⟩ := Kd.R_slice HO389.out; subst eo72))
          go_cut [106] (fun v106 wc => ∃ (kq : Nat) (x106_52 : Bool), v106 = .bool x106_52 ∧ Aside0 (peristylelaw32_CoverMay.j3 kq x8_2 t384 x106_52 a0_0 l0_1 l0_2 t380 t381 t386 t387 = some r) ∧ Aside0 (kq ≤ k3) ∧ Aside0 (Kd.R (Kd.int .i64) 3 wc w.heap.size (fun k_ => (w.heap.size ≤ k_) ∧ some k_ ≠ ((.slice Ao64 t381.length co64) : Value).ownBlock ∧ some k_ ≠ ((.slice Ao72 t387.length co72) : Value).ownBlock) (.slice Ao57 x8_2.length co57) x8_2) ∧ Aside0 (Kd.V k177 177 wc w.heap.size (fun k_ => ((P0_1_ k_ ∨ P0_2_ k_) ∨ w.heap.size ≤ k_) ∧ some k_ ≠ ((.slice Ao57 x8_2.length co57) : Value).ownBlock ∧ some k_ ≠ ((.slice Ao64 t381.length co64) : Value).ownBlock ∧ some k_ ≠ ((.slice Ao72 t387.length co72) : Value).ownBlock ∧ k_ ≠ gb364 ∧ k_ ≠ gb365 ∧ k_ ≠ gb385 ∧ k_ ≠ gb391) (.slice A0_1 l0_1.length c0_1) l0_1) ∧ Aside0 (Kd.V k138 138 wc w.heap.size (fun k_ => ((P0_1_ k_ ∨ P0_2_ k_) ∨ w.heap.size ≤ k_) ∧ some k_ ≠ ((.slice Ao57 x8_2.length co57) : Value).ownBlock ∧ some k_ ≠ ((.slice Ao64 t381.length co64) : Value).ownBlock ∧ some k_ ≠ ((.slice Ao72 t387.length co72) : Value).ownBlock ∧ k_ ≠ gb364 ∧ k_ ≠ gb365 ∧ k_ ≠ gb385 ∧ k_ ≠ gb391) (.slice A0_2 l0_2.length c0_2) l0_2) ∧ Aside0 (Kd.R (Kd.int .i64) 3 wc w.heap.size (fun k_ => (w.heap.size ≤ k_) ∧ some k_ ≠ ((.slice Ao57 x8_2.length co57) : Value).ownBlock ∧ some k_ ≠ ((.slice Ao72 t387.length co72) : Value).ownBlock) (.slice Ao64 t381.length co64) t381) ∧ Aside0 (Kd.R (Kd.int .i64) 3 wc w.heap.size (fun k_ => (w.heap.size ≤ k_) ∧ some k_ ≠ ((.slice Ao57 x8_2.length co57) : Value).ownBlock ∧ some k_ ≠ ((.slice Ao64 t381.length co64) : Value).ownBlock) (.slice Ao72 t387.length co72) t387) ∧ Aside0 (wc.heap[gb364]? = some (.cells #[.string a0_0, (.slice A0_1 l0_1.length c0_1), (.slice A0_2 l0_2.length c0_2)] 63 (0, 0))) ∧ Aside0 (wc.heap[gb365]? = some (.cells #[(.slice A1_0 l1_0.length c1_0), (.slice A1_1 l1_1.length c1_1)] 65 (0, 0))) ∧ Aside0 (wc.heap[gb385]? = some (.cells #[.int .i64 t380, (.slice Ao64 t381.length co64)] 68 (0, 0))) ∧ Aside0 (wc.heap[gb391]? = some (.cells #[.int .i64 t386, (.slice Ao72 t387.length co72)] 68 (0, 0))) ∧ Aside0 (Below w.heap.size w wc))
          case first =>
           have H := HC53.out
           clear HC53
           by_cases c73 : t390 = 0
           ·
            rw [if_pos c73] at H
            have c73b0 : (t390 == 0) = true := beq_iff_eq.mpr c73
            have c73b1 : (t390 != 0) = false := bne_eq_false_iff_eq.mpr c73
            clear c73
            replace H := Option.bind_eq_some_iff.mp H
            obtain ⟨t392, A740, H⟩ := H
            replace H : (if t392 = 0 then (if t384 = 0 then (peristylelaw32_CoverMay.j3 k3 x8_2 t384 false a0_0 l0_1 l0_2 t380 t381 t386 t387) else (peristylelaw32_CoverMay.j3 k3 x8_2 t384 (t384 != 320) a0_0 l0_1 l0_2 t380 t381 t386 t387)) else (peristylelaw32_CoverMay.j3 k3 x8_2 t384 true a0_0 l0_1 l0_2 t380 t381 t386 t387)) = some r := H
            have A74 := Aside0.mk A740
            clear A740
            by_cases c75 : t392 = 0
            ·
             rw [if_pos c75] at H
             have c75b0 : (t392 == 0) = true := beq_iff_eq.mpr c75
             have c75b1 : (t392 != 0) = false := bne_eq_false_iff_eq.mpr c75
             clear c75
             by_cases c76 : t384 = 0
             ·
              rw [if_pos c76] at H
              have c76b0 : (t384 == 0) = true := beq_iff_eq.mpr c76
              have c76b1 : (t384 != 0) = false := bne_eq_false_iff_eq.mpr c76
              clear c76
              have H' := Aside0.mk H
              clear H
              have hnb77 := NB364_365.out
              have hnc77 := NB365_364.out
              have hnb78 := NB364_385.out
              have hnc78 := NB385_364.out
              have hnb79 := NB364_391.out
              have hnc79 := NB391_364.out
              have hcz80_0 : w67.cell? ⟨gb364, 0, none⟩ = some (.string a0_0) := (blk_cell BK364.out 0).trans rfl
              have hcz80_1 : w67.cell? ⟨gb364, 1, none⟩ = some (.slice A0_1 l0_1.length c0_1) := (blk_cell BK364.out 1).trans rfl
              have hcz80_2 : w67.cell? ⟨gb364, 2, none⟩ = some (.slice A0_2 l0_2.length c0_2) := (blk_cell BK364.out 2).trans rfl
              have hfz80_0 := blk_frozen BK364.out 0
              have hfz80_1 := blk_frozen BK364.out 1
              have hfz80_2 := blk_frozen BK364.out 2
              have hnb81 := NB391_365.out
              have hnc81 := NB365_391.out
              have hnb82 := NB391_385.out
              have hnc82 := NB385_391.out
              have hcz83_0 : w67.cell? ⟨gb391, 0, none⟩ = some (.int .i64 0) := (blk_cell BK391.out 0).trans rfl
              have hcz83_1 : w67.cell? ⟨gb391, 1, none⟩ = some (.slice none 0 0) := (blk_cell BK391.out 1).trans rfl
              have hfz83_0 := blk_frozen BK391.out 0
              have hfz83_1 := blk_frozen BK391.out 1
              go_wp2_with ((go_at_call 36; (with_reducible refine (cover_Check.calls k3 a0_0 _ _ l0_1 _ _ l0_2 _ _ x8_2 t386 _ _ t387 t392 _ ?side1 ?side2 ?side3 ?side4 ?side5 ?side6 ?side7 ?side8 A74.out).mono ?_); (case side1 => (refine (Kd.V_reads' (e := 177) (base := w.heap.size) (ok := fun k_ => (((((((P0_1_ k_ ∨ P0_2_ k_) ∨ w.heap.size ≤ k_) ∧ (some k_ ≠ (.slice Ao57 x8_2.length co57 : Value).ownBlock ∧ (some k_ ≠ (.slice Ao58 x9_3.length co58 : Value).ownBlock ∧ (k_ ≠ gb364 ∧ k_ ≠ gb365)))) ∧ some k_ ≠ (.slice Ao64 t381.length co64 : Value).ownBlock) ∧ k_ ≠ gb385) ∧ some k_ ≠ (.slice Ao72 t387.length co72 : Value).ownBlock) ∧ k_ ≠ gb391)) (n := l0_1.length) (c := c0_1) ?_).2.2; exact (by exact (Kd.V_mono (Kd.V_far (p := ⟨gb391, 1, none⟩) (Kd.V_far (p := ⟨gb391, 0, none⟩) (Kd.V_mono HO_365001.out (fun k_ hk => (⟨hk, hk.2⟩ : _ ∧ k_ ≠ gb391))) (fun _ hk => hk.2) (.int .i64 t386)) (fun _ hk => hk.2) (.slice Ao72 t387.length co72)) (fun _ h_ => h_.1))))); (case side2 => exact (Kd.V_reads' HO_365001.out).2.1); (case side3 => (refine (Kd.V_reads' (e := 138) (base := w.heap.size) (ok := fun k_ => (((((((P0_1_ k_ ∨ P0_2_ k_) ∨ w.heap.size ≤ k_) ∧ (some k_ ≠ (.slice Ao57 x8_2.length co57 : Value).ownBlock ∧ (some k_ ≠ (.slice Ao58 x9_3.length co58 : Value).ownBlock ∧ (k_ ≠ gb364 ∧ k_ ≠ gb365)))) ∧ some k_ ≠ (.slice Ao64 t381.length co64 : Value).ownBlock) ∧ k_ ≠ gb385) ∧ some k_ ≠ (.slice Ao72 t387.length co72 : Value).ownBlock) ∧ k_ ≠ gb391)) (n := l0_2.length) (c := c0_2) ?_).2.2; exact (by exact (Kd.V_mono (Kd.V_far (p := ⟨gb391, 1, none⟩) (Kd.V_far (p := ⟨gb391, 0, none⟩) (Kd.V_mono HO_365002.out (fun k_ hk => (⟨hk, hk.2⟩ : _ ∧ k_ ≠ gb391))) (fun _ hk => hk.2) (.int .i64 t386)) (fun _ hk => hk.2) (.slice Ao72 t387.length co72)) (fun _ h_ => h_.1))))); (case side4 => exact (Kd.V_reads' HO_365002.out).2.1); (case side5 => refine (Kd.R_reads' (e := 3) (base := w.heap.size) (ok := fun k_ => ((((w.heap.size ≤ k_) ∧ some k_ ≠ (.slice Ao58 x9_3.length co58 : Value).ownBlock) ∧ some k_ ≠ (.slice Ao64 t381.length co64 : Value).ownBlock) ∧ some k_ ≠ (.slice Ao72 t387.length co72 : Value).ownBlock)) (n := x8_2.length) (c := co57) ?_).2.2; exact (by exact (Kd.R_mono (Kd.R_far (p := ⟨gb391, 1, none⟩) (Kd.R_far (p := ⟨gb391, 0, none⟩) (Kd.R_types HO_8.out BK391.out (by decide)) (fun _ hk => hk.2) (.int .i64 t386)) (fun _ hk => hk.2) (.slice Ao72 t387.length co72)) (fun _ h_ => h_.1)))); (case side6 => exact (Kd.R_reads' HO_8.out).2.1); (case side7 => refine (Kd.R_reads' (e := 3) (base := w.heap.size) (ok := fun k_ => (((((w.heap.size ≤ k_) ∧ True) ∧ some k_ ≠ (.slice Ao57 x8_2.length co57 : Value).ownBlock) ∧ some k_ ≠ (.slice Ao58 x9_3.length co58 : Value).ownBlock) ∧ some k_ ≠ (.slice Ao64 t381.length co64 : Value).ownBlock)) (n := t387.length) (c := co72) ?_).2.2; exact (by exact (Kd.R_mono (Kd.R_far (p := ⟨gb391, 1, none⟩) (Kd.R_far (p := ⟨gb391, 0, none⟩) (Kd.R_types HO389.out BK391.out (by decide)) (fun _ hk => hk.2) (.int .i64 t386)) (fun _ hk => hk.2) (.slice Ao72 t387.length co72)) (fun _ h_ => h_.1)))); (case side8 => exact (Kd.R_reads' HO389.out).2.1); rintro e w84 ⟨rfl, hb⟩; have n0_ := Aside0.mk (Kd.R_below (by exact (Kd.R_mono (Kd.R_far (p := ⟨gb391, 1, none⟩) (Kd.R_far (p := ⟨gb391, 0, none⟩) (Kd.R_types HO_8.out BK391.out (by decide)) (fun _ hk => hk.2) (.int .i64 t386)) (fun _ hk => hk.2) (.slice Ao72 t387.length co72)) (fun _ h_ => h_.1))) hb); have n1_ := Aside0.mk (Kd.R_below (by exact (Kd.R_mono (Kd.R_far (p := ⟨gb391, 1, none⟩) (Kd.R_far (p := ⟨gb391, 0, none⟩) (Kd.R_types HO_9.out BK391.out (by decide)) (fun _ hk => hk.2) (.int .i64 t386)) (fun _ hk => hk.2) (.slice Ao72 t387.length co72)) (fun _ h_ => h_.1))) hb); have n2_ := Aside0.mk (Kd.V_below (by exact (Kd.V_mono (Kd.V_far (p := ⟨gb391, 1, none⟩) (Kd.V_far (p := ⟨gb391, 0, none⟩) (Kd.V_mono HO_365001.out (fun k_ hk => (⟨hk, hk.2⟩ : _ ∧ k_ ≠ gb391))) (fun _ hk => hk.2) (.int .i64 t386)) (fun _ hk => hk.2) (.slice Ao72 t387.length co72)) (fun _ h_ => h_.1))) hb); have n3_ := Aside0.mk (Kd.V_below (by exact (Kd.V_mono (Kd.V_far (p := ⟨gb391, 1, none⟩) (Kd.V_far (p := ⟨gb391, 0, none⟩) (Kd.V_mono HO_365002.out (fun k_ hk => (⟨hk, hk.2⟩ : _ ∧ k_ ≠ gb391))) (fun _ hk => hk.2) (.int .i64 t386)) (fun _ hk => hk.2) (.slice Ao72 t387.length co72)) (fun _ h_ => h_.1))) hb); have n4_ := Aside0.mk (Kd.R_below (by exact (Kd.R_mono (Kd.R_far (p := ⟨gb391, 1, none⟩) (Kd.R_far (p := ⟨gb391, 0, none⟩) (Kd.R_types HO383.out BK391.out (by decide)) (fun _ hk => hk.2) (.int .i64 t386)) (fun _ hk => hk.2) (.slice Ao72 t387.length co72)) (fun _ h_ => h_.1))) hb); have n5_ := Aside0.mk (Kd.R_below (by exact (Kd.R_mono (Kd.R_far (p := ⟨gb391, 1, none⟩) (Kd.R_far (p := ⟨gb391, 0, none⟩) (Kd.R_types HO389.out BK391.out (by decide)) (fun _ hk => hk.2) (.int .i64 t386)) (fun _ hk => hk.2) (.slice Ao72 t387.length co72)) (fun _ h_ => h_.1))) hb); have n6_ := Aside0.mk (blk_below (g := gb364) (o := .cells #[.string a0_0, .slice A0_1 l0_1.length c0_1, .slice A0_2 l0_2.length c0_2] 63 (0, 0)) (by refine blk_far ?_ NB364_391.out _; refine blk_far ?_ NB364_391.out _; exact BK364.out) hb); have n7_ := Aside0.mk (blk_below (g := gb365) (o := .cells #[.slice A1_0 l1_0.length c1_0, .slice A1_1 l1_1.length c1_1] 65 (0, 0)) (by refine blk_far ?_ NB365_391.out _; refine blk_far ?_ NB365_391.out _; exact BK365.out) hb); have n8_ := Aside0.mk (blk_below (g := gb385) (o := .cells #[.int .i64 t380, .slice Ao64 t381.length co64] 68 (0, 0)) (by refine blk_far ?_ NB385_391.out _; refine blk_far ?_ NB385_391.out _; exact BK385.out) hb); have n9_ := Aside0.mk (blk_below (g := gb391) (o := .cells #[.int .i64 t386, .slice Ao72 t387.length co72] 68 (0, 0)) (by refine blk_put (cs := #[.int .i64 t386, .slice none 0 0]) ?_ 1 _ rfl; refine blk_put (cs := #[.int .i64 0, .slice none 0 0]) ?_ 0 _ rfl; exact BK391.out) hb); have n10_ := Aside0.mk (below_step (by repeat ((with_reducible first | exact HB.out | refine below_set ?_ GE391.out))) hb); clear HO_8 HO_9 HO_365001 HO_365002 HO383 HO389 BK364 BK365 BK385 BK391 HB; have HO_8 := n0_; have HO_9 := n1_; have HO_365001 := n2_; have HO_365002 := n3_; have HO383 := n4_; have HO389 := n5_; have BK364 := n6_; have BK365 := n7_; have BK385 := n8_; have BK391 := n9_; have HB := n10_; clear n0_ n1_ n2_ n3_ n4_ n5_ n6_ n7_ n8_ n9_ n10_; (try clear hb)))
              go_meet
              case rel => exact ⟨_, (false), (by rfl), H', ⟨by have := HJ3.out; have := HK2.out; have := HK3.out; omega⟩, ⟨by exact Kd.R_mono HO_8.out (fun _ hk => ⟨hk.1.1.1, ⟨hk.1.2, hk.2⟩⟩)⟩, ⟨by exact Kd.V_mono HO_365001.out (fun _ hk => ⟨hk.1.1.1.1.1, ⟨hk.1.1.1.1.2.1, ⟨hk.1.1.1.2, ⟨hk.1.2, ⟨hk.1.1.1.1.2.2.2.1, ⟨hk.1.1.1.1.2.2.2.2, ⟨hk.1.1.2, hk.2⟩⟩⟩⟩⟩⟩⟩)⟩, ⟨by exact Kd.V_mono HO_365002.out (fun _ hk => ⟨hk.1.1.1.1.1, ⟨hk.1.1.1.1.2.1, ⟨hk.1.1.1.2, ⟨hk.1.2, ⟨hk.1.1.1.1.2.2.2.1, ⟨hk.1.1.1.1.2.2.2.2, ⟨hk.1.1.2, hk.2⟩⟩⟩⟩⟩⟩⟩)⟩, ⟨by exact Kd.R_mono HO383.out (fun _ hk => ⟨hk.1.1.1.1, ⟨hk.1.1.2, hk.2⟩⟩)⟩, ⟨by exact Kd.R_mono HO389.out (fun _ hk => ⟨hk.1.1.1.1, ⟨hk.1.1.2, hk.2⟩⟩)⟩, ⟨BK364.out⟩, ⟨BK365.out⟩, ⟨BK385.out⟩, ⟨BK391.out⟩, ⟨HB.out⟩⟩
             ·
              rw [if_neg c76] at H
              have c76b0 : (t384 == 0) = false := beq_eq_false_iff_ne.mpr c76
              have c76b1 : (t384 != 0) = true := bne_iff_ne.mpr c76
              have H' := Aside0.mk H
              clear H
              have hnb85 := NB364_365.out
              have hnc85 := NB365_364.out
              have hnb86 := NB364_385.out
              have hnc86 := NB385_364.out
              have hnb87 := NB364_391.out
              have hnc87 := NB391_364.out
              have hcz88_0 : w67.cell? ⟨gb364, 0, none⟩ = some (.string a0_0) := (blk_cell BK364.out 0).trans rfl
              have hcz88_1 : w67.cell? ⟨gb364, 1, none⟩ = some (.slice A0_1 l0_1.length c0_1) := (blk_cell BK364.out 1).trans rfl
              have hcz88_2 : w67.cell? ⟨gb364, 2, none⟩ = some (.slice A0_2 l0_2.length c0_2) := (blk_cell BK364.out 2).trans rfl
              have hfz88_0 := blk_frozen BK364.out 0
              have hfz88_1 := blk_frozen BK364.out 1
              have hfz88_2 := blk_frozen BK364.out 2
              have hnb89 := NB391_365.out
              have hnc89 := NB365_391.out
              have hnb90 := NB391_385.out
              have hnc90 := NB385_391.out
              have hcz91_0 : w67.cell? ⟨gb391, 0, none⟩ = some (.int .i64 0) := (blk_cell BK391.out 0).trans rfl
              have hcz91_1 : w67.cell? ⟨gb391, 1, none⟩ = some (.slice none 0 0) := (blk_cell BK391.out 1).trans rfl
              have hfz91_0 := blk_frozen BK391.out 0
              have hfz91_1 := blk_frozen BK391.out 1
              go_wp2_with ((go_at_call 36; (with_reducible refine (cover_Check.calls k3 a0_0 _ _ l0_1 _ _ l0_2 _ _ x8_2 t386 _ _ t387 t392 _ ?side1 ?side2 ?side3 ?side4 ?side5 ?side6 ?side7 ?side8 A74.out).mono ?_); (case side1 => (refine (Kd.V_reads' (e := 177) (base := w.heap.size) (ok := fun k_ => (((((((P0_1_ k_ ∨ P0_2_ k_) ∨ w.heap.size ≤ k_) ∧ (some k_ ≠ (.slice Ao57 x8_2.length co57 : Value).ownBlock ∧ (some k_ ≠ (.slice Ao58 x9_3.length co58 : Value).ownBlock ∧ (k_ ≠ gb364 ∧ k_ ≠ gb365)))) ∧ some k_ ≠ (.slice Ao64 t381.length co64 : Value).ownBlock) ∧ k_ ≠ gb385) ∧ some k_ ≠ (.slice Ao72 t387.length co72 : Value).ownBlock) ∧ k_ ≠ gb391)) (n := l0_1.length) (c := c0_1) ?_).2.2; exact (by exact (Kd.V_mono (Kd.V_far (p := ⟨gb391, 1, none⟩) (Kd.V_far (p := ⟨gb391, 0, none⟩) (Kd.V_mono HO_365001.out (fun k_ hk => (⟨hk, hk.2⟩ : _ ∧ k_ ≠ gb391))) (fun _ hk => hk.2) (.int .i64 t386)) (fun _ hk => hk.2) (.slice Ao72 t387.length co72)) (fun _ h_ => h_.1))))); (case side2 => exact (Kd.V_reads' HO_365001.out).2.1); (case side3 => (refine (Kd.V_reads' (e := 138) (base := w.heap.size) (ok := fun k_ => (((((((P0_1_ k_ ∨ P0_2_ k_) ∨ w.heap.size ≤ k_) ∧ (some k_ ≠ (.slice Ao57 x8_2.length co57 : Value).ownBlock ∧ (some k_ ≠ (.slice Ao58 x9_3.length co58 : Value).ownBlock ∧ (k_ ≠ gb364 ∧ k_ ≠ gb365)))) ∧ some k_ ≠ (.slice Ao64 t381.length co64 : Value).ownBlock) ∧ k_ ≠ gb385) ∧ some k_ ≠ (.slice Ao72 t387.length co72 : Value).ownBlock) ∧ k_ ≠ gb391)) (n := l0_2.length) (c := c0_2) ?_).2.2; exact (by exact (Kd.V_mono (Kd.V_far (p := ⟨gb391, 1, none⟩) (Kd.V_far (p := ⟨gb391, 0, none⟩) (Kd.V_mono HO_365002.out (fun k_ hk => (⟨hk, hk.2⟩ : _ ∧ k_ ≠ gb391))) (fun _ hk => hk.2) (.int .i64 t386)) (fun _ hk => hk.2) (.slice Ao72 t387.length co72)) (fun _ h_ => h_.1))))); (case side4 => exact (Kd.V_reads' HO_365002.out).2.1); (case side5 => refine (Kd.R_reads' (e := 3) (base := w.heap.size) (ok := fun k_ => ((((w.heap.size ≤ k_) ∧ some k_ ≠ (.slice Ao58 x9_3.length co58 : Value).ownBlock) ∧ some k_ ≠ (.slice Ao64 t381.length co64 : Value).ownBlock) ∧ some k_ ≠ (.slice Ao72 t387.length co72 : Value).ownBlock)) (n := x8_2.length) (c := co57) ?_).2.2; exact (by exact (Kd.R_mono (Kd.R_far (p := ⟨gb391, 1, none⟩) (Kd.R_far (p := ⟨gb391, 0, none⟩) (Kd.R_types HO_8.out BK391.out (by decide)) (fun _ hk => hk.2) (.int .i64 t386)) (fun _ hk => hk.2) (.slice Ao72 t387.length co72)) (fun _ h_ => h_.1)))); (case side6 => exact (Kd.R_reads' HO_8.out).2.1); (case side7 => refine (Kd.R_reads' (e := 3) (base := w.heap.size) (ok := fun k_ => (((((w.heap.size ≤ k_) ∧ True) ∧ some k_ ≠ (.slice Ao57 x8_2.length co57 : Value).ownBlock) ∧ some k_ ≠ (.slice Ao58 x9_3.length co58 : Value).ownBlock) ∧ some k_ ≠ (.slice Ao64 t381.length co64 : Value).ownBlock)) (n := t387.length) (c := co72) ?_).2.2; exact (by exact (Kd.R_mono (Kd.R_far (p := ⟨gb391, 1, none⟩) (Kd.R_far (p := ⟨gb391, 0, none⟩) (Kd.R_types HO389.out BK391.out (by decide)) (fun _ hk => hk.2) (.int .i64 t386)) (fun _ hk => hk.2) (.slice Ao72 t387.length co72)) (fun _ h_ => h_.1)))); (case side8 => exact (Kd.R_reads' HO389.out).2.1); rintro e w92 ⟨rfl, hb⟩; have n0_ := Aside0.mk (Kd.R_below (by exact (Kd.R_mono (Kd.R_far (p := ⟨gb391, 1, none⟩) (Kd.R_far (p := ⟨gb391, 0, none⟩) (Kd.R_types HO_8.out BK391.out (by decide)) (fun _ hk => hk.2) (.int .i64 t386)) (fun _ hk => hk.2) (.slice Ao72 t387.length co72)) (fun _ h_ => h_.1))) hb); have n1_ := Aside0.mk (Kd.R_below (by exact (Kd.R_mono (Kd.R_far (p := ⟨gb391, 1, none⟩) (Kd.R_far (p := ⟨gb391, 0, none⟩) (Kd.R_types HO_9.out BK391.out (by decide)) (fun _ hk => hk.2) (.int .i64 t386)) (fun _ hk => hk.2) (.slice Ao72 t387.length co72)) (fun _ h_ => h_.1))) hb); have n2_ := Aside0.mk (Kd.V_below (by exact (Kd.V_mono (Kd.V_far (p := ⟨gb391, 1, none⟩) (Kd.V_far (p := ⟨gb391, 0, none⟩) (Kd.V_mono HO_365001.out (fun k_ hk => (⟨hk, hk.2⟩ : _ ∧ k_ ≠ gb391))) (fun _ hk => hk.2) (.int .i64 t386)) (fun _ hk => hk.2) (.slice Ao72 t387.length co72)) (fun _ h_ => h_.1))) hb); have n3_ := Aside0.mk (Kd.V_below (by exact (Kd.V_mono (Kd.V_far (p := ⟨gb391, 1, none⟩) (Kd.V_far (p := ⟨gb391, 0, none⟩) (Kd.V_mono HO_365002.out (fun k_ hk => (⟨hk, hk.2⟩ : _ ∧ k_ ≠ gb391))) (fun _ hk => hk.2) (.int .i64 t386)) (fun _ hk => hk.2) (.slice Ao72 t387.length co72)) (fun _ h_ => h_.1))) hb); have n4_ := Aside0.mk (Kd.R_below (by exact (Kd.R_mono (Kd.R_far (p := ⟨gb391, 1, none⟩) (Kd.R_far (p := ⟨gb391, 0, none⟩) (Kd.R_types HO383.out BK391.out (by decide)) (fun _ hk => hk.2) (.int .i64 t386)) (fun _ hk => hk.2) (.slice Ao72 t387.length co72)) (fun _ h_ => h_.1))) hb); have n5_ := Aside0.mk (Kd.R_below (by exact (Kd.R_mono (Kd.R_far (p := ⟨gb391, 1, none⟩) (Kd.R_far (p := ⟨gb391, 0, none⟩) (Kd.R_types HO389.out BK391.out (by decide)) (fun _ hk => hk.2) (.int .i64 t386)) (fun _ hk => hk.2) (.slice Ao72 t387.length co72)) (fun _ h_ => h_.1))) hb); have n6_ := Aside0.mk (blk_below (g := gb364) (o := .cells #[.string a0_0, .slice A0_1 l0_1.length c0_1, .slice A0_2 l0_2.length c0_2] 63 (0, 0)) (by refine blk_far ?_ NB364_391.out _; refine blk_far ?_ NB364_391.out _; exact BK364.out) hb); have n7_ := Aside0.mk (blk_below (g := gb365) (o := .cells #[.slice A1_0 l1_0.length c1_0, .slice A1_1 l1_1.length c1_1] 65 (0, 0)) (by refine blk_far ?_ NB365_391.out _; refine blk_far ?_ NB365_391.out _; exact BK365.out) hb); have n8_ := Aside0.mk (blk_below (g := gb385) (o := .cells #[.int .i64 t380, .slice Ao64 t381.length co64] 68 (0, 0)) (by refine blk_far ?_ NB385_391.out _; refine blk_far ?_ NB385_391.out _; exact BK385.out) hb); have n9_ := Aside0.mk (blk_below (g := gb391) (o := .cells #[.int .i64 t386, .slice Ao72 t387.length co72] 68 (0, 0)) (by refine blk_put (cs := #[.int .i64 t386, .slice none 0 0]) ?_ 1 _ rfl; refine blk_put (cs := #[.int .i64 0, .slice none 0 0]) ?_ 0 _ rfl; exact BK391.out) hb); have n10_ := Aside0.mk (below_step (by repeat ((with_reducible first | exact HB.out | refine below_set ?_ GE391.out))) hb); clear HO_8 HO_9 HO_365001 HO_365002 HO383 HO389 BK364 BK365 BK385 BK391 HB; have HO_8 := n0_; have HO_9 := n1_; have HO_365001 := n2_; have HO_365002 := n3_; have HO383 := n4_; have HO389 := n5_; have BK364 := n6_; have BK365 := n7_; have BK385 := n8_; have BK391 := n9_; have HB := n10_; clear n0_ n1_ n2_ n3_ n4_ n5_ n6_ n7_ n8_ n9_ n10_; (try clear hb)))
              go_meet
              case rel => exact ⟨_, ((t384 != 320)), (by rfl), H', ⟨by have := HJ3.out; have := HK2.out; have := HK3.out; omega⟩, ⟨by exact Kd.R_mono HO_8.out (fun _ hk => ⟨hk.1.1.1, ⟨hk.1.2, hk.2⟩⟩)⟩, ⟨by exact Kd.V_mono HO_365001.out (fun _ hk => ⟨hk.1.1.1.1.1, ⟨hk.1.1.1.1.2.1, ⟨hk.1.1.1.2, ⟨hk.1.2, ⟨hk.1.1.1.1.2.2.2.1, ⟨hk.1.1.1.1.2.2.2.2, ⟨hk.1.1.2, hk.2⟩⟩⟩⟩⟩⟩⟩)⟩, ⟨by exact Kd.V_mono HO_365002.out (fun _ hk => ⟨hk.1.1.1.1.1, ⟨hk.1.1.1.1.2.1, ⟨hk.1.1.1.2, ⟨hk.1.2, ⟨hk.1.1.1.1.2.2.2.1, ⟨hk.1.1.1.1.2.2.2.2, ⟨hk.1.1.2, hk.2⟩⟩⟩⟩⟩⟩⟩)⟩, ⟨by exact Kd.R_mono HO383.out (fun _ hk => ⟨hk.1.1.1.1, ⟨hk.1.1.2, hk.2⟩⟩)⟩, ⟨by exact Kd.R_mono HO389.out (fun _ hk => ⟨hk.1.1.1.1, ⟨hk.1.1.2, hk.2⟩⟩)⟩, ⟨BK364.out⟩, ⟨BK365.out⟩, ⟨BK385.out⟩, ⟨BK391.out⟩, ⟨HB.out⟩⟩
            ·
             rw [if_neg c75] at H
             have c75b0 : (t392 == 0) = false := beq_eq_false_iff_ne.mpr c75
             have c75b1 : (t392 != 0) = true := bne_iff_ne.mpr c75
             have H' := Aside0.mk H
             clear H
             have hnb93 := NB364_365.out
             have hnc93 := NB365_364.out
             have hnb94 := NB364_385.out
             have hnc94 := NB385_364.out
             have hnb95 := NB364_391.out
             have hnc95 := NB391_364.out
             have hcz96_0 : w67.cell? ⟨gb364, 0, none⟩ = some (.string a0_0) := (blk_cell BK364.out 0).trans rfl
             have hcz96_1 : w67.cell? ⟨gb364, 1, none⟩ = some (.slice A0_1 l0_1.length c0_1) := (blk_cell BK364.out 1).trans rfl
             have hcz96_2 : w67.cell? ⟨gb364, 2, none⟩ = some (.slice A0_2 l0_2.length c0_2) := (blk_cell BK364.out 2).trans rfl
             have hfz96_0 := blk_frozen BK364.out 0
             have hfz96_1 := blk_frozen BK364.out 1
             have hfz96_2 := blk_frozen BK364.out 2
             have hnb97 := NB391_365.out
             have hnc97 := NB365_391.out
             have hnb98 := NB391_385.out
             have hnc98 := NB385_391.out
             have hcz99_0 : w67.cell? ⟨gb391, 0, none⟩ = some (.int .i64 0) := (blk_cell BK391.out 0).trans rfl
             have hcz99_1 : w67.cell? ⟨gb391, 1, none⟩ = some (.slice none 0 0) := (blk_cell BK391.out 1).trans rfl
             have hfz99_0 := blk_frozen BK391.out 0
             have hfz99_1 := blk_frozen BK391.out 1
             go_wp2_with ((go_at_call 36; (with_reducible refine (cover_Check.calls k3 a0_0 _ _ l0_1 _ _ l0_2 _ _ x8_2 t386 _ _ t387 t392 _ ?side1 ?side2 ?side3 ?side4 ?side5 ?side6 ?side7 ?side8 A74.out).mono ?_); (case side1 => (refine (Kd.V_reads' (e := 177) (base := w.heap.size) (ok := fun k_ => (((((((P0_1_ k_ ∨ P0_2_ k_) ∨ w.heap.size ≤ k_) ∧ (some k_ ≠ (.slice Ao57 x8_2.length co57 : Value).ownBlock ∧ (some k_ ≠ (.slice Ao58 x9_3.length co58 : Value).ownBlock ∧ (k_ ≠ gb364 ∧ k_ ≠ gb365)))) ∧ some k_ ≠ (.slice Ao64 t381.length co64 : Value).ownBlock) ∧ k_ ≠ gb385) ∧ some k_ ≠ (.slice Ao72 t387.length co72 : Value).ownBlock) ∧ k_ ≠ gb391)) (n := l0_1.length) (c := c0_1) ?_).2.2; exact (by exact (Kd.V_mono (Kd.V_far (p := ⟨gb391, 1, none⟩) (Kd.V_far (p := ⟨gb391, 0, none⟩) (Kd.V_mono HO_365001.out (fun k_ hk => (⟨hk, hk.2⟩ : _ ∧ k_ ≠ gb391))) (fun _ hk => hk.2) (.int .i64 t386)) (fun _ hk => hk.2) (.slice Ao72 t387.length co72)) (fun _ h_ => h_.1))))); (case side2 => exact (Kd.V_reads' HO_365001.out).2.1); (case side3 => (refine (Kd.V_reads' (e := 138) (base := w.heap.size) (ok := fun k_ => (((((((P0_1_ k_ ∨ P0_2_ k_) ∨ w.heap.size ≤ k_) ∧ (some k_ ≠ (.slice Ao57 x8_2.length co57 : Value).ownBlock ∧ (some k_ ≠ (.slice Ao58 x9_3.length co58 : Value).ownBlock ∧ (k_ ≠ gb364 ∧ k_ ≠ gb365)))) ∧ some k_ ≠ (.slice Ao64 t381.length co64 : Value).ownBlock) ∧ k_ ≠ gb385) ∧ some k_ ≠ (.slice Ao72 t387.length co72 : Value).ownBlock) ∧ k_ ≠ gb391)) (n := l0_2.length) (c := c0_2) ?_).2.2; exact (by exact (Kd.V_mono (Kd.V_far (p := ⟨gb391, 1, none⟩) (Kd.V_far (p := ⟨gb391, 0, none⟩) (Kd.V_mono HO_365002.out (fun k_ hk => (⟨hk, hk.2⟩ : _ ∧ k_ ≠ gb391))) (fun _ hk => hk.2) (.int .i64 t386)) (fun _ hk => hk.2) (.slice Ao72 t387.length co72)) (fun _ h_ => h_.1))))); (case side4 => exact (Kd.V_reads' HO_365002.out).2.1); (case side5 => refine (Kd.R_reads' (e := 3) (base := w.heap.size) (ok := fun k_ => ((((w.heap.size ≤ k_) ∧ some k_ ≠ (.slice Ao58 x9_3.length co58 : Value).ownBlock) ∧ some k_ ≠ (.slice Ao64 t381.length co64 : Value).ownBlock) ∧ some k_ ≠ (.slice Ao72 t387.length co72 : Value).ownBlock)) (n := x8_2.length) (c := co57) ?_).2.2; exact (by exact (Kd.R_mono (Kd.R_far (p := ⟨gb391, 1, none⟩) (Kd.R_far (p := ⟨gb391, 0, none⟩) (Kd.R_types HO_8.out BK391.out (by decide)) (fun _ hk => hk.2) (.int .i64 t386)) (fun _ hk => hk.2) (.slice Ao72 t387.length co72)) (fun _ h_ => h_.1)))); (case side6 => exact (Kd.R_reads' HO_8.out).2.1); (case side7 => refine (Kd.R_reads' (e := 3) (base := w.heap.size) (ok := fun k_ => (((((w.heap.size ≤ k_) ∧ True) ∧ some k_ ≠ (.slice Ao57 x8_2.length co57 : Value).ownBlock) ∧ some k_ ≠ (.slice Ao58 x9_3.length co58 : Value).ownBlock) ∧ some k_ ≠ (.slice Ao64 t381.length co64 : Value).ownBlock)) (n := t387.length) (c := co72) ?_).2.2; exact (by exact (Kd.R_mono (Kd.R_far (p := ⟨gb391, 1, none⟩) (Kd.R_far (p := ⟨gb391, 0, none⟩) (Kd.R_types HO389.out BK391.out (by decide)) (fun _ hk => hk.2) (.int .i64 t386)) (fun _ hk => hk.2) (.slice Ao72 t387.length co72)) (fun _ h_ => h_.1)))); (case side8 => exact (Kd.R_reads' HO389.out).2.1); rintro e w100 ⟨rfl, hb⟩; have n0_ := Aside0.mk (Kd.R_below (by exact (Kd.R_mono (Kd.R_far (p := ⟨gb391, 1, none⟩) (Kd.R_far (p := ⟨gb391, 0, none⟩) (Kd.R_types HO_8.out BK391.out (by decide)) (fun _ hk => hk.2) (.int .i64 t386)) (fun _ hk => hk.2) (.slice Ao72 t387.length co72)) (fun _ h_ => h_.1))) hb); have n1_ := Aside0.mk (Kd.R_below (by exact (Kd.R_mono (Kd.R_far (p := ⟨gb391, 1, none⟩) (Kd.R_far (p := ⟨gb391, 0, none⟩) (Kd.R_types HO_9.out BK391.out (by decide)) (fun _ hk => hk.2) (.int .i64 t386)) (fun _ hk => hk.2) (.slice Ao72 t387.length co72)) (fun _ h_ => h_.1))) hb); have n2_ := Aside0.mk (Kd.V_below (by exact (Kd.V_mono (Kd.V_far (p := ⟨gb391, 1, none⟩) (Kd.V_far (p := ⟨gb391, 0, none⟩) (Kd.V_mono HO_365001.out (fun k_ hk => (⟨hk, hk.2⟩ : _ ∧ k_ ≠ gb391))) (fun _ hk => hk.2) (.int .i64 t386)) (fun _ hk => hk.2) (.slice Ao72 t387.length co72)) (fun _ h_ => h_.1))) hb); have n3_ := Aside0.mk (Kd.V_below (by exact (Kd.V_mono (Kd.V_far (p := ⟨gb391, 1, none⟩) (Kd.V_far (p := ⟨gb391, 0, none⟩) (Kd.V_mono HO_365002.out (fun k_ hk => (⟨hk, hk.2⟩ : _ ∧ k_ ≠ gb391))) (fun _ hk => hk.2) (.int .i64 t386)) (fun _ hk => hk.2) (.slice Ao72 t387.length co72)) (fun _ h_ => h_.1))) hb); have n4_ := Aside0.mk (Kd.R_below (by exact (Kd.R_mono (Kd.R_far (p := ⟨gb391, 1, none⟩) (Kd.R_far (p := ⟨gb391, 0, none⟩) (Kd.R_types HO383.out BK391.out (by decide)) (fun _ hk => hk.2) (.int .i64 t386)) (fun _ hk => hk.2) (.slice Ao72 t387.length co72)) (fun _ h_ => h_.1))) hb); have n5_ := Aside0.mk (Kd.R_below (by exact (Kd.R_mono (Kd.R_far (p := ⟨gb391, 1, none⟩) (Kd.R_far (p := ⟨gb391, 0, none⟩) (Kd.R_types HO389.out BK391.out (by decide)) (fun _ hk => hk.2) (.int .i64 t386)) (fun _ hk => hk.2) (.slice Ao72 t387.length co72)) (fun _ h_ => h_.1))) hb); have n6_ := Aside0.mk (blk_below (g := gb364) (o := .cells #[.string a0_0, .slice A0_1 l0_1.length c0_1, .slice A0_2 l0_2.length c0_2] 63 (0, 0)) (by refine blk_far ?_ NB364_391.out _; refine blk_far ?_ NB364_391.out _; exact BK364.out) hb); have n7_ := Aside0.mk (blk_below (g := gb365) (o := .cells #[.slice A1_0 l1_0.length c1_0, .slice A1_1 l1_1.length c1_1] 65 (0, 0)) (by refine blk_far ?_ NB365_391.out _; refine blk_far ?_ NB365_391.out _; exact BK365.out) hb); have n8_ := Aside0.mk (blk_below (g := gb385) (o := .cells #[.int .i64 t380, .slice Ao64 t381.length co64] 68 (0, 0)) (by refine blk_far ?_ NB385_391.out _; refine blk_far ?_ NB385_391.out _; exact BK385.out) hb); have n9_ := Aside0.mk (blk_below (g := gb391) (o := .cells #[.int .i64 t386, .slice Ao72 t387.length co72] 68 (0, 0)) (by refine blk_put (cs := #[.int .i64 t386, .slice none 0 0]) ?_ 1 _ rfl; refine blk_put (cs := #[.int .i64 0, .slice none 0 0]) ?_ 0 _ rfl; exact BK391.out) hb); have n10_ := Aside0.mk (below_step (by repeat ((with_reducible first | exact HB.out | refine below_set ?_ GE391.out))) hb); clear HO_8 HO_9 HO_365001 HO_365002 HO383 HO389 BK364 BK365 BK385 BK391 HB; have HO_8 := n0_; have HO_9 := n1_; have HO_365001 := n2_; have HO_365002 := n3_; have HO383 := n4_; have HO389 := n5_; have BK364 := n6_; have BK365 := n7_; have BK385 := n8_; have BK391 := n9_; have HB := n10_; clear n0_ n1_ n2_ n3_ n4_ n5_ n6_ n7_ n8_ n9_ n10_; (try clear hb)))
             go_meet
             case rel => exact ⟨_, (true), (by rfl), H', ⟨by have := HJ3.out; have := HK2.out; have := HK3.out; omega⟩, ⟨by exact Kd.R_mono HO_8.out (fun _ hk => ⟨hk.1.1.1, ⟨hk.1.2, hk.2⟩⟩)⟩, ⟨by exact Kd.V_mono HO_365001.out (fun _ hk => ⟨hk.1.1.1.1.1, ⟨hk.1.1.1.1.2.1, ⟨hk.1.1.1.2, ⟨hk.1.2, ⟨hk.1.1.1.1.2.2.2.1, ⟨hk.1.1.1.1.2.2.2.2, ⟨hk.1.1.2, hk.2⟩⟩⟩⟩⟩⟩⟩)⟩, ⟨by exact Kd.V_mono HO_365002.out (fun _ hk => ⟨hk.1.1.1.1.1, ⟨hk.1.1.1.1.2.1, ⟨hk.1.1.1.2, ⟨hk.1.2, ⟨hk.1.1.1.1.2.2.2.1, ⟨hk.1.1.1.1.2.2.2.2, ⟨hk.1.1.2, hk.2⟩⟩⟩⟩⟩⟩⟩)⟩, ⟨by exact Kd.R_mono HO383.out (fun _ hk => ⟨hk.1.1.1.1, ⟨hk.1.1.2, hk.2⟩⟩)⟩, ⟨by exact Kd.R_mono HO389.out (fun _ hk => ⟨hk.1.1.1.1, ⟨hk.1.1.2, hk.2⟩⟩)⟩, ⟨BK364.out⟩, ⟨BK365.out⟩, ⟨BK385.out⟩, ⟨BK391.out⟩, ⟨HB.out⟩⟩
           ·
            rw [if_neg c73] at H
            have c73b0 : (t390 == 0) = false := beq_eq_false_iff_ne.mpr c73
            have c73b1 : (t390 != 0) = true := bne_iff_ne.mpr c73
            have H' := Aside0.mk H
            clear H
            go_wp2
            go_meet
            case rel => exact ⟨_, (true), (by rfl), H', ⟨by have := HJ3.out; have := HK2.out; have := HK3.out; omega⟩, ⟨by exact Kd.R_mono (Kd.R_far (p := ⟨gb391, 1, none⟩) (Kd.R_far (p := ⟨gb391, 0, none⟩) (Kd.R_types HO_8.out BK391.out (by decide)) (fun _ hk => hk.2) (.int .i64 t386)) (fun _ hk => hk.2) (.slice Ao72 t387.length co72)) (fun _ hk => ⟨hk.1.1.1.1, ⟨hk.1.1.2, hk.1.2⟩⟩)⟩, ⟨by exact Kd.V_mono (Kd.V_far (p := ⟨gb391, 1, none⟩) (Kd.V_far (p := ⟨gb391, 0, none⟩) (Kd.V_mono HO_365001.out (fun k_ hk => (⟨hk, hk.2⟩ : _ ∧ k_ ≠ gb391))) (fun _ hk => hk.2) (.int .i64 t386)) (fun _ hk => hk.2) (.slice Ao72 t387.length co72)) (fun _ hk => ⟨hk.1.1.1.1.1.1, ⟨hk.1.1.1.1.1.2.1, ⟨hk.1.1.1.1.2, ⟨hk.1.1.2, ⟨hk.1.1.1.1.1.2.2.2.1, ⟨hk.1.1.1.1.1.2.2.2.2, ⟨hk.1.1.1.2, hk.1.2⟩⟩⟩⟩⟩⟩⟩)⟩, ⟨by exact Kd.V_mono (Kd.V_far (p := ⟨gb391, 1, none⟩) (Kd.V_far (p := ⟨gb391, 0, none⟩) (Kd.V_mono HO_365002.out (fun k_ hk => (⟨hk, hk.2⟩ : _ ∧ k_ ≠ gb391))) (fun _ hk => hk.2) (.int .i64 t386)) (fun _ hk => hk.2) (.slice Ao72 t387.length co72)) (fun _ hk => ⟨hk.1.1.1.1.1.1, ⟨hk.1.1.1.1.1.2.1, ⟨hk.1.1.1.1.2, ⟨hk.1.1.2, ⟨hk.1.1.1.1.1.2.2.2.1, ⟨hk.1.1.1.1.1.2.2.2.2, ⟨hk.1.1.1.2, hk.1.2⟩⟩⟩⟩⟩⟩⟩)⟩, ⟨by exact Kd.R_mono (Kd.R_far (p := ⟨gb391, 1, none⟩) (Kd.R_far (p := ⟨gb391, 0, none⟩) (Kd.R_types HO383.out BK391.out (by decide)) (fun _ hk => hk.2) (.int .i64 t386)) (fun _ hk => hk.2) (.slice Ao72 t387.length co72)) (fun _ hk => ⟨hk.1.1.1.1.1, ⟨hk.1.1.1.2, hk.1.2⟩⟩)⟩, ⟨by exact Kd.R_mono (Kd.R_far (p := ⟨gb391, 1, none⟩) (Kd.R_far (p := ⟨gb391, 0, none⟩) (Kd.R_types HO389.out BK391.out (by decide)) (fun _ hk => hk.2) (.int .i64 t386)) (fun _ hk => hk.2) (.slice Ao72 t387.length co72)) (fun _ hk => ⟨hk.1.1.1.1.1, ⟨hk.1.1.1.2, hk.1.2⟩⟩)⟩, ⟨by refine blk_far ?_ NB364_391.out _; refine blk_far ?_ NB364_391.out _; exact BK364.out⟩, ⟨by refine blk_far ?_ NB365_391.out _; refine blk_far ?_ NB365_391.out _; exact BK365.out⟩, ⟨by refine blk_far ?_ NB385_391.out _; refine blk_far ?_ NB385_391.out _; exact BK385.out⟩, ⟨by refine blk_put (cs := #[.int .i64 t386, .slice none 0 0]) ?_ 1 _ rfl; refine blk_put (cs := #[.int .i64 0, .slice none 0 0]) ?_ 0 _ rfl; exact BK391.out⟩, ⟨by repeat ((with_reducible first | exact HB.out | refine below_set ?_ GE391.out))⟩⟩
          case rest =>
           clear HC53
           try clear c44b0
           try clear hcz55_0
           try clear hcz55_1
           try clear hcz56_0
           try clear hcz56_1
           try clear hcz56_2
           try clear hcz63_0
           try clear hcz63_1
           try clear hcz65_0
           try clear hcz65_1
           try clear hcz65_2
           try clear hcz71_0
           try clear hcz71_1
           try clear hfz55_0
           try clear hfz55_1
           try clear hfz56_0
           try clear hfz56_1
           try clear hfz56_2
           try clear hfz63_0
           try clear hfz63_1
           try clear hfz65_0
           try clear hfz65_1
           try clear hfz65_2
           try clear hfz71_0
           try clear hfz71_1
           obtain ⟨kq, x106_52, rfl, HA, HJ52, HO_8, HO_365001, HO_365002, HO_386001, HO_392001, BK364, BK365, BK385, BK391, HB⟩ := hcut
           cases kq with
           | zero => exact absurd HA.out (by simp [peristylelaw32_CoverMay.j3])
           | succ kj52 =>
            have H := HA.out
            clear HA
            simp only [peristylelaw32_CoverMay.j3] at H
            by_cases c101 : x106_52 = true
            ·
             subst c101
             have H1 : (none) = some r := by rw [if_pos rfl] at H; exact H
             clear H
             have H := H1
             clear H1
             exact absurd H (by simp)
            ·
             replace c101 := Bool.eq_false_iff.mpr c101
             subst c101
             have H1 : (peristylelaw32_CoverMay.l2 kj52 x8_2 t384 0 a0_0 l0_1 l0_2 t380 t381 t386 t387) = some r := by rw [if_neg (show ¬ (false = true) by decide)] at H; exact H
             clear H
             have H := H1
             clear H1
             have H' := Aside0.mk H
             clear H
             go_wp2
             go_loopg [16] kj52 (fun kq v16 w' => ∃ (x16_5 : Int), v16 = .int .i64 x16_5 ∧ Aside0 (peristylelaw32_CoverMay.l2 kq x8_2 t384 x16_5 a0_0 l0_1 l0_2 t380 t381 t386 t387 = some r) ∧ Aside0 (kq ≤ kj52) ∧ Aside0 (Kd.R (Kd.int .i64) 3 w' w.heap.size (fun k_ => (w.heap.size ≤ k_) ∧ some k_ ≠ ((.slice Ao64 t381.length co64) : Value).ownBlock ∧ some k_ ≠ ((.slice Ao72 t387.length co72) : Value).ownBlock) (.slice Ao57 x8_2.length co57) x8_2) ∧ Aside0 (Kd.V k177 177 w' w.heap.size (fun k_ => ((P0_1_ k_ ∨ P0_2_ k_) ∨ w.heap.size ≤ k_) ∧ some k_ ≠ ((.slice Ao57 x8_2.length co57) : Value).ownBlock ∧ some k_ ≠ ((.slice Ao64 t381.length co64) : Value).ownBlock ∧ some k_ ≠ ((.slice Ao72 t387.length co72) : Value).ownBlock ∧ k_ ≠ gb364 ∧ k_ ≠ gb365 ∧ k_ ≠ gb385 ∧ k_ ≠ gb391) (.slice A0_1 l0_1.length c0_1) l0_1) ∧ Aside0 (Kd.V k138 138 w' w.heap.size (fun k_ => ((P0_1_ k_ ∨ P0_2_ k_) ∨ w.heap.size ≤ k_) ∧ some k_ ≠ ((.slice Ao57 x8_2.length co57) : Value).ownBlock ∧ some k_ ≠ ((.slice Ao64 t381.length co64) : Value).ownBlock ∧ some k_ ≠ ((.slice Ao72 t387.length co72) : Value).ownBlock ∧ k_ ≠ gb364 ∧ k_ ≠ gb365 ∧ k_ ≠ gb385 ∧ k_ ≠ gb391) (.slice A0_2 l0_2.length c0_2) l0_2) ∧ Aside0 (Kd.R (Kd.int .i64) 3 w' w.heap.size (fun k_ => (w.heap.size ≤ k_) ∧ some k_ ≠ ((.slice Ao57 x8_2.length co57) : Value).ownBlock ∧ some k_ ≠ ((.slice Ao72 t387.length co72) : Value).ownBlock) (.slice Ao64 t381.length co64) t381) ∧ Aside0 (Kd.R (Kd.int .i64) 3 w' w.heap.size (fun k_ => (w.heap.size ≤ k_) ∧ some k_ ≠ ((.slice Ao57 x8_2.length co57) : Value).ownBlock ∧ some k_ ≠ ((.slice Ao64 t381.length co64) : Value).ownBlock) (.slice Ao72 t387.length co72) t387) ∧ Aside0 (w'.heap[gb364]? = some (.cells #[.string a0_0, (.slice A0_1 l0_1.length c0_1), (.slice A0_2 l0_2.length c0_2)] 63 (0, 0))) ∧ Aside0 (w'.heap[gb365]? = some (.cells #[(.slice A1_0 l1_0.length c1_0), (.slice A1_1 l1_1.length c1_1)] 65 (0, 0))) ∧ Aside0 (w'.heap[gb385]? = some (.cells #[.int .i64 t380, (.slice Ao64 t381.length co64)] 68 (0, 0))) ∧ Aside0 (w'.heap[gb391]? = some (.cells #[.int .i64 t386, (.slice Ao72 t387.length co72)] 68 (0, 0))) ∧ Aside0 (Below w.heap.size w w'))
             case atStart => exact ⟨(0), (by rfl), H', ⟨Nat.le_refl _⟩, ⟨HO_8.out⟩, ⟨HO_365001.out⟩, ⟨HO_365002.out⟩, ⟨HO_386001.out⟩, ⟨HO_392001.out⟩, ⟨BK364.out⟩, ⟨BK365.out⟩, ⟨BK385.out⟩, ⟨BK391.out⟩, ⟨HB.out⟩⟩
             case round =>
              clear H'
              obtain ⟨x16_5, rfl, HA, HK5, HO_8, HO_365001, HO_365002, HO_386001, HO_392001, BK364, BK365, BK385, BK391, HB⟩ := hrel
              cases gk with
              | zero => exact absurd HA.out (by simp [peristylelaw32_CoverMay.l2])
              | succ k5 =>
               have H := HA.out
               clear HA
               simp only [peristylelaw32_CoverMay.l2] at H
               by_cases c102 : x16_5 < (x8_2.length : Int)
               ·
                rw [if_pos c102] at H
                have c102b0 : decide (x16_5 < (x8_2.length : Int)) = true := decide_eq_true c102
                clear c102
                by_cases c103 : 0 ≤ x16_5
                ·
                 rw [if_pos c103] at H
                 have c103b0 : decide (0 ≤ x16_5) = true := decide_eq_true c103
                 clear c103
                 replace H := Option.bind_eq_some_iff.mp H
                 obtain ⟨t394, A1040, H⟩ := H
                 replace H : (if t394 < 0 then (none) else (peristylelaw32_CoverMay.l2 k5 x8_2 t384 (wrap64 (x16_5 + 1)) a0_0 l0_1 l0_2 t380 t381 t386 t387)) = some r := H
                 have A104 := Aside0.mk A1040
                 clear A1040
                 by_cases c105 : t394 < 0
                 ·
                  rw [if_pos c105] at H
                  exact absurd H (by simp)
                 ·
                  rw [if_neg c105] at H
                  have c105b0 : decide (t394 < 0) = false := decide_eq_false c105
                  clear c105
                  have H' := Aside0.mk H
                  clear H
                  try go_wp2
                  have n0_ := Aside0.mk (Kd.R_drew HO_8.out)
                  have n1_ := Aside0.mk (Kd.V_drew HO_365001.out)
                  have n2_ := Aside0.mk (Kd.V_drew HO_365002.out)
                  have n3_ := Aside0.mk (Kd.R_drew HO_386001.out)
                  have n4_ := Aside0.mk (Kd.R_drew HO_392001.out)
                  have n5_ := Aside0.mk (blk_drew BK364.out)
                  have n6_ := Aside0.mk (blk_drew BK365.out)
                  have n7_ := Aside0.mk (blk_drew BK385.out)
                  have n8_ := Aside0.mk (blk_drew BK391.out)
                  have n9_ := Aside0.mk (below_drew1 HB.out)
                  clear HO_8
                  clear HO_365001
                  clear HO_365002
                  clear HO_386001
                  clear HO_392001
                  clear BK364
                  clear BK365
                  clear BK385
                  clear BK391
                  clear HB
                  have HO_8 := n0_
                  have HO_365001 := n1_
                  have HO_365002 := n2_
                  have HO_386001 := n3_
                  have HO_392001 := n4_
                  have BK364 := n5_
                  have BK365 := n6_
                  have BK385 := n7_
                  have BK391 := n8_
                  have HB := n9_
                  clear n0_ n1_ n2_ n3_ n4_ n5_ n6_ n7_ n8_ n9_
                  have p393 : 0 ≤ (x16_5 : Int) := of_decide_eq_true (by (with_reducible assumption))
                  have q393 : x16_5 < (x8_2.length : Int) := of_decide_eq_true (by (with_reducible assumption))
                  obtain ⟨ad393, e393, hx393_0⟩ := Kd.at_int (Kd.R_reads' HO_8.out).2.2 x16_5 p393 q393
                  cases e393
                  replace p393 := eq_true p393
                  replace q393 := eq_true q393
                  refine start_ (n := 9) (S := fun w' => w'.cell? ⟨gb364, 0, none⟩ = some (.string a0_0) ∧ w'.cell? ⟨gb364, 1, none⟩ = some (.slice A0_1 l0_1.length c0_1) ∧ w'.cell? ⟨gb364, 2, none⟩ = some (.slice A0_2 l0_2.length c0_2) ∧ w'.cell? ⟨gb391, 0, none⟩ = some (.int .i64 t386) ∧ w'.cell? ⟨gb391, 1, none⟩ = some (.slice Ao72 t387.length co72) ∧ w'.cell? (ad393.add (x16_5).toNat) = some (.int .i64 (rd x8_2 x16_5))) (ds := []) #[Z,Z,Z,Z,Z,Z,Z,Z,Z] (by kernel_rfl) rfl rfl ⟨(blk_cell BK364.out 0).trans rfl, (blk_cell BK364.out 1).trans rfl, (blk_cell BK364.out 2).trans rfl, (blk_cell BK391.out 0).trans rfl, (blk_cell BK391.out 1).trans rfl, hx393_0⟩ (fun hHeld => ?_); refine with_tabW peristylelaw32_CoverMay.tab20 peristylelaw32_CoverMay.bits20 (fun HT_ HW_ => ?_)
                  generalize wr.drew = w106 at HO_8 HO_365001 HO_365002 HO_386001 HO_392001 BK364 BK365 BK385 BK391 HB hx393_0 hHeld ⊢
                  refine pure_ (i := 1) (N := some 114) (v := ?_) (a' := ?_) #[Z,Y,Z,Z,Z,Z,Z,Z,Z] rfl rfl (any_of HT_.out (by kernel_rfl)) (fun _ _ _ h => h) (Or.inl ⟨by rfl, ?_⟩) ?_ ?_
                  rotate_left
                  ·
                   intro w'
                   go_simp
                   with_reducible rfl
                  rotate_left
                  ·
                   simp only [Act.put, List.setIfInBounds_toArray, List.set_cons_zero, List.set_cons_succ, i64_w, i32_w]
                   rfl
                  refine pure_ (i := 3) (N := some 116) (v := ?_) (a' := ?_) #[Z,Y,Z,Y,Z,Z,Z,Z,Z] rfl rfl (any_of HT_.out (by kernel_rfl)) (fun _ _ _ h => h) (Or.inl ⟨by rfl, ?_⟩) ?_ ?_
                  rotate_left
                  ·
                   intro w'
                   go_simp
                   with_reducible rfl
                  rotate_left
                  ·
                   simp only [Act.put, List.setIfInBounds_toArray, List.set_cons_zero, List.set_cons_succ, i64_w, i32_w]
                   rfl
                  refine pure_ (i := 4) (N := some 117) (v := ?_) (a' := ?_) #[Z,Y,Z,Y,Y,Z,Z,Z,Z] rfl rfl (any_of HT_.out (by kernel_rfl)) (fun _ _ _ h => h) (Or.inl ⟨by rfl, ?_⟩) ?_ ?_
                  rotate_left
                  ·
                   intro w'
                   go_simp
                   with_reducible rfl
                  rotate_left
                  ·
                   simp only [Act.put, List.setIfInBounds_toArray, List.set_cons_zero, List.set_cons_succ, i64_w, i32_w]
                   rfl
                  refine pure_ (i := 5) (N := some 118) (v := ?_) (a' := ?_) #[Z,Y,Z,Y,Y,Y,Z,Z,Z] rfl rfl (any_of HT_.out (by kernel_rfl)) (fun _ _ _ h => h) (Or.inl ⟨by rfl, ?_⟩) ?_ ?_
                  rotate_left
                  ·
                   intro w'
                   go_simp
                   with_reducible rfl
                  rotate_left
                  ·
                   simp only [Act.put, List.setIfInBounds_toArray, List.set_cons_zero, List.set_cons_succ, i64_w, i32_w]
                   rfl
                  refine take_ (i := 0) (N := some 113) (v := ?_) (a' := ?_) #[Y,Y,Z,Y,Y,Y,Z,Z,Z] rfl rfl (take_ofW HT_.out HW_.out (by kernel_rfl)) (fun _ _ _ h => h) (Or.inl ⟨by rfl, ?_⟩) hHeld ?_ ?_
                  rotate_left
                  ·
                   rintro w' ⟨s0, s1, s2, s3, s4, s5⟩
                   go_simp
                   with_reducible rfl
                  rotate_left
                  ·
                   simp only [Act.put, List.setIfInBounds_toArray, List.set_cons_zero, List.set_cons_succ, i64_w, i32_w]
                   rfl
                  refine take_ (i := 2) (N := some 115) (v := ?_) (a' := ?_) #[Y,Y,Y,Y,Y,Y,Z,Z,Z] rfl rfl (take_ofW HT_.out HW_.out (by kernel_rfl)) (fun _ _ _ h => h) (Or.inl ⟨by rfl, ?_⟩) hHeld ?_ ?_
                  rotate_left
                  ·
                   rintro w' ⟨s0, s1, s2, s3, s4, s5⟩
                   go_simp
                   with_reducible rfl
                  rotate_left
                  ·
                   simp only [Act.put, List.setIfInBounds_toArray, List.set_cons_zero, List.set_cons_succ, i64_w, i32_w]
                   rfl
                  refine take_ (i := 6) (N := some 119) (v := ?_) (a' := ?_) #[Y,Y,Y,Y,Y,Y,Y,Z,Z] rfl rfl (take_ofW HT_.out HW_.out (by kernel_rfl)) (fun _ _ _ h => h) (Or.inl ⟨by rfl, ?_⟩) hHeld ?_ ?_
                  rotate_left
                  ·
                   rintro w' ⟨s0, s1, s2, s3, s4, s5⟩
                   go_simp
                   with_reducible rfl
                  rotate_left
                  ·
                   simp only [Act.put, List.setIfInBounds_toArray, List.set_cons_zero, List.set_cons_succ, i64_w, i32_w]
                   rfl
                  refine one_ (i := 7) (N := some 120) #[Y,Y,Y,Y,Y,Y,Y,Y,Z] rfl rfl (one_of HT_.out (by kernel_rfl)) (by decide) (fun K hK => ?_)
                  refine goes_ Try.func37 (by kernel_rfl) rfl #[.agg #[.string a0_0, .slice A0_1 l0_1.length c0_1, .slice A0_2 l0_2.length c0_2], .int .i64 t386, .int .i64 (rd x8_2 x16_5)] (by rfl) rfl rfl (by (try simp only [List.map_toArray, List.map_cons, List.map_nil]); rfl) ?_
                  with_reducible refine (cover_Place.calls k5 a0_0 _ _ l0_1 _ _ l0_2 t386 (rd x8_2 x16_5) t394 _ ?side1 ?side2 ?side3 ?side4 A104.out).mono ?_
                  (case side1 => repeat (exact (Kd.V_reads' HO_365001.out).2.2))
                  (case side2 => exact (Kd.V_reads' HO_365001.out).2.1)
                  (case side3 => repeat (exact (Kd.V_reads' HO_365002.out).2.2))
                  (case side4 => exact (Kd.V_reads' HO_365002.out).2.1)
                  rintro e w107 ⟨rfl, hb⟩
                  have HS5_ := (hb.cell (World.block_lt_of_cell? _ _ (hHeld.2.2.2.2.2))).trans (hHeld.2.2.2.2.2)
                  refine ⟨_, rfl, ?_⟩
                  have n0_ := Aside0.mk (Kd.R_below HO_8.out hb)
                  have n1_ := Aside0.mk (Kd.V_below HO_365001.out hb)
                  have n2_ := Aside0.mk (Kd.V_below HO_365002.out hb)
                  have n3_ := Aside0.mk (Kd.R_below HO_386001.out hb)
                  have n4_ := Aside0.mk (Kd.R_below HO_392001.out hb)
                  have n5_ := Aside0.mk (blk_below (g := gb364) (o := .cells #[.string a0_0, .slice A0_1 l0_1.length c0_1, .slice A0_2 l0_2.length c0_2] 63 (0, 0)) BK364.out hb)
                  have n6_ := Aside0.mk (blk_below (g := gb365) (o := .cells #[.slice A1_0 l1_0.length c1_0, .slice A1_1 l1_1.length c1_1] 65 (0, 0)) BK365.out hb)
                  have n7_ := Aside0.mk (blk_below (g := gb385) (o := .cells #[.int .i64 t380, .slice Ao64 t381.length co64] 68 (0, 0)) BK385.out hb)
                  have n8_ := Aside0.mk (blk_below (g := gb391) (o := .cells #[.int .i64 t386, .slice Ao72 t387.length co72] 68 (0, 0)) BK391.out hb)
                  have n9_ := Aside0.mk (below_step HB.out hb)
                  clear HO_8
                  clear HO_365001
                  clear HO_365002
                  clear HO_386001
                  clear HO_392001
                  clear BK364
                  clear BK365
                  clear BK385
                  clear BK391
                  clear HB
                  have HO_8 := n0_
                  have HO_365001 := n1_
                  have HO_365002 := n2_
                  have HO_386001 := n3_
                  have HO_392001 := n4_
                  have BK364 := n5_
                  have BK365 := n6_
                  have BK385 := n7_
                  have BK391 := n8_
                  have HB := n9_
                  clear n0_ n1_ n2_ n3_ n4_ n5_ n6_ n7_ n8_ n9_
                  (try clear hb)
                  refine hK.out _ _ ⟨(blk_cell BK364.out 0).trans rfl, (blk_cell BK364.out 1).trans rfl, (blk_cell BK364.out 2).trans rfl, (blk_cell BK391.out 0).trans rfl, (blk_cell BK391.out 1).trans rfl, HS5_⟩ (fun hHeld => ?_)
                  clear hK K
                  refine norm_ (a' := ?_) ?_ ?_
                  rotate_left
                  ·
                   show Act.put _ (some 120) _ = _
                   simp only [Act.put, List.setIfInBounds_toArray, List.set_cons_zero, List.set_cons_succ, i64_w, i32_w]
                   rfl
                  refine pure_ (i := 8) (N := some 121) (v := ?_) (a' := ?_) #[Y,Y,Y,Y,Y,Y,Y,Y,Y] rfl rfl (any_of HT_.out (by kernel_rfl)) (fun _ _ _ h => h) (Or.inl ⟨by rfl, ?_⟩) ?_ ?_
                  rotate_left
                  ·
                   intro w'
                   go_simp
                   with_reducible rfl
                  rotate_left
                  ·
                   simp only [Act.put, List.setIfInBounds_toArray, List.set_cons_zero, List.set_cons_succ, i64_w, i32_w]
                   rfl
                  refine done_ (done_of HT_.out (by kernel_rfl)) ?_
                  try go_wp2
                  go_roundg k5
                  case measure => have := HJ3.out; have := HK2.out; have := HK3.out; have := HJ52.out; have := HK5.out; omega
                  case rel => exact ⟨(wrap64 (x16_5 + 1)), (by rfl), H', ⟨by have := HJ3.out; have := HK2.out; have := HK3.out; have := HJ52.out; have := HK5.out; omega⟩, ⟨HO_8.out⟩, ⟨HO_365001.out⟩, ⟨HO_365002.out⟩, ⟨HO_386001.out⟩, ⟨HO_392001.out⟩, ⟨BK364.out⟩, ⟨BK365.out⟩, ⟨BK385.out⟩, ⟨BK391.out⟩, ⟨HB.out⟩⟩
                ·
                 rw [if_neg c103] at H
                 exact absurd H (by simp)
               ·
                rw [if_neg c102] at H
                have c102b0 : decide (x16_5 < (x8_2.length : Int)) = false := decide_eq_false c102
                clear c102
                by_cases c108 : t384 = 0
                ·
                 rw [if_pos c108] at H
                 have c108b0 : (t384 == 0) = true := beq_iff_eq.mpr c108
                 have c108b1 : (t384 != 0) = false := bne_eq_false_iff_eq.mpr c108
                 clear c108
                 replace H := Option.bind_eq_some_iff.mp H
                 obtain ⟨t395, A1090, H⟩ := H
                 replace H : (if t395 = 0 then ((peristylelaw32_awake.f k5).bind fun t396 => (some t396)) else (none)) = some r := H
                 have A109 := Aside0.mk A1090
                 clear A1090
                 by_cases c110 : t395 = 0
                 ·
                  rw [if_pos c110] at H
                  have c110b0 : (t395 == 0) = true := beq_iff_eq.mpr c110
                  have c110b1 : (t395 != 0) = false := bne_eq_false_iff_eq.mpr c110
                  clear c110
                  replace H := Option.bind_eq_some_iff.mp H
                  obtain ⟨t396, A1110, H⟩ := H
                  replace H : (some t396) = some r := H
                  have A111 := Aside0.mk A1110
                  clear A1110
                  obtain rfl := Option.some.inj H
                  have hnb112 := NB364_365.out
                  have hnc112 := NB365_364.out
                  have hnb113 := NB364_385.out
                  have hnc113 := NB385_364.out
                  have hnb114 := NB364_391.out
                  have hnc114 := NB391_364.out
                  have hcz115_0 : wr.cell? ⟨gb364, 0, none⟩ = some (.string a0_0) := (blk_cell BK364.out 0).trans rfl
                  have hcz115_1 : wr.cell? ⟨gb364, 1, none⟩ = some (.slice A0_1 l0_1.length c0_1) := (blk_cell BK364.out 1).trans rfl
                  have hcz115_2 : wr.cell? ⟨gb364, 2, none⟩ = some (.slice A0_2 l0_2.length c0_2) := (blk_cell BK364.out 2).trans rfl
                  have hfz115_0 := blk_frozen BK364.out 0
                  have hfz115_1 := blk_frozen BK364.out 1
                  have hfz115_2 := blk_frozen BK364.out 2
                  have hnb116 := NB385_365.out
                  have hnc116 := NB365_385.out
                  have hnb117 := NB385_391.out
                  have hnc117 := NB391_385.out
                  have hcz118_0 : wr.cell? ⟨gb385, 0, none⟩ = some (.int .i64 t380) := (blk_cell BK385.out 0).trans rfl
                  have hcz118_1 : wr.cell? ⟨gb385, 1, none⟩ = some (.slice Ao64 t381.length co64) := (blk_cell BK385.out 1).trans rfl
                  have hfz118_0 := blk_frozen BK385.out 0
                  have hfz118_1 := blk_frozen BK385.out 1
                  go_wp2_with (first | (go_at_call 36; (with_reducible refine (cover_Check.calls k5 a0_0 _ _ l0_1 _ _ l0_2 _ _ x8_2 t380 _ _ t381 t395 _ ?side1 ?side2 ?side3 ?side4 ?side5 ?side6 ?side7 ?side8 A109.out).mono ?_); (case side1 => repeat (exact (Kd.V_reads' HO_365001.out).2.2)); (case side2 => exact (Kd.V_reads' HO_365001.out).2.1); (case side3 => repeat (exact (Kd.V_reads' HO_365002.out).2.2)); (case side4 => exact (Kd.V_reads' HO_365002.out).2.1); (case side5 => repeat (exact (Kd.R_reads' HO_8.out).2.2)); (case side6 => exact (Kd.R_reads' HO_8.out).2.1); (case side7 => repeat (exact (Kd.R_reads' HO_386001.out).2.2)); (case side8 => exact (Kd.R_reads' HO_386001.out).2.1); rintro e w119 ⟨rfl, hb⟩; have n0_ := Aside0.mk (Kd.R_below HO_8.out hb); have n1_ := Aside0.mk (Kd.V_below HO_365001.out hb); have n2_ := Aside0.mk (Kd.V_below HO_365002.out hb); have n3_ := Aside0.mk (Kd.R_below HO_386001.out hb); have n4_ := Aside0.mk (Kd.R_below HO_392001.out hb); have n5_ := Aside0.mk (blk_below (g := gb364) (o := .cells #[.string a0_0, .slice A0_1 l0_1.length c0_1, .slice A0_2 l0_2.length c0_2] 63 (0, 0)) BK364.out hb); have n6_ := Aside0.mk (blk_below (g := gb365) (o := .cells #[.slice A1_0 l1_0.length c1_0, .slice A1_1 l1_1.length c1_1] 65 (0, 0)) BK365.out hb); have n7_ := Aside0.mk (blk_below (g := gb385) (o := .cells #[.int .i64 t380, .slice Ao64 t381.length co64] 68 (0, 0)) BK385.out hb); have n8_ := Aside0.mk (blk_below (g := gb391) (o := .cells #[.int .i64 t386, .slice Ao72 t387.length co72] 68 (0, 0)) BK391.out hb); have n9_ := Aside0.mk (below_step HB.out hb); clear HO_8 HO_365001 HO_365002 HO_386001 HO_392001 BK364 BK365 BK385 BK391 HB; have HO_8 := n0_; have HO_365001 := n1_; have HO_365002 := n2_; have HO_386001 := n3_; have HO_392001 := n4_; have BK364 := n5_; have BK365 := n6_; have BK385 := n7_; have BK391 := n8_; have HB := n9_; clear n0_ n1_ n2_ n3_ n4_ n5_ n6_ n7_ n8_ n9_; (try clear hb)) | (go_at_call 31; (with_reducible refine (peristylelaw32_awake.calls k5  t396 _ A111.out).mono ?_); rintro e w120 ⟨rfl, hb⟩; have n0_ := Aside0.mk (Kd.R_below HO_8.out hb); have n1_ := Aside0.mk (Kd.V_below HO_365001.out hb); have n2_ := Aside0.mk (Kd.V_below HO_365002.out hb); have n3_ := Aside0.mk (Kd.R_below HO_386001.out hb); have n4_ := Aside0.mk (Kd.R_below HO_392001.out hb); have n5_ := Aside0.mk (blk_below (g := gb364) (o := .cells #[.string a0_0, .slice A0_1 l0_1.length c0_1, .slice A0_2 l0_2.length c0_2] 63 (0, 0)) BK364.out hb); have n6_ := Aside0.mk (blk_below (g := gb365) (o := .cells #[.slice A1_0 l1_0.length c1_0, .slice A1_1 l1_1.length c1_1] 65 (0, 0)) BK365.out hb); have n7_ := Aside0.mk (blk_below (g := gb385) (o := .cells #[.int .i64 t380, .slice Ao64 t381.length co64] 68 (0, 0)) BK385.out hb); have n8_ := Aside0.mk (blk_below (g := gb391) (o := .cells #[.int .i64 t386, .slice Ao72 t387.length co72] 68 (0, 0)) BK391.out hb); have n9_ := Aside0.mk (below_step HB.out hb); clear HO_8 HO_365001 HO_365002 HO_386001 HO_392001 BK364 BK365 BK385 BK391 HB; have HO_8 := n0_; have HO_365001 := n1_; have HO_365002 := n2_; have HO_386001 := n3_; have HO_392001 := n4_; have BK364 := n5_; have BK365 := n6_; have BK385 := n7_; have BK391 := n8_; have HB := n9_; clear n0_ n1_ n2_ n3_ n4_ n5_ n6_ n7_ n8_ n9_; (try clear hb)))
                  go_ret
                  exact ⟨by rfl, by repeat exact HB.out⟩
                 ·
                  rw [if_neg c110] at H
                  exact absurd H (by simp)
                ·
                 rw [if_neg c108] at H
                 have c108b0 : (t384 == 0) = false := beq_eq_false_iff_ne.mpr c108
                 have c108b1 : (t384 != 0) = true := bne_iff_ne.mpr c108
                 replace H := Option.bind_eq_some_iff.mp H
                 obtain ⟨t397, A1210, H⟩ := H
                 replace H : (some t397) = some r := H
                 have A121 := Aside0.mk A1210
                 clear A1210
                 obtain rfl := Option.some.inj H
                 go_wp2_with ((go_at_call 31; (with_reducible refine (peristylelaw32_awake.calls k5  t397 _ A121.out).mono ?_); rintro e w122 ⟨rfl, hb⟩; have n0_ := Aside0.mk (Kd.R_below HO_8.out hb); have n1_ := Aside0.mk (Kd.V_below HO_365001.out hb); have n2_ := Aside0.mk (Kd.V_below HO_365002.out hb); have n3_ := Aside0.mk (Kd.R_below HO_386001.out hb); have n4_ := Aside0.mk (Kd.R_below HO_392001.out hb); have n5_ := Aside0.mk (blk_below (g := gb364) (o := .cells #[.string a0_0, .slice A0_1 l0_1.length c0_1, .slice A0_2 l0_2.length c0_2] 63 (0, 0)) BK364.out hb); have n6_ := Aside0.mk (blk_below (g := gb365) (o := .cells #[.slice A1_0 l1_0.length c1_0, .slice A1_1 l1_1.length c1_1] 65 (0, 0)) BK365.out hb); have n7_ := Aside0.mk (blk_below (g := gb385) (o := .cells #[.int .i64 t380, .slice Ao64 t381.length co64] 68 (0, 0)) BK385.out hb); have n8_ := Aside0.mk (blk_below (g := gb391) (o := .cells #[.int .i64 t386, .slice Ao72 t387.length co72] 68 (0, 0)) BK391.out hb); have n9_ := Aside0.mk (below_step HB.out hb); clear HO_8 HO_365001 HO_365002 HO_386001 HO_392001 BK364 BK365 BK385 BK391 HB; have HO_8 := n0_; have HO_365001 := n1_; have HO_365002 := n2_; have HO_386001 := n3_; have HO_392001 := n4_; have BK364 := n5_; have BK365 := n6_; have BK385 := n7_; have BK391 := n8_; have HB := n9_; clear n0_ n1_ n2_ n3_ n4_ n5_ n6_ n7_ n8_ n9_; (try clear hb)))
                 go_ret
                 exact ⟨by rfl, by repeat exact HB.out⟩
/-- THE ONE PURE STATEMENT of peristylelaw32_CoverMay: yours. -/
def peristylelaw32_CoverMay.Pure : Prop := ∀ (a0_0 : ByteArray) (l0_1 : List (S177)) (l0_2 : List (S138)) (l1_0 : List Int) (l1_1 : List Int) (l2 : List ByteArray), a0_0.size ≤ maxLen → l0_1.length ≤ maxLen → (∀ x ∈ l0_1, (x.f0.size ≤ maxLen) ∧ ((Lit.int .i64 x.f1).wf = true) ∧ (True)) → l0_2.length ≤ maxLen → (∀ x ∈ l0_2, (x.f0.size ≤ maxLen) ∧ (x.f1.length ≤ maxLen ∧ ∀ x_ ∈ x.f1, (Lit.int .i64 x_).wf = true) ∧ ((Lit.int .i64 x.f2).wf = true)) → l1_0.length ≤ maxLen → (∀ x ∈ l1_0, (Lit.int .i64 x).wf = true) → l1_1.length ≤ maxLen → (∀ x ∈ l1_1, (Lit.int .i64 x).wf = true) → l2.length ≤ maxLen → (∀ x ∈ l2, x.size ≤ maxLen) → ∃ k, peristylelaw32_CoverMay.f k a0_0 l0_1 l0_2 l1_0 l1_1 l2 = some true
theorem peristylelaw32_CoverMay.walk (P : peristylelaw32_CoverMay.Pure) (a0_0 : ByteArray) (A0_1 : Option Addr) (c0_1 : Nat) (l0_1 : List (S177)) (A0_2 : Option Addr) (c0_2 : Nat) (l0_2 : List (S138)) (A1_0 : Option Addr) (c1_0 : Nat) (l1_0 : List Int) (A1_1 : Option Addr) (c1_1 : Nat) (l1_1 : List Int) (a2 : Option Addr) (cap2 : Nat) (l2 : List ByteArray) (w : World) (w0_0 : a0_0.size ≤ maxLen) (r0_1 : Kd.C k177 w A0_1 l0_1.length l0_1) (q0_1 : l0_1.length ≤ c0_1) (m0_1 : l0_1.length ≤ maxLen) (g0_1 : ∀ x ∈ l0_1, (x.f0.size ≤ maxLen) ∧ ((Lit.int .i64 x.f1).wf = true) ∧ (True)) (r0_2 : Kd.C k138 w A0_2 l0_2.length l0_2) (q0_2 : l0_2.length ≤ c0_2) (m0_2 : l0_2.length ≤ maxLen) (g0_2 : ∀ x ∈ l0_2, (x.f0.size ≤ maxLen) ∧ (x.f1.length ≤ maxLen ∧ ∀ x_ ∈ x.f1, (Lit.int .i64 x_).wf = true) ∧ ((Lit.int .i64 x.f2).wf = true)) (r1_0 : Kd.C (Kd.int .i64) w A1_0 l1_0.length l1_0) (q1_0 : l1_0.length ≤ c1_0) (m1_0 : l1_0.length ≤ maxLen) (g1_0 : ∀ x ∈ l1_0, (Lit.int .i64 x).wf = true) (r1_1 : Kd.C (Kd.int .i64) w A1_1 l1_1.length l1_1) (q1_1 : l1_1.length ≤ c1_1) (m1_1 : l1_1.length ≤ maxLen) (g1_1 : ∀ x ∈ l1_1, (Lit.int .i64 x).wf = true) (r2 : Kd.C Kd.string w a2 l2.length l2) (q2 : l2.length ≤ cap2) (m2 : l2.length ≤ maxLen) (g2 : ∀ x ∈ l2, x.size ≤ maxLen) :
  Calls Try.prog 8 #[.agg #[.string a0_0, .slice A0_1 l0_1.length c0_1, .slice A0_2 l0_2.length c0_2], .agg #[.slice A1_0 l1_0.length c1_0, .slice A1_1 l1_1.length c1_1], .slice a2 l2.length cap2] w fun e w' => e = .returned (.bool true) ∧ Below w.heap.size w w' := by
 obtain ⟨k, h⟩ := P a0_0 l0_1 l0_2 l1_0 l1_1 l2 w0_0 m0_1 g0_1 m0_2 g0_2 m1_0 g1_0 m1_1 g1_1 m2 g2
 refine (peristylelaw32_CoverMay.calls k a0_0 (fun k_ => k_ < _) _ _ l0_1 (fun k_ => k_ < _) _ _ l0_2 _ _ l1_0 _ _ l1_1 _ _ l2 true w (Kd.V_mk q0_1 (Kd.C_F k177_heap r0_1)) (Kd.V_mk q0_2 (Kd.C_F k138_heap r0_2)) r1_0 q1_0 r1_1 q1_1 r2 q2 h).mono ?_
 rintro e w' ⟨rfl, hd⟩
 exact ⟨rfl, hd⟩
end Go.Proofs.Ytgjclhhjigflkab.C
