-- written by mkprint.py, a program of this session, over the kit's printer
import Derived.Test.YtgjclhhjigflkabCx0
import Derived.Test.YtgjclhhjigflkabCx1
import Derived.Test.YtgjclhhjigflkabCx5
import Derived.Test.YtgjclhhjigflkabCx6
import Derived.Test.YtgjclhhjigflkabCvManual
namespace Go.Proofs.Ytgjclhhjigflkab.C
open Go.RowKit Go.Proofs.YtgjclhhjigflkabW.PrintWords Go.Proofs.YtgjclhhjigflkabW.PrintLast Go.Proofs.YtgjclhhjigflkabW.PrintMore
attribute [local go_sem] max2_int min2_int max_two min_two max_three min_three max_four min_four   -- for this text's walks alone
set_option linter.unusedVariables false
set_option linter.unusedSimpArgs false
/-! ### peristylelaw32_CoverChooses: function 7 -/
def peristylelaw32_CoverChooses.j0 : Nat → List ByteArray → Bool → ByteArray → List (S177) → List (S138) → List Int → List Int → Option (Bool)
 | 0, _, _, _, _, _, _, _ => none
 | k + 1, x2, x22, x347000, x347001, x347002, x348000, x348001 => if x22 = true then ((peristylelaw32_awake.f k).bind fun t349 => (some t349)) else ((cover_Choose.f k x347000 x347001 x347002 x348000 x348001 x2).bind fun bt350 => ((peristyleref32_Choose.f k x347000 x347001 x347002 x348000 x348001 x2).bind fun bt356 => (if bt350.1 = bt356.1 then ((peristyleref01_Same.f k bt350.2.1 bt356.2.1).bind fun t362 => (if t362 = true then (if bt350.2.2 = bt356.2.2 then ((peristylelaw32_awake.f k).bind fun t363 => (some t363)) else (none)) else (none))) else (none))))
def peristylelaw32_CoverChooses.f (k : Nat) (a0_0 : ByteArray) (l0_1 : List (S177)) (l0_2 : List (S138)) (l1_0 : List Int) (l1_1 : List Int) (l2 : List ByteArray) : Option (Bool) := (peristylelaw32_light.f k a0_0 l0_1 l0_2 l1_0 l2).bind fun t348 => (if t348 = true then (peristylelaw32_CoverChooses.j0 k l2 (decide ((l1_1.length : Int) > 20)) a0_0 l0_1 l0_2 l1_0 l1_1) else (peristylelaw32_CoverChooses.j0 k l2 true a0_0 l0_1 l0_2 l1_0 l1_1))
set_option maxHeartbeats 8000000 in
set_option maxRecDepth 100000 in
theorem peristylelaw32_CoverChooses.calls (k : Nat) (a0_0 : ByteArray) (A0_1 : Option Addr) (c0_1 : Nat) (l0_1 : List (S177)) (A0_2 : Option Addr) (c0_2 : Nat) (l0_2 : List (S138)) (A1_0 : Option Addr) (c1_0 : Nat) (l1_0 : List Int) (A1_1 : Option Addr) (c1_1 : Nat) (l1_1 : List Int) (A2 : Option Addr) (c2 : Nat) (l2 : List ByteArray) (r : Bool) (w : World) (hr0_1 : Kd.C k177 w A0_1 l0_1.length l0_1) (hc0_1 : l0_1.length ≤ c0_1) (hr0_2 : Kd.C k138 w A0_2 l0_2.length l0_2) (hc0_2 : l0_2.length ≤ c0_2) (hr1_0 : Kd.C (Kd.int .i64) w A1_0 l1_0.length l1_0) (hc1_0 : l1_0.length ≤ c1_0) (hr1_1 : Kd.C (Kd.int .i64) w A1_1 l1_1.length l1_1) (hc1_1 : l1_1.length ≤ c1_1) (hr2 : Kd.C Kd.string w A2 l2.length l2) (hc2 : l2.length ≤ c2) (h : peristylelaw32_CoverChooses.f k a0_0 l0_1 l0_2 l1_0 l1_1 l2 = some r) :
  Calls Try.prog 7 #[.agg #[.string a0_0, .slice A0_1 l0_1.length c0_1, .slice A0_2 l0_2.length c0_2], .agg #[.slice A1_0 l1_0.length c1_0, .slice A1_1 l1_1.length c1_1], .slice A2 l2.length c2] w fun e w' => e = .returned (.bool r) ∧ Below w.heap.size w w' := by
 have hu63 := Try.underlying63
 have hu65 := Try.underlying65
 have hu68 := Try.underlying68
 have HR0_1 := Aside0.mk hr0_1
 have HC0_1 := Aside0.mk hc0_1
 clear hr0_1 hc0_1
 have HR0_2 := Aside0.mk hr0_2
 have HC0_2 := Aside0.mk hc0_2
 clear hr0_2 hc0_2
 have HR1_0 := Aside0.mk hr1_0
 have HC1_0 := Aside0.mk hc1_0
 clear hr1_0 hc1_0
 have HR1_1 := Aside0.mk hr1_1
 have HC1_1 := Aside0.mk hc1_1
 clear hr1_1 hc1_1
 have HR2 := Aside0.mk hr2
 have HC2 := Aside0.mk hc2
 clear hr2 hc2
 have HB := Aside0.mk (Below.refl w.heap.size w)
 have H : ((peristylelaw32_light.f k a0_0 l0_1 l0_2 l1_0 l2).bind fun t348 => (if t348 = true then (peristylelaw32_CoverChooses.j0 k l2 (decide ((l1_1.length : Int) > 20)) a0_0 l0_1 l0_2 l1_0 l1_1) else (peristylelaw32_CoverChooses.j0 k l2 true a0_0 l0_1 l0_2 l1_0 l1_1))) = some r := h
 clear h
 have HC4 := Aside0.mk H
 clear H
 go_enter Try.func7, Try.ntmps7
 go_upto_region 1 with (first | ((with_reducible refine gate_dst (N := 3) rfl ?_); (try (refine gate_guard (by rfl) ?_; dsimp only)); refine box_event ?hg (N := 3) ?hd (cs := #[.string a0_0, .slice A0_1 l0_1.length c0_1, .slice A0_2 l0_2.length c0_2]) (t := 63) ?hr ?_; (case hd => rfl); (case hg => rfl); (case hr => (go_simp; done)); intro gb346 hg w5 hbox hb; have n0_ := Aside0.mk (below_step HB.out hb); have n1_ := Aside0.mk (hbox); have n2_ := Aside0.mk ((by rw [hg]; exact (below_size HB.out) : w.heap.size ≤ gb346)); have n3_ := Aside0.mk ((by rw [hg]; exact (below_size HB.out) : w.heap.size ≤ gb346)); clear HB; have HB := n0_; have BK346 := n1_; have GW346 := n2_; have GE346 := n3_; clear n0_ n1_ n2_ n3_ hb hbox hg) | ((with_reducible refine gate_dst (N := 4) rfl ?_); (try (refine gate_guard (by rfl) ?_; dsimp only)); refine box_event ?hg (N := 4) ?hd (cs := #[.slice A1_0 l1_0.length c1_0, .slice A1_1 l1_1.length c1_1]) (t := 65) ?hr ?_; (case hd => rfl); (case hg => rfl); (case hr => (go_simp; done)); intro gb347 hg w6 hbox hb; have n0_ := Aside0.mk (blk_below (g := gb346) (o := .cells #[.string a0_0, .slice A0_1 l0_1.length c0_1, .slice A0_2 l0_2.length c0_2] 63 (0, 0)) BK346.out hb); have n1_ := Aside0.mk (below_step HB.out hb); have n2_ := Aside0.mk (hbox); have n3_ := Aside0.mk ((by rw [hg]; exact (below_size HB.out) : w.heap.size ≤ gb347)); have n4_ := Aside0.mk ((by rw [hg]; exact (below_size HB.out) : w.heap.size ≤ gb347)); have n5_ := Aside0.mk ((by rw [hg]; exact Nat.ne_of_lt (blk_lt (g := gb346) (o := .cells #[.string a0_0, .slice A0_1 l0_1.length c0_1, .slice A0_2 l0_2.length c0_2] 63 (0, 0)) BK346.out) : gb346 ≠ gb347)); have n6_ := Aside0.mk ((by rw [hg]; exact Nat.ne_of_gt (blk_lt (g := gb346) (o := .cells #[.string a0_0, .slice A0_1 l0_1.length c0_1, .slice A0_2 l0_2.length c0_2] 63 (0, 0)) BK346.out) : gb347 ≠ gb346)); clear BK346 HB; have BK346 := n0_; have HB := n1_; have BK347 := n2_; have GW347 := n3_; have GE347 := n4_; have NB346_347 := n5_; have NB347_346 := n6_; clear n0_ n1_ n2_ n3_ n4_ n5_ n6_ hb hbox hg))
 go_cut [22] (fun v22 wc => ∃ (kq : Nat) (x22_3 : Bool), v22 = .bool x22_3 ∧ Aside0 (peristylelaw32_CoverChooses.j0 kq l2 x22_3 a0_0 l0_1 l0_2 l1_0 l1_1 = some r) ∧ Aside0 (kq ≤ k) ∧ Aside0 (wc.heap[gb346]? = some (.cells #[.string a0_0, (.slice A0_1 l0_1.length c0_1), (.slice A0_2 l0_2.length c0_2)] 63 (0, 0))) ∧ Aside0 (wc.heap[gb347]? = some (.cells #[(.slice A1_0 l1_0.length c1_0), (.slice A1_1 l1_1.length c1_1)] 65 (0, 0))) ∧ Aside0 (Below w.heap.size w wc))
 case first =>
  have H := HC4.out
  clear HC4
  replace H := Option.bind_eq_some_iff.mp H
  obtain ⟨t348, A70, H⟩ := H
  replace H : (if t348 = true then (peristylelaw32_CoverChooses.j0 k l2 (decide ((l1_1.length : Int) > 20)) a0_0 l0_1 l0_2 l1_0 l1_1) else (peristylelaw32_CoverChooses.j0 k l2 true a0_0 l0_1 l0_2 l1_0 l1_1)) = some r := H
  have A7 := Aside0.mk A70
  clear A70
  by_cases c8 : t348 = true
  ·
   subst c8
   have H1 : (peristylelaw32_CoverChooses.j0 k l2 (decide ((l1_1.length : Int) > 20)) a0_0 l0_1 l0_2 l1_0 l1_1) = some r := by rw [if_pos rfl] at H; exact H
   clear H
   have H := H1
   clear H1
   have H' := Aside0.mk H
   clear H
   have hnb9 := NB346_347.out
   have hnc9 := NB347_346.out
   have hcz10_0 : w6.cell? ⟨gb346, 0, none⟩ = some (.string a0_0) := (blk_cell BK346.out 0).trans rfl
   have hcz10_1 : w6.cell? ⟨gb346, 1, none⟩ = some (.slice A0_1 l0_1.length c0_1) := (blk_cell BK346.out 1).trans rfl
   have hcz10_2 : w6.cell? ⟨gb346, 2, none⟩ = some (.slice A0_2 l0_2.length c0_2) := (blk_cell BK346.out 2).trans rfl
   have hfz10_0 := blk_frozen BK346.out 0
   have hfz10_1 := blk_frozen BK346.out 1
   have hfz10_2 := blk_frozen BK346.out 2
   have hcz11_0 : w6.cell? ⟨gb347, 0, none⟩ = some (.slice A1_0 l1_0.length c1_0) := (blk_cell BK347.out 0).trans rfl
   have hcz11_1 : w6.cell? ⟨gb347, 1, none⟩ = some (.slice A1_1 l1_1.length c1_1) := (blk_cell BK347.out 1).trans rfl
   have hfz11_0 := blk_frozen BK347.out 0
   have hfz11_1 := blk_frozen BK347.out 1
   go_wp2_with (((with_reducible refine gate_callee (f := 30) rfl ?_); refine goesL_ (some 15) rfl rfl Try.func30 (by kernel_rfl) rfl #[.agg #[.string a0_0, .slice A0_1 l0_1.length c0_1, .slice A0_2 l0_2.length c0_2], .slice A1_0 l1_0.length c1_0, .slice A2 l2.length c2] rfl (by (try simp only [List.map_toArray, List.map_cons, List.map_nil]); rfl) ?_; (with_reducible refine (peristylelaw32_light.calls k a0_0 (fun k_ => k_ < w.heap.size) _ _ l0_1 (fun k_ => k_ < w.heap.size) _ _ l0_2 _ _ l1_0 _ _ l2 true _ ?side1 ?side2 ?side3 ?side4 ?side5 ?side6 A7.out).mono ?_); (case side1 => exact Kd.V_mk HC0_1.out (Kd.F_below (Kd.C_F k177_heap HR0_1.out) HB.out)); (case side2 => exact Kd.V_mk HC0_2.out (Kd.F_below (Kd.C_F k138_heap HR0_2.out) HB.out)); (case side3 => repeat (exact (Kd.C_below HR1_0.out HB.out))); (case side4 => exact HC1_0.out); (case side5 => repeat (exact (Kd.C_below HR2.out HB.out))); (case side6 => exact HC2.out); rintro e w12 ⟨rfl, hb⟩; refine ⟨_, rfl, ?_⟩; have n0_ := Aside0.mk (blk_below (g := gb346) (o := .cells #[.string a0_0, .slice A0_1 l0_1.length c0_1, .slice A0_2 l0_2.length c0_2] 63 (0, 0)) BK346.out hb); have n1_ := Aside0.mk (blk_below (g := gb347) (o := .cells #[.slice A1_0 l1_0.length c1_0, .slice A1_1 l1_1.length c1_1] 65 (0, 0)) BK347.out hb); have n2_ := Aside0.mk (below_step HB.out hb); clear BK346 BK347 HB; have BK346 := n0_; have BK347 := n1_; have HB := n2_; clear n0_ n1_ n2_; (try clear hb); have hcz13_0 : w12.cell? ⟨gb347, 0, none⟩ = some (.slice A1_0 l1_0.length c1_0) := (blk_cell BK347.out 0).trans rfl; have hcz13_1 : w12.cell? ⟨gb347, 1, none⟩ = some (.slice A1_1 l1_1.length c1_1) := (blk_cell BK347.out 1).trans rfl; have hfz13_0 := blk_frozen BK347.out 0; have hfz13_1 := blk_frozen BK347.out 1))
   go_meet
   case rel => exact ⟨_, (decide ((l1_1.length : Int) > 20)), (by rfl), H', ⟨by omega⟩, ⟨BK346.out⟩, ⟨BK347.out⟩, ⟨HB.out⟩⟩
  ·
   replace c8 := Bool.eq_false_iff.mpr c8
   subst c8
   have H1 : (peristylelaw32_CoverChooses.j0 k l2 true a0_0 l0_1 l0_2 l1_0 l1_1) = some r := by rw [if_neg (show ¬ (false = true) by decide)] at H; exact H
   clear H
   have H := H1
   clear H1
   have H' := Aside0.mk H
   clear H
   have hnb14 := NB346_347.out
   have hnc14 := NB347_346.out
   have hcz15_0 : w6.cell? ⟨gb346, 0, none⟩ = some (.string a0_0) := (blk_cell BK346.out 0).trans rfl
   have hcz15_1 : w6.cell? ⟨gb346, 1, none⟩ = some (.slice A0_1 l0_1.length c0_1) := (blk_cell BK346.out 1).trans rfl
   have hcz15_2 : w6.cell? ⟨gb346, 2, none⟩ = some (.slice A0_2 l0_2.length c0_2) := (blk_cell BK346.out 2).trans rfl
   have hfz15_0 := blk_frozen BK346.out 0
   have hfz15_1 := blk_frozen BK346.out 1
   have hfz15_2 := blk_frozen BK346.out 2
   have hcz16_0 : w6.cell? ⟨gb347, 0, none⟩ = some (.slice A1_0 l1_0.length c1_0) := (blk_cell BK347.out 0).trans rfl
   have hcz16_1 : w6.cell? ⟨gb347, 1, none⟩ = some (.slice A1_1 l1_1.length c1_1) := (blk_cell BK347.out 1).trans rfl
   have hfz16_0 := blk_frozen BK347.out 0
   have hfz16_1 := blk_frozen BK347.out 1
   go_wp2_with (((with_reducible refine gate_callee (f := 30) rfl ?_); refine goesL_ (some 15) rfl rfl Try.func30 (by kernel_rfl) rfl #[.agg #[.string a0_0, .slice A0_1 l0_1.length c0_1, .slice A0_2 l0_2.length c0_2], .slice A1_0 l1_0.length c1_0, .slice A2 l2.length c2] rfl (by (try simp only [List.map_toArray, List.map_cons, List.map_nil]); rfl) ?_; (with_reducible refine (peristylelaw32_light.calls k a0_0 (fun k_ => k_ < w.heap.size) _ _ l0_1 (fun k_ => k_ < w.heap.size) _ _ l0_2 _ _ l1_0 _ _ l2 false _ ?side1 ?side2 ?side3 ?side4 ?side5 ?side6 A7.out).mono ?_); (case side1 => exact Kd.V_mk HC0_1.out (Kd.F_below (Kd.C_F k177_heap HR0_1.out) HB.out)); (case side2 => exact Kd.V_mk HC0_2.out (Kd.F_below (Kd.C_F k138_heap HR0_2.out) HB.out)); (case side3 => repeat (exact (Kd.C_below HR1_0.out HB.out))); (case side4 => exact HC1_0.out); (case side5 => repeat (exact (Kd.C_below HR2.out HB.out))); (case side6 => exact HC2.out); rintro e w17 ⟨rfl, hb⟩; refine ⟨_, rfl, ?_⟩; have n0_ := Aside0.mk (blk_below (g := gb346) (o := .cells #[.string a0_0, .slice A0_1 l0_1.length c0_1, .slice A0_2 l0_2.length c0_2] 63 (0, 0)) BK346.out hb); have n1_ := Aside0.mk (blk_below (g := gb347) (o := .cells #[.slice A1_0 l1_0.length c1_0, .slice A1_1 l1_1.length c1_1] 65 (0, 0)) BK347.out hb); have n2_ := Aside0.mk (below_step HB.out hb); clear BK346 BK347 HB; have BK346 := n0_; have BK347 := n1_; have HB := n2_; clear n0_ n1_ n2_; (try clear hb)))
   go_meet
   case rel => exact ⟨_, (true), (by rfl), H', ⟨by omega⟩, ⟨BK346.out⟩, ⟨BK347.out⟩, ⟨HB.out⟩⟩
 case rest =>
  clear HC4
  obtain ⟨kq, x22_3, rfl, HA, HJ3, BK346, BK347, HB⟩ := hcut
  cases kq with
  | zero => exact absurd HA.out (by simp [peristylelaw32_CoverChooses.j0])
  | succ kj3 =>
   have H := HA.out
   clear HA
   simp only [peristylelaw32_CoverChooses.j0] at H
   by_cases c18 : x22_3 = true
   ·
    subst c18
    have H1 : ((peristylelaw32_awake.f kj3).bind fun t349 => (some t349)) = some r := by rw [if_pos rfl] at H; exact H
    clear H
    have H := H1
    clear H1
    replace H := Option.bind_eq_some_iff.mp H
    obtain ⟨t349, A190, H⟩ := H
    replace H : (some t349) = some r := H
    have A19 := Aside0.mk A190
    clear A190
    obtain rfl := Option.some.inj H
    go_wp2_with (((with_reducible refine gate_callee (f := 31) rfl ?_); refine goesL_ (some 23) rfl rfl Try.func31 (by kernel_rfl) rfl #[] rfl (by (try simp only [List.map_toArray, List.map_cons, List.map_nil]); done) ?_; (with_reducible refine (peristylelaw32_awake.calls kj3  t349 _ A19.out).mono ?_); rintro e w20 ⟨rfl, hb⟩; refine ⟨_, rfl, ?_⟩; have n0_ := Aside0.mk (blk_below (g := gb346) (o := .cells #[.string a0_0, .slice A0_1 l0_1.length c0_1, .slice A0_2 l0_2.length c0_2] 63 (0, 0)) BK346.out hb); have n1_ := Aside0.mk (blk_below (g := gb347) (o := .cells #[.slice A1_0 l1_0.length c1_0, .slice A1_1 l1_1.length c1_1] 65 (0, 0)) BK347.out hb); have n2_ := Aside0.mk (below_step HB.out hb); clear BK346 BK347 HB; have BK346 := n0_; have BK347 := n1_; have HB := n2_; clear n0_ n1_ n2_; (try clear hb)))
    go_ret
    exact ⟨by rfl, by repeat exact HB.out⟩
   ·
    replace c18 := Bool.eq_false_iff.mpr c18
    subst c18
    have H1 : ((cover_Choose.f kj3 a0_0 l0_1 l0_2 l1_0 l1_1 l2).bind fun bt350 => ((peristyleref32_Choose.f kj3 a0_0 l0_1 l0_2 l1_0 l1_1 l2).bind fun bt356 => (if bt350.1 = bt356.1 then ((peristyleref01_Same.f kj3 bt350.2.1 bt356.2.1).bind fun t362 => (if t362 = true then (if bt350.2.2 = bt356.2.2 then ((peristylelaw32_awake.f kj3).bind fun t363 => (some t363)) else (none)) else (none))) else (none)))) = some r := by rw [if_neg (show ¬ (false = true) by decide)] at H; exact H
    clear H
    have H := H1
    clear H1
    replace H := Option.bind_eq_some_iff.mp H
    obtain ⟨⟨t350, t351, t354⟩, A210, H⟩ := H
    replace H : ((peristyleref32_Choose.f kj3 a0_0 l0_1 l0_2 l1_0 l1_1 l2).bind fun bt356 => (if t350 = bt356.1 then ((peristyleref01_Same.f kj3 t351 bt356.2.1).bind fun t362 => (if t362 = true then (if t354 = bt356.2.2 then ((peristylelaw32_awake.f kj3).bind fun t363 => (some t363)) else (none)) else (none))) else (none))) = some r := H
    have A21 := Aside0.mk A210
    clear A210
    replace H := Option.bind_eq_some_iff.mp H
    obtain ⟨⟨t356, t357, t360⟩, A220, H⟩ := H
    replace H : (if t350 = t356 then ((peristyleref01_Same.f kj3 t351 t357).bind fun t362 => (if t362 = true then (if t354 = t360 then ((peristylelaw32_awake.f kj3).bind fun t363 => (some t363)) else (none)) else (none))) else (none)) = some r := H
    have A22 := Aside0.mk A220
    clear A220
    by_cases c23 : t350 = t356
    ·
     rw [if_pos c23] at H
     have c23b0 : (t350 == t356) = true := beq_iff_eq.mpr c23
     have c23b1 : (t350 != t356) = false := bne_eq_false_iff_eq.mpr c23
     clear c23
     replace H := Option.bind_eq_some_iff.mp H
     obtain ⟨t362, A240, H⟩ := H
     replace H : (if t362 = true then (if t354 = t360 then ((peristylelaw32_awake.f kj3).bind fun t363 => (some t363)) else (none)) else (none)) = some r := H
     have A24 := Aside0.mk A240
     clear A240
     by_cases c25 : t362 = true
     ·
      subst c25
      have H1 : (if t354 = t360 then ((peristylelaw32_awake.f kj3).bind fun t363 => (some t363)) else (none)) = some r := by rw [if_pos rfl] at H; exact H
      clear H
      have H := H1
      clear H1
      by_cases c26 : t354 = t360
      ·
       rw [if_pos c26] at H
       have c26b0 : (t354 == t360) = true := beq_iff_eq.mpr c26
       have c26b1 : (t354 != t360) = false := bne_eq_false_iff_eq.mpr c26
       clear c26
       replace H := Option.bind_eq_some_iff.mp H
       obtain ⟨t363, A270, H⟩ := H
       replace H : (some t363) = some r := H
       have A27 := Aside0.mk A270
       clear A270
       obtain rfl := Option.some.inj H
       have hnb28 := NB346_347.out
       have hnc28 := NB347_346.out
       have hcz29_0 : wc.cell? ⟨gb346, 0, none⟩ = some (.string a0_0) := (blk_cell BK346.out 0).trans rfl
       have hcz29_1 : wc.cell? ⟨gb346, 1, none⟩ = some (.slice A0_1 l0_1.length c0_1) := (blk_cell BK346.out 1).trans rfl
       have hcz29_2 : wc.cell? ⟨gb346, 2, none⟩ = some (.slice A0_2 l0_2.length c0_2) := (blk_cell BK346.out 2).trans rfl
       have hfz29_0 := blk_frozen BK346.out 0
       have hfz29_1 := blk_frozen BK346.out 1
       have hfz29_2 := blk_frozen BK346.out 2
       have hcz30_0 : wc.cell? ⟨gb347, 0, none⟩ = some (.slice A1_0 l1_0.length c1_0) := (blk_cell BK347.out 0).trans rfl
       have hcz30_1 : wc.cell? ⟨gb347, 1, none⟩ = some (.slice A1_1 l1_1.length c1_1) := (blk_cell BK347.out 1).trans rfl
       have hfz30_0 := blk_frozen BK347.out 0
       have hfz30_1 := blk_frozen BK347.out 1
       go_wp2_with (first | ((with_reducible refine gate_callee (f := 32) rfl ?_); refine goesL_ (some 31) rfl rfl Try.func32 (by kernel_rfl) rfl #[.agg #[.string a0_0, .slice A0_1 l0_1.length c0_1, .slice A0_2 l0_2.length c0_2], .slice A1_0 l1_0.length c1_0, .slice A1_1 l1_1.length c1_1, .slice A2 l2.length c2] rfl (by (try simp only [List.map_toArray, List.map_cons, List.map_nil]); rfl) ?_; (with_reducible refine (cover_Choose.calls kj3 a0_0 _ _ l0_1 _ _ l0_2 _ _ l1_0 _ _ l1_1 _ _ l2 t350 t351 t354 _ ?side1 ?side2 ?side3 ?side4 ?side5 ?side6 ?side7 ?side8 ?side9 ?side10 A21.out).mono ?_); (case side1 => repeat (exact (Kd.C_below HR0_1.out HB.out))); (case side2 => exact HC0_1.out); (case side3 => repeat (exact (Kd.C_below HR0_2.out HB.out))); (case side4 => exact HC0_2.out); (case side5 => repeat (exact (Kd.C_below HR1_0.out HB.out))); (case side6 => exact HC1_0.out); (case side7 => repeat (exact (Kd.C_below HR1_1.out HB.out))); (case side8 => exact HC1_1.out); (case side9 => repeat (exact (Kd.C_below HR2.out HB.out))); (case side10 => exact HC2.out); rintro e w31 ⟨v352, rfl, ho0, hb⟩; refine ⟨_, rfl, ?_⟩; have n0_ := Aside0.mk (Kd.R_lower ho0 (below_size HB.out)); have n1_ := Aside0.mk (blk_below (g := gb346) (o := .cells #[.string a0_0, .slice A0_1 l0_1.length c0_1, .slice A0_2 l0_2.length c0_2] 63 (0, 0)) BK346.out hb); have n2_ := Aside0.mk (blk_below (g := gb347) (o := .cells #[.slice A1_0 l1_0.length c1_0, .slice A1_1 l1_1.length c1_1] 65 (0, 0)) BK347.out hb); have n3_ := Aside0.mk (below_step HB.out hb); clear BK346 BK347 HB; have HO353 := n0_; have BK346 := n1_; have BK347 := n2_; have HB := n3_; clear n0_ n1_ n2_ n3_; (try clear hb); (try clear ho0)) | ((with_reducible refine gate_dst (N := 7) rfl ?_); (try (refine gate_guard (by rfl) ?_; dsimp only)); refine box_event ?hg (N := 7) ?hd (cs := #[.int .i64 0, .slice none 0 0]) (t := 68) ?hr ?_; (case hd => rfl); (case hg => rfl); (case hr => (go_simp; done)); intro gb355 hg w32 hbox hb; have n0_ := Aside0.mk (Kd.R_below HO353.out hb); have n1_ := Aside0.mk (blk_below (g := gb346) (o := .cells #[.string a0_0, .slice A0_1 l0_1.length c0_1, .slice A0_2 l0_2.length c0_2] 63 (0, 0)) BK346.out hb); have n2_ := Aside0.mk (blk_below (g := gb347) (o := .cells #[.slice A1_0 l1_0.length c1_0, .slice A1_1 l1_1.length c1_1] 65 (0, 0)) BK347.out hb); have n3_ := Aside0.mk (below_step HB.out hb); have n4_ := Aside0.mk (hbox); have n5_ := Aside0.mk ((by rw [hg]; exact (below_size HB.out) : w.heap.size ≤ gb355)); have n6_ := Aside0.mk ((by rw [hg]; exact (below_size HB.out) : w.heap.size ≤ gb355)); have n7_ := Aside0.mk ((by rw [hg]; exact Nat.ne_of_lt (blk_lt (g := gb346) (o := .cells #[.string a0_0, .slice A0_1 l0_1.length c0_1, .slice A0_2 l0_2.length c0_2] 63 (0, 0)) BK346.out) : gb346 ≠ gb355)); have n8_ := Aside0.mk ((by rw [hg]; exact Nat.ne_of_gt (blk_lt (g := gb346) (o := .cells #[.string a0_0, .slice A0_1 l0_1.length c0_1, .slice A0_2 l0_2.length c0_2] 63 (0, 0)) BK346.out) : gb355 ≠ gb346)); have n9_ := Aside0.mk ((by rw [hg]; exact Nat.ne_of_lt (blk_lt (g := gb347) (o := .cells #[.slice A1_0 l1_0.length c1_0, .slice A1_1 l1_1.length c1_1] 65 (0, 0)) BK347.out) : gb347 ≠ gb355)); have n10_ := Aside0.mk ((by rw [hg]; exact Nat.ne_of_gt (blk_lt (g := gb347) (o := .cells #[.slice A1_0 l1_0.length c1_0, .slice A1_1 l1_1.length c1_1] 65 (0, 0)) BK347.out) : gb355 ≠ gb347)); clear HO353 BK346 BK347 HB; have HO353 := n0_; have BK346 := n1_; have BK347 := n2_; have HB := n3_; have BK355 := n4_; have GW355 := n5_; have GE355 := n6_; have NB346_355 := n7_; have NB355_346 := n8_; have NB347_355 := n9_; have NB355_347 := n10_; clear n0_ n1_ n2_ n3_ n4_ n5_ n6_ n7_ n8_ n9_ n10_ hb hbox hg; have hnb33 := NB355_346.out; have hnc33 := NB346_355.out; have hnb34 := NB355_347.out; have hnc34 := NB347_355.out; have hcz35_0 : w32.cell? ⟨gb355, 0, none⟩ = some (.int .i64 0) := (blk_cell BK355.out 0).trans rfl; have hcz35_1 : w32.cell? ⟨gb355, 1, none⟩ = some (.slice none 0 0) := (blk_cell BK355.out 1).trans rfl; have hfz35_0 := blk_frozen BK355.out 0; have hfz35_1 := blk_frozen BK355.out 1; obtain ⟨Ao36, co36, eo36⟩ := Kd.R_slice HO353.out; subst eo36) | ((with_reducible refine gate_store (t := 68) (p := 7) rfl ?_); refine store_event (t := 68) (p := 7) (v := ?vo_w37) (w1 := ((w32.setCell ⟨gb355, 0, none⟩ (.int .i64 t350)).setCell ⟨gb355, 1, none⟩ (.slice Ao36 t351.length co36))) ?hg ?ho ?hn ?hr ?_; (case ho => rfl); (case hg => rfl); (case hn => rfl); (case hr => (go_simp; done)); intro w37 hw; have n0_ : Aside0 (Kd.R (Kd.int .i64) 3 w37 w.heap.size (fun _ => True) (.slice Ao36 t351.length co36) t351) := ⟨(by rw [hw]; exact (by exact Kd.R_mono (Kd.R_far (p := ⟨gb355, 1, none⟩) (Kd.R_far (p := ⟨gb355, 0, none⟩) (Kd.R_types HO353.out BK355.out (by decide)) (fun _ hk => hk.2) (.int .i64 t350)) (fun _ hk => hk.2) (.slice Ao36 t351.length co36)) (fun _ hk => trivial)))⟩; have n1_ : Aside0 (w37.heap[gb346]? = some (.cells #[.string a0_0, .slice A0_1 l0_1.length c0_1, .slice A0_2 l0_2.length c0_2] 63 (0, 0))) := ⟨(by rw [hw]; exact (by refine blk_far ?_ NB346_355.out _; refine blk_far ?_ NB346_355.out _; exact BK346.out))⟩; have n2_ : Aside0 (w37.heap[gb347]? = some (.cells #[.slice A1_0 l1_0.length c1_0, .slice A1_1 l1_1.length c1_1] 65 (0, 0))) := ⟨(by rw [hw]; exact (by refine blk_far ?_ NB347_355.out _; refine blk_far ?_ NB347_355.out _; exact BK347.out))⟩; have n3_ : Aside0 (w37.heap[gb355]? = some (.cells #[.int .i64 t350, .slice Ao36 t351.length co36] 68 (0, 0))) := ⟨(by rw [hw]; exact (by refine blk_put (cs := #[.int .i64 t350, .slice none 0 0]) ?_ 1 _ rfl; refine blk_put (cs := #[.int .i64 0, .slice none 0 0]) ?_ 0 _ rfl; exact BK355.out))⟩; have n4_ : Aside0 (Below w.heap.size w w37) := ⟨(by rw [hw]; exact (by repeat ((with_reducible first | exact HB.out | refine below_set ?_ GE355.out))))⟩; clear hw HO353 BK346 BK347 BK355 HB; have HO353 := n0_; have BK346 := n1_; have BK347 := n2_; have BK355 := n3_; have HB := n4_; clear n0_ n1_ n2_ n3_ n4_; have hcz38_0 : w37.cell? ⟨gb346, 0, none⟩ = some (.string a0_0) := (blk_cell BK346.out 0).trans rfl; have hcz38_1 : w37.cell? ⟨gb346, 1, none⟩ = some (.slice A0_1 l0_1.length c0_1) := (blk_cell BK346.out 1).trans rfl; have hcz38_2 : w37.cell? ⟨gb346, 2, none⟩ = some (.slice A0_2 l0_2.length c0_2) := (blk_cell BK346.out 2).trans rfl; have hfz38_0 := blk_frozen BK346.out 0; have hfz38_1 := blk_frozen BK346.out 1; have hfz38_2 := blk_frozen BK346.out 2; have hcz39_0 : w37.cell? ⟨gb347, 0, none⟩ = some (.slice A1_0 l1_0.length c1_0) := (blk_cell BK347.out 0).trans rfl; have hcz39_1 : w37.cell? ⟨gb347, 1, none⟩ = some (.slice A1_1 l1_1.length c1_1) := (blk_cell BK347.out 1).trans rfl; have hfz39_0 := blk_frozen BK347.out 0; have hfz39_1 := blk_frozen BK347.out 1) | ((with_reducible refine gate_callee (f := 33) rfl ?_); refine goesL_ (some 41) rfl rfl Try.func33 (by kernel_rfl) rfl #[.agg #[.string a0_0, .slice A0_1 l0_1.length c0_1, .slice A0_2 l0_2.length c0_2], .slice A1_0 l1_0.length c1_0, .slice A1_1 l1_1.length c1_1, .slice A2 l2.length c2] rfl (by (try simp only [List.map_toArray, List.map_cons, List.map_nil]); rfl) ?_; (with_reducible refine (peristyleref32_Choose.calls kj3 a0_0 (fun k_ => k_ < w.heap.size) _ _ l0_1 (fun k_ => k_ < w.heap.size) _ _ l0_2 _ _ l1_0 _ _ l1_1 _ _ l2 t356 t357 t360 _ ?side1 ?side2 ?side3 ?side4 ?side5 ?side6 ?side7 ?side8 A22.out).mono ?_); (case side1 => exact Kd.V_mk HC0_1.out (Kd.F_below (Kd.C_F k177_heap HR0_1.out) HB.out)); (case side2 => exact Kd.V_mk HC0_2.out (Kd.F_below (Kd.C_F k138_heap HR0_2.out) HB.out)); (case side3 => repeat (exact (Kd.C_below HR1_0.out HB.out))); (case side4 => exact HC1_0.out); (case side5 => repeat (exact (Kd.C_below HR1_1.out HB.out))); (case side6 => exact HC1_1.out); (case side7 => repeat (exact (Kd.C_below HR2.out HB.out))); (case side8 => exact HC2.out); rintro e w40 ⟨v358, rfl, ho0, hb⟩; refine ⟨_, rfl, ?_⟩; have n0_ := Aside0.mk (Kd.R_elder' HO353.out (Kd.R_base ho0) hb); have n1_ := Aside0.mk (Kd.R_lower (Kd.R_new' (Kd.R_mono (ok' := fun k_ => True) ho0 (fun _ hk_ => trivial)) (Kd.R_lt HO353.out)) (below_size HB.out)); have n2_ := Aside0.mk (blk_below (g := gb346) (o := .cells #[.string a0_0, .slice A0_1 l0_1.length c0_1, .slice A0_2 l0_2.length c0_2] 63 (0, 0)) BK346.out hb); have n3_ := Aside0.mk (blk_below (g := gb347) (o := .cells #[.slice A1_0 l1_0.length c1_0, .slice A1_1 l1_1.length c1_1] 65 (0, 0)) BK347.out hb); have n4_ := Aside0.mk (blk_below (g := gb355) (o := .cells #[.int .i64 t350, .slice Ao36 t351.length co36] 68 (0, 0)) BK355.out hb); have n5_ := Aside0.mk (below_step HB.out hb); clear HO353 BK346 BK347 BK355 HB; have HO353 := n0_; have HO359 := n1_; have BK346 := n2_; have BK347 := n3_; have BK355 := n4_; have HB := n5_; clear n0_ n1_ n2_ n3_ n4_ n5_; (try clear hb); (try clear ho0)) | ((with_reducible refine gate_dst (N := 9) rfl ?_); (try (refine gate_guard (by rfl) ?_; dsimp only)); refine box_event ?hg (N := 9) ?hd (cs := #[.int .i64 0, .slice none 0 0]) (t := 68) ?hr ?_; (case hd => rfl); (case hg => rfl); (case hr => (go_simp; done)); intro gb361 hg w41 hbox hb; have n0_ := Aside0.mk (Kd.R_below HO353.out hb); have n1_ := Aside0.mk (Kd.R_below HO359.out hb); have n2_ := Aside0.mk (blk_below (g := gb346) (o := .cells #[.string a0_0, .slice A0_1 l0_1.length c0_1, .slice A0_2 l0_2.length c0_2] 63 (0, 0)) BK346.out hb); have n3_ := Aside0.mk (blk_below (g := gb347) (o := .cells #[.slice A1_0 l1_0.length c1_0, .slice A1_1 l1_1.length c1_1] 65 (0, 0)) BK347.out hb); have n4_ := Aside0.mk (blk_below (g := gb355) (o := .cells #[.int .i64 t350, .slice Ao36 t351.length co36] 68 (0, 0)) BK355.out hb); have n5_ := Aside0.mk (below_step HB.out hb); have n6_ := Aside0.mk (hbox); have n7_ := Aside0.mk ((by rw [hg]; exact (below_size HB.out) : w.heap.size ≤ gb361)); have n8_ := Aside0.mk ((by rw [hg]; exact (below_size HB.out) : w.heap.size ≤ gb361)); have n9_ := Aside0.mk ((by rw [hg]; exact Nat.ne_of_lt (blk_lt (g := gb346) (o := .cells #[.string a0_0, .slice A0_1 l0_1.length c0_1, .slice A0_2 l0_2.length c0_2] 63 (0, 0)) BK346.out) : gb346 ≠ gb361)); have n10_ := Aside0.mk ((by rw [hg]; exact Nat.ne_of_gt (blk_lt (g := gb346) (o := .cells #[.string a0_0, .slice A0_1 l0_1.length c0_1, .slice A0_2 l0_2.length c0_2] 63 (0, 0)) BK346.out) : gb361 ≠ gb346)); have n11_ := Aside0.mk ((by rw [hg]; exact Nat.ne_of_lt (blk_lt (g := gb347) (o := .cells #[.slice A1_0 l1_0.length c1_0, .slice A1_1 l1_1.length c1_1] 65 (0, 0)) BK347.out) : gb347 ≠ gb361)); have n12_ := Aside0.mk ((by rw [hg]; exact Nat.ne_of_gt (blk_lt (g := gb347) (o := .cells #[.slice A1_0 l1_0.length c1_0, .slice A1_1 l1_1.length c1_1] 65 (0, 0)) BK347.out) : gb361 ≠ gb347)); have n13_ := Aside0.mk ((by rw [hg]; exact Nat.ne_of_lt (blk_lt (g := gb355) (o := .cells #[.int .i64 t350, .slice Ao36 t351.length co36] 68 (0, 0)) BK355.out) : gb355 ≠ gb361)); have n14_ := Aside0.mk ((by rw [hg]; exact Nat.ne_of_gt (blk_lt (g := gb355) (o := .cells #[.int .i64 t350, .slice Ao36 t351.length co36] 68 (0, 0)) BK355.out) : gb361 ≠ gb355)); clear HO353 HO359 BK346 BK347 BK355 HB; have HO353 := n0_; have HO359 := n1_; have BK346 := n2_; have BK347 := n3_; have BK355 := n4_; have HB := n5_; have BK361 := n6_; have GW361 := n7_; have GE361 := n8_; have NB346_361 := n9_; have NB361_346 := n10_; have NB347_361 := n11_; have NB361_347 := n12_; have NB355_361 := n13_; have NB361_355 := n14_; clear n0_ n1_ n2_ n3_ n4_ n5_ n6_ n7_ n8_ n9_ n10_ n11_ n12_ n13_ n14_ hb hbox hg; have hnb42 := NB361_346.out; have hnc42 := NB346_361.out; have hnb43 := NB361_347.out; have hnc43 := NB347_361.out; have hnb44 := NB361_355.out; have hnc44 := NB355_361.out; have hcz45_0 : w41.cell? ⟨gb361, 0, none⟩ = some (.int .i64 0) := (blk_cell BK361.out 0).trans rfl; have hcz45_1 : w41.cell? ⟨gb361, 1, none⟩ = some (.slice none 0 0) := (blk_cell BK361.out 1).trans rfl; have hfz45_0 := blk_frozen BK361.out 0; have hfz45_1 := blk_frozen BK361.out 1; obtain ⟨Ao46, co46, eo46⟩ := Kd.R_slice HO359.out; subst eo46; have hcz47_0 : w41.cell? ⟨gb355, 0, none⟩ = some (.int .i64 t350) := (blk_cell BK355.out 0).trans rfl; have hcz47_1 : w41.cell? ⟨gb355, 1, none⟩ = some (.slice Ao36 t351.length co36) := (blk_cell BK355.out 1).trans rfl; have hfz47_0 := blk_frozen BK355.out 0; have hfz47_1 := blk_frozen BK355.out 1) | (go_at_call 34; (with_reducible refine (peristyleref01_Same.calls kj3 _ _ t351 _ _ t357 true _ ?side1 ?side2 ?side3 ?side4 A24.out).mono ?_); (case side1 => refine (Kd.R_reads' (e := 3) (base := w.heap.size) (ok := fun k_ => (True ∧ some k_ ≠ (.slice Ao46 t357.length co46 : Value).ownBlock)) (n := t351.length) (c := co36) ?_).2.2; exact (by exact (Kd.R_mono (Kd.R_far (p := ⟨gb361, 1, none⟩) (Kd.R_far (p := ⟨gb361, 0, none⟩) (Kd.R_types HO353.out BK361.out (by decide)) (fun _ hk => hk.2) (.int .i64 t356)) (fun _ hk => hk.2) (.slice Ao46 t357.length co46)) (fun _ h_ => h_.1)))); (case side2 => exact (Kd.R_reads' HO353.out).2.1); (case side3 => refine (Kd.R_reads' (e := 3) (base := w.heap.size) (ok := fun k_ => (True ∧ some k_ ≠ (.slice Ao36 t351.length co36 : Value).ownBlock)) (n := t357.length) (c := co46) ?_).2.2; exact (by exact (Kd.R_mono (Kd.R_far (p := ⟨gb361, 1, none⟩) (Kd.R_far (p := ⟨gb361, 0, none⟩) (Kd.R_types HO359.out BK361.out (by decide)) (fun _ hk => hk.2) (.int .i64 t356)) (fun _ hk => hk.2) (.slice Ao46 t357.length co46)) (fun _ h_ => h_.1)))); (case side4 => exact (Kd.R_reads' HO359.out).2.1); rintro e w' ⟨rfl, ⟨nd, rfl⟩⟩) | (go_at_call 31; (with_reducible refine (peristylelaw32_awake.calls kj3  t363 _ A27.out).mono ?_); rintro e w48 ⟨rfl, hb⟩; have n0_ := Aside0.mk (Kd.R_below (by (with_reducible repeat apply Kd.R_drewN); exact (Kd.R_mono (Kd.R_far (p := ⟨gb361, 1, none⟩) (Kd.R_far (p := ⟨gb361, 0, none⟩) (Kd.R_types HO353.out BK361.out (by decide)) (fun _ hk => hk.2) (.int .i64 t356)) (fun _ hk => hk.2) (.slice Ao46 t357.length co46)) (fun _ h_ => h_.1))) hb); have n1_ := Aside0.mk (Kd.R_below (by (with_reducible repeat apply Kd.R_drewN); exact (Kd.R_mono (Kd.R_far (p := ⟨gb361, 1, none⟩) (Kd.R_far (p := ⟨gb361, 0, none⟩) (Kd.R_types HO359.out BK361.out (by decide)) (fun _ hk => hk.2) (.int .i64 t356)) (fun _ hk => hk.2) (.slice Ao46 t357.length co46)) (fun _ h_ => h_.1))) hb); have n2_ := Aside0.mk (blk_below (g := gb346) (o := .cells #[.string a0_0, .slice A0_1 l0_1.length c0_1, .slice A0_2 l0_2.length c0_2] 63 (0, 0)) (by (with_reducible repeat (refine blk_drewN ?_ _)); refine blk_far ?_ NB346_361.out _; refine blk_far ?_ NB346_361.out _; exact BK346.out) hb); have n3_ := Aside0.mk (blk_below (g := gb347) (o := .cells #[.slice A1_0 l1_0.length c1_0, .slice A1_1 l1_1.length c1_1] 65 (0, 0)) (by (with_reducible repeat (refine blk_drewN ?_ _)); refine blk_far ?_ NB347_361.out _; refine blk_far ?_ NB347_361.out _; exact BK347.out) hb); have n4_ := Aside0.mk (blk_below (g := gb355) (o := .cells #[.int .i64 t350, .slice Ao36 t351.length co36] 68 (0, 0)) (by (with_reducible repeat (refine blk_drewN ?_ _)); refine blk_far ?_ NB355_361.out _; refine blk_far ?_ NB355_361.out _; exact BK355.out) hb); have n5_ := Aside0.mk (blk_below (g := gb361) (o := .cells #[.int .i64 t356, .slice Ao46 t357.length co46] 68 (0, 0)) (by (with_reducible repeat (refine blk_drewN ?_ _)); refine blk_put (cs := #[.int .i64 t356, .slice none 0 0]) ?_ 1 _ rfl; refine blk_put (cs := #[.int .i64 0, .slice none 0 0]) ?_ 0 _ rfl; exact BK361.out) hb); have n6_ := Aside0.mk (below_step (by repeat ((with_reducible first | exact HB.out | apply pw_below_drewN | refine below_set ?_ GE361.out))) hb); clear HO353 HO359 BK346 BK347 BK355 BK361 HB; have HO353 := n0_; have HO359 := n1_; have BK346 := n2_; have BK347 := n3_; have BK355 := n4_; have BK361 := n5_; have HB := n6_; clear n0_ n1_ n2_ n3_ n4_ n5_ n6_; (try clear hb)))
       go_ret
       exact ⟨by rfl, by repeat exact HB.out⟩
      ·
       rw [if_neg c26] at H
       exact absurd H (by simp)
     ·
      replace c25 := Bool.eq_false_iff.mpr c25
      subst c25
      have H1 : (none) = some r := by rw [if_neg (show ¬ (false = true) by decide)] at H; exact H
      clear H
      have H := H1
      clear H1
      exact absurd H (by simp)
    ·
     rw [if_neg c23] at H
     exact absurd H (by simp)
/-- THE ONE PURE STATEMENT of peristylelaw32_CoverChooses: yours. -/
def peristylelaw32_CoverChooses.Pure : Prop := ∀ (a0_0 : ByteArray) (l0_1 : List (S177)) (l0_2 : List (S138)) (l1_0 : List Int) (l1_1 : List Int) (l2 : List ByteArray), a0_0.size ≤ maxLen → l0_1.length ≤ maxLen → (∀ x ∈ l0_1, (x.f0.size ≤ maxLen) ∧ ((Lit.int .i64 x.f1).wf = true) ∧ (True)) → l0_2.length ≤ maxLen → (∀ x ∈ l0_2, (x.f0.size ≤ maxLen) ∧ (x.f1.length ≤ maxLen ∧ ∀ x_ ∈ x.f1, (Lit.int .i64 x_).wf = true) ∧ ((Lit.int .i64 x.f2).wf = true)) → l1_0.length ≤ maxLen → (∀ x ∈ l1_0, (Lit.int .i64 x).wf = true) → l1_1.length ≤ maxLen → (∀ x ∈ l1_1, (Lit.int .i64 x).wf = true) → l2.length ≤ maxLen → (∀ x ∈ l2, x.size ≤ maxLen) → ∃ k, peristylelaw32_CoverChooses.f k a0_0 l0_1 l0_2 l1_0 l1_1 l2 = some true
theorem peristylelaw32_CoverChooses.walk (P : peristylelaw32_CoverChooses.Pure) (a0_0 : ByteArray) (A0_1 : Option Addr) (c0_1 : Nat) (l0_1 : List (S177)) (A0_2 : Option Addr) (c0_2 : Nat) (l0_2 : List (S138)) (A1_0 : Option Addr) (c1_0 : Nat) (l1_0 : List Int) (A1_1 : Option Addr) (c1_1 : Nat) (l1_1 : List Int) (a2 : Option Addr) (cap2 : Nat) (l2 : List ByteArray) (w : World) (w0_0 : a0_0.size ≤ maxLen) (r0_1 : Kd.C k177 w A0_1 l0_1.length l0_1) (q0_1 : l0_1.length ≤ c0_1) (m0_1 : l0_1.length ≤ maxLen) (g0_1 : ∀ x ∈ l0_1, (x.f0.size ≤ maxLen) ∧ ((Lit.int .i64 x.f1).wf = true) ∧ (True)) (r0_2 : Kd.C k138 w A0_2 l0_2.length l0_2) (q0_2 : l0_2.length ≤ c0_2) (m0_2 : l0_2.length ≤ maxLen) (g0_2 : ∀ x ∈ l0_2, (x.f0.size ≤ maxLen) ∧ (x.f1.length ≤ maxLen ∧ ∀ x_ ∈ x.f1, (Lit.int .i64 x_).wf = true) ∧ ((Lit.int .i64 x.f2).wf = true)) (r1_0 : Kd.C (Kd.int .i64) w A1_0 l1_0.length l1_0) (q1_0 : l1_0.length ≤ c1_0) (m1_0 : l1_0.length ≤ maxLen) (g1_0 : ∀ x ∈ l1_0, (Lit.int .i64 x).wf = true) (r1_1 : Kd.C (Kd.int .i64) w A1_1 l1_1.length l1_1) (q1_1 : l1_1.length ≤ c1_1) (m1_1 : l1_1.length ≤ maxLen) (g1_1 : ∀ x ∈ l1_1, (Lit.int .i64 x).wf = true) (r2 : Kd.C Kd.string w a2 l2.length l2) (q2 : l2.length ≤ cap2) (m2 : l2.length ≤ maxLen) (g2 : ∀ x ∈ l2, x.size ≤ maxLen) :
  Calls Try.prog 7 #[.agg #[.string a0_0, .slice A0_1 l0_1.length c0_1, .slice A0_2 l0_2.length c0_2], .agg #[.slice A1_0 l1_0.length c1_0, .slice A1_1 l1_1.length c1_1], .slice a2 l2.length cap2] w fun e w' => e = .returned (.bool true) ∧ Below w.heap.size w w' := by
 obtain ⟨k, h⟩ := P a0_0 l0_1 l0_2 l1_0 l1_1 l2 w0_0 m0_1 g0_1 m0_2 g0_2 m1_0 g1_0 m1_1 g1_1 m2 g2
 refine (peristylelaw32_CoverChooses.calls k a0_0 _ _ l0_1 _ _ l0_2 _ _ l1_0 _ _ l1_1 _ _ l2 true w r0_1 q0_1 r0_2 q0_2 r1_0 q1_0 r1_1 q1_1 r2 q2 h).mono ?_
 rintro e w' ⟨rfl, hd⟩
 exact ⟨rfl, hd⟩
end Go.Proofs.Ytgjclhhjigflkab.C
