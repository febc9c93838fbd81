import Derived.Test.YtgjclhhjigflkacCx1
import Derived.Test.YtgjclhhjigflkacCx5
import Derived.Test.YtgjclhhjigflkacCx13
import Derived.Test.YtgjclhhjigflkacCx14
import Derived.Test.YtgjclhhjigflkacScRead
import Derived.Test.YtgjclhhjigflkacScNums
-- written by mkprint.py, a program of this session, over the kit's printer
namespace Go.Proofs.Ytgjclhhjigflkac.C
open Go.RowKit Go.Proofs.YtgjclhhjigflkacW.PrintWords Go.Proofs.YtgjclhhjigflkacW.PrintLast Go.Proofs.YtgjclhhjigflkacW.PrintMore
attribute [local go_sem] max2_int min2_int max_two min_two max_three min_three max_four min_four   -- for this text's walks alone
set_option linter.unusedVariables false
set_option linter.unusedSimpArgs false
/-! ### peristylelaw25_SchemaFinds: function 6 -/
mutual
def peristylelaw25_SchemaFinds.j0 : Nat → List (S47) → ByteArray → Bool → ByteArray → List Int → Int → Option (Bool)
 | 0, _, _, _, _, _, _ => none
 | k + 1, x0, x1, x21, x270000, x270001, x270002 => if x21 = true then ((peristylelaw25_awake.f k).bind fun t271 => (some t271)) else ((schema_Find.f k x0 x1).bind fun t272 => ((peristyleref25_Find.f k x0 x1).bind fun t273 => (if t272 = t273 then (peristylelaw25_SchemaFinds.l0 k x0 x1 0 x270000 x270001 x270002) else (none))))
def peristylelaw25_SchemaFinds.l0 : Nat → List (S47) → ByteArray → Int → ByteArray → List Int → Int → Option (Bool)
 | 0, _, _, _, _, _, _ => none
 | k + 1, x0, x1, x7, x270000, x270001, x270002 => if x7 < (x0.length : Int) then (if 0 ≤ x7 then ((schema_Column.f k ((rd_T47 x0 x7).f0) ((rd_T47 x0 x7).f1) ((rd_T47 x0 x7).f2) x1).bind fun t276 => ((peristyleref25_Column.f k ((rd_T47 x0 x7).f0) ((rd_T47 x0 x7).f1) ((rd_T47 x0 x7).f2) x1).bind fun t278 => (if t276 = t278 then ((schema_Super.f k ((rd_T47 x0 x7).f0) ((rd_T47 x0 x7).f1) ((rd_T47 x0 x7).f2) x270000 x270001 x270002).bind fun t280 => ((peristyleref25_Super.f k ((rd_T47 x0 x7).f0) ((rd_T47 x0 x7).f1) ((rd_T47 x0 x7).f2) x270000 x270001 x270002).bind fun t282 => (if (t280 != t282) = true then (none) else (peristylelaw25_SchemaFinds.l0 k x0 x1 (wrap64 (x7 + 1)) x270000 x270001 x270002)))) else (none)))) else (none)) else ((peristylelaw25_awake.f k).bind fun t274 => (some t274))
end
def peristylelaw25_SchemaFinds.f (k : Nat) (l0 : List (S47)) (a1 : ByteArray) (a2_0 : ByteArray) (l2_1 : List Int) (a2_2 : Int) : Option (Bool) := (peristyleref25_Light.f k l0).bind fun t270 => (if t270 = true then (if (a1.size : Int) > 40 then (peristylelaw25_SchemaFinds.j0 k l0 a1 true a2_0 l2_1 a2_2) else (peristylelaw25_SchemaFinds.j0 k l0 a1 (decide ((l2_1.length : Int) > 12)) a2_0 l2_1 a2_2)) else (peristylelaw25_SchemaFinds.j0 k l0 a1 true a2_0 l2_1 a2_2))
def peristylelaw25_SchemaFinds.T8 : Bool × List (List Nat × List Nat) := (true, [([], []), ([], []), ([0, 1], [0, 1]), ([2], [2]), ([], []), ([3, 4], [3, 4]), ([], []), ([], []), ([6, 7], [6, 7]), ([8], [8]), ([], []), ([9, 10, 5], [9, 10]), ([5, 11], [5, 11]), ([12, 11], [12]), ([13], [13]), ([13], [13]), ([14, 15, 13], [13, 14, 15]), ([16, 13], [13, 16]), ([13], [13]), ([17, 18, 13, 13], [13, 17, 18]), ([13], [13]), ([13], [13]), ([20, 21, 13], [13, 20, 21]), ([22, 13], [13, 22]), ([13], [13]), ([23, 24, 19, 13], [13, 23, 24]), ([19, 25, 13], [13, 19, 25]), ([13, 26], [13, 26])])
def peristylelaw25_SchemaFinds.B8 : List Nat := [0, 0, 3, 7, 0, 31, 0, 0, 192, 448, 0, 2047, 4095, 8191, 16383, 16383, 65535, 131071, 16383, 524287, 16383, 16383, 3162111, 7356415, 16383, 33554431, 67108863, 134217727]
theorem peristylelaw25_SchemaFinds.tab8 : rtab .any (opsOf Try.f6 8) = peristylelaw25_SchemaFinds.T8 := by kernel_rfl
theorem peristylelaw25_SchemaFinds.bits8 : waitsOk peristylelaw25_SchemaFinds.T8.2 peristylelaw25_SchemaFinds.B8 = true := by kernel_rfl
set_option maxHeartbeats 8000000 in
set_option maxRecDepth 100000 in
theorem peristylelaw25_SchemaFinds.calls (k : Nat) (A0 : Option Addr) (c0 : Nat) (l0 : List (S47)) (a1 : ByteArray) (a2_0 : ByteArray) (A2_1 : Option Addr) (c2_1 : Nat) (l2_1 : List Int) (a2_2 : Int) (r : Bool) (w : World) (hr0 : Kd.C k47 w A0 l0.length l0) (hc0 : l0.length ≤ c0) (hr2_1 : Kd.C (Kd.int .i64) w A2_1 l2_1.length l2_1) (hc2_1 : l2_1.length ≤ c2_1) (h : peristylelaw25_SchemaFinds.f k l0 a1 a2_0 l2_1 a2_2 = some r) :
  Calls Try.prog 6 #[.slice A0 l0.length c0, .string a1, .agg #[.string a2_0, .slice A2_1 l2_1.length c2_1, .int .i64 a2_2]] w fun e w' => e = .returned (.bool r) ∧ Below w.heap.size w w' := by
 have hu52 := Try.underlying52
 have hu47 := Try.underlying47
 have HR0 := Aside0.mk hr0
 have HC0 := Aside0.mk hc0
 clear hr0 hc0
 have HR2_1 := Aside0.mk hr2_1
 have HC2_1 := Aside0.mk hc2_1
 clear hr2_1 hc2_1
 have HB := Aside0.mk (Below.refl w.heap.size w)
 have H : ((peristyleref25_Light.f k l0).bind fun t270 => (if t270 = true then (if (a1.size : Int) > 40 then (peristylelaw25_SchemaFinds.j0 k l0 a1 true a2_0 l2_1 a2_2) else (peristylelaw25_SchemaFinds.j0 k l0 a1 (decide ((l2_1.length : Int) > 12)) a2_0 l2_1 a2_2)) else (peristylelaw25_SchemaFinds.j0 k l0 a1 true a2_0 l2_1 a2_2))) = some r := h
 clear h
 have HC4 := Aside0.mk H
 clear H
 go_enter Try.func6, Try.ntmps6
 go_upto_region 1 with (first | ((with_reducible refine gate_dst (N := 5) rfl ?_); (try (refine gate_guard (by rfl) ?_; dsimp only)); refine box_event ?hg (N := 5) ?hd (cs := #[.string a2_0, .slice A2_1 l2_1.length c2_1, .int .i64 a2_2]) (t := 52) ?hr ?_; (case hd => rfl); (case hg => rfl); (case hr => first | (go_simp; done) | (go_simp; rfl)); intro gb269 hg w5 hbox hb; have n0_ := Aside0.mk (below_step (by repeat (first | (with_reducible first | exact HB.out | apply below_alloc | apply pw_below_drewN | apply below_drew1) | exact HB.out)) hb); have n1_ := Aside0.mk (hbox); have n2_ := Aside0.mk ((by rw [hg]; exact (below_size (by repeat (first | (with_reducible first | exact HB.out | apply below_alloc | apply pw_below_drewN | apply below_drew1) | exact HB.out))) : w.heap.size ≤ gb269)); have n3_ := Aside0.mk ((by rw [hg]; exact (below_size (by repeat (first | (with_reducible first | exact HB.out | apply below_alloc | apply pw_below_drewN | apply below_drew1) | exact HB.out))) : w.heap.size ≤ gb269)); clear HB; have HB := n0_; have BK269 := n1_; have GW269 := n2_; have GE269 := n3_; clear n0_ n1_ n2_ n3_; clear hb hbox hg))
 (try simp only [Act.put, List.setIfInBounds_toArray, List.set_cons_zero, List.set_cons_succ])
 go_cut [21] (fun v21 wc => ∃ (kq : Nat) (x21_3 : Bool), v21 = .bool x21_3 ∧ Aside0 (peristylelaw25_SchemaFinds.j0 kq l0 a1 x21_3 a2_0 l2_1 a2_2 = some r) ∧ Aside0 (kq ≤ k) ∧ Aside0 (wc.heap[gb269]? = some (.cells #[.string a2_0, (.slice A2_1 l2_1.length c2_1), .int .i64 a2_2] 52 (0, 0))) ∧ Aside0 (Below w.heap.size w wc))
 case first =>
  have H := HC4.out
  clear HC4
  replace H := Option.bind_eq_some_iff.mp H
  obtain ⟨t270, A60, H⟩ := H
  replace H : (if t270 = true then (if (a1.size : Int) > 40 then (peristylelaw25_SchemaFinds.j0 k l0 a1 true a2_0 l2_1 a2_2) else (peristylelaw25_SchemaFinds.j0 k l0 a1 (decide ((l2_1.length : Int) > 12)) a2_0 l2_1 a2_2)) else (peristylelaw25_SchemaFinds.j0 k l0 a1 true a2_0 l2_1 a2_2)) = some r := H
  have A6 := Aside0.mk A60
  clear A60
  by_cases c7 : t270 = true
  ·
   subst c7
   have H1 : (if (a1.size : Int) > 40 then (peristylelaw25_SchemaFinds.j0 k l0 a1 true a2_0 l2_1 a2_2) else (peristylelaw25_SchemaFinds.j0 k l0 a1 (decide ((l2_1.length : Int) > 12)) a2_0 l2_1 a2_2)) = some r := by rw [if_pos rfl] at H; exact H
   clear H
   have H := H1
   clear H1
   by_cases c8 : (a1.size : Int) > 40
   ·
    rw [if_pos c8] at H
    have c8b0 : decide (40 < (a1.size : Int)) = true := decide_eq_true c8
    have c8b1 : decide (40 < a1.size) = true := decide_eq_true (by omega)
    clear c8
    (first | rw [c8b0] | (simp only [i64_w, i32_w]; rw [c8b0]) | skip)
    have H' := Aside0.mk H
    clear H
    go_wp2_with (first | ((with_reducible refine gate_callee (f := 18) rfl ?_); refine goesL_ (some 9) rfl rfl Try.func18 (by kernel_rfl) rfl #[.slice A0 l0.length c0] rfl (by (try simp only [List.map_toArray, List.map_cons, List.map_nil]); first | done | rfl | (simp only [List.length_drop, List.length_take]; rfl)) ?_; (with_reducible refine (peristyleref25_Light.calls k _ _ l0 true _ ?side1 ?side2 A6.out).mono ?_); (case side1 => repeat (first | exact (Kd.C_below HR0.out HB.out) | (with_reducible refine Kd.C_alloc ?_ _) | (with_reducible refine Kd.C_drewN ?_ _) | (with_reducible refine Kd.C_drew ?_))); (case side2 => exact HC0.out); rintro e w9 ⟨rfl, hb⟩; refine ⟨_, rfl, ?_⟩; have n0_ := Aside0.mk (blk_below (g := gb269) (o := .cells #[.string a2_0, .slice A2_1 l2_1.length c2_1, .int .i64 a2_2] 52 (0, 0)) (by (with_reducible repeat (first | refine blk_drewN ?_ _ | refine blk_drew ?_ | refine blk_alloc ?_ _)); exact BK269.out) hb); have n1_ := Aside0.mk (below_step (by repeat (first | (with_reducible first | exact HB.out | apply below_alloc | apply pw_below_drewN | apply below_drew1 | refine below_set ?_ GE269.out) | exact HB.out)) hb); clear BK269; clear HB; have BK269 := n0_; have HB := n1_; clear n0_ n1_; (try clear hb); (try clear hb2); (try clear hk); (try clear hi)))
    go_meet
    case rel => exact ⟨_, (true), (by first | rfl | (simp; done) | (simp [*]; done)), H', ⟨by first | omega | exact Nat.le_refl _⟩, ⟨by (with_reducible repeat (first | refine blk_drewN ?_ _ | refine blk_drew ?_ | refine blk_alloc ?_ _)); exact BK269.out⟩, ⟨by repeat (first | (with_reducible first | exact HB.out | apply below_alloc | apply pw_below_drewN | apply below_drew1 | refine below_set ?_ GE269.out) | exact HB.out)⟩⟩
   ·
    rw [if_neg c8] at H
    have c8b0 : decide (40 < (a1.size : Int)) = false := decide_eq_false c8
    have c8b1 : decide (40 < a1.size) = false := decide_eq_false (by omega)
    clear c8
    (first | rw [c8b0] | (simp only [i64_w, i32_w]; rw [c8b0]) | skip)
    have H' := Aside0.mk H
    clear H
    go_wp2_with (first | ((with_reducible refine gate_callee (f := 18) rfl ?_); refine goesL_ (some 9) rfl rfl Try.func18 (by kernel_rfl) rfl #[.slice A0 l0.length c0] rfl (by (try simp only [List.map_toArray, List.map_cons, List.map_nil]); first | done | rfl | (simp only [List.length_drop, List.length_take]; rfl)) ?_; (with_reducible refine (peristyleref25_Light.calls k _ _ l0 true _ ?side1 ?side2 A6.out).mono ?_); (case side1 => repeat (first | exact (Kd.C_below HR0.out HB.out) | (with_reducible refine Kd.C_alloc ?_ _) | (with_reducible refine Kd.C_drewN ?_ _) | (with_reducible refine Kd.C_drew ?_))); (case side2 => exact HC0.out); rintro e w10 ⟨rfl, hb⟩; refine ⟨_, rfl, ?_⟩; have n0_ := Aside0.mk (blk_below (g := gb269) (o := .cells #[.string a2_0, .slice A2_1 l2_1.length c2_1, .int .i64 a2_2] 52 (0, 0)) (by (with_reducible repeat (first | refine blk_drewN ?_ _ | refine blk_drew ?_ | refine blk_alloc ?_ _)); exact BK269.out) hb); have n1_ := Aside0.mk (below_step (by repeat (first | (with_reducible first | exact HB.out | apply below_alloc | apply pw_below_drewN | apply below_drew1 | refine below_set ?_ GE269.out) | exact HB.out)) hb); clear BK269; clear HB; have BK269 := n0_; have HB := n1_; clear n0_ n1_; (try clear hb); (try clear hb2); (try clear hk); (try clear hi); have hcz11_0 : w10.cell? ⟨gb269, 0, none⟩ = some (.string a2_0) := (blk_cell BK269.out 0).trans rfl; have hcz11_1 : w10.cell? ⟨gb269, 1, none⟩ = some (.slice A2_1 l2_1.length c2_1) := (blk_cell BK269.out 1).trans rfl; have hcz11_2 : w10.cell? ⟨gb269, 2, none⟩ = some (.int .i64 a2_2) := (blk_cell BK269.out 2).trans rfl; have hfz11_0 := blk_frozen BK269.out 0; have hfz11_1 := blk_frozen BK269.out 1; have hfz11_2 := blk_frozen BK269.out 2))
    go_meet
    case rel => exact ⟨_, (decide ((l2_1.length : Int) > 12)), (by first | rfl | (simp; done) | (simp [*]; done)), H', ⟨by first | omega | exact Nat.le_refl _⟩, ⟨by (with_reducible repeat (first | refine blk_drewN ?_ _ | refine blk_drew ?_ | refine blk_alloc ?_ _)); exact BK269.out⟩, ⟨by repeat (first | (with_reducible first | exact HB.out | apply below_alloc | apply pw_below_drewN | apply below_drew1 | refine below_set ?_ GE269.out) | exact HB.out)⟩⟩
  ·
   replace c7 := Bool.eq_false_iff.mpr c7
   subst c7
   have H1 : (peristylelaw25_SchemaFinds.j0 k l0 a1 true a2_0 l2_1 a2_2) = some r := by rw [if_neg (show ¬ (false = true) by decide)] at H; exact H
   clear H
   have H := H1
   clear H1
   have H' := Aside0.mk H
   clear H
   go_wp2_with (first | ((with_reducible refine gate_callee (f := 18) rfl ?_); refine goesL_ (some 9) rfl rfl Try.func18 (by kernel_rfl) rfl #[.slice A0 l0.length c0] rfl (by (try simp only [List.map_toArray, List.map_cons, List.map_nil]); first | done | rfl | (simp only [List.length_drop, List.length_take]; rfl)) ?_; (with_reducible refine (peristyleref25_Light.calls k _ _ l0 false _ ?side1 ?side2 A6.out).mono ?_); (case side1 => repeat (first | exact (Kd.C_below HR0.out HB.out) | (with_reducible refine Kd.C_alloc ?_ _) | (with_reducible refine Kd.C_drewN ?_ _) | (with_reducible refine Kd.C_drew ?_))); (case side2 => exact HC0.out); rintro e w12 ⟨rfl, hb⟩; refine ⟨_, rfl, ?_⟩; have n0_ := Aside0.mk (blk_below (g := gb269) (o := .cells #[.string a2_0, .slice A2_1 l2_1.length c2_1, .int .i64 a2_2] 52 (0, 0)) (by (with_reducible repeat (first | refine blk_drewN ?_ _ | refine blk_drew ?_ | refine blk_alloc ?_ _)); exact BK269.out) hb); have n1_ := Aside0.mk (below_step (by repeat (first | (with_reducible first | exact HB.out | apply below_alloc | apply pw_below_drewN | apply below_drew1 | refine below_set ?_ GE269.out) | exact HB.out)) hb); clear BK269; clear HB; have BK269 := n0_; have HB := n1_; clear n0_ n1_; (try clear hb); (try clear hb2); (try clear hk); (try clear hi)))
   go_meet
   case rel => exact ⟨_, (true), (by first | rfl | (simp; done) | (simp [*]; done)), H', ⟨by first | omega | exact Nat.le_refl _⟩, ⟨by (with_reducible repeat (first | refine blk_drewN ?_ _ | refine blk_drew ?_ | refine blk_alloc ?_ _)); exact BK269.out⟩, ⟨by repeat (first | (with_reducible first | exact HB.out | apply below_alloc | apply pw_below_drewN | apply below_drew1 | refine below_set ?_ GE269.out) | exact HB.out)⟩⟩
 case rest =>
  clear HC4
  try clear c1
  try clear c2
  try clear p2
  try clear c6
  try clear c7
  try clear c8
  try clear c8b0
  try clear c8b1
  try clear hcz11_0
  try clear hcz11_1
  try clear hcz11_2
  try clear hfz11_0
  try clear hfz11_1
  try clear hfz11_2
  obtain ⟨kq, x21_3, rfl, HA, HJ3, BK269, HB⟩ := hcut
  cases kq with
  | zero => exact absurd HA.out (by simp [peristylelaw25_SchemaFinds.j0])
  | succ kj3 =>
   have H := HA.out
   clear HA
   simp only [peristylelaw25_SchemaFinds.j0] at H
   by_cases c13 : x21_3 = true
   ·
    subst c13
    have H1 : ((peristylelaw25_awake.f kj3).bind fun t271 => (some t271)) = some r := by rw [if_pos rfl] at H; exact H
    clear H
    have H := H1
    clear H1
    replace H := Option.bind_eq_some_iff.mp H
    obtain ⟨t271, A140, H⟩ := H
    replace H : (some t271) = some r := H
    have A14 := Aside0.mk A140
    clear A140
    obtain rfl := Option.some.inj H
    go_wp2_with (first | ((with_reducible refine gate_callee (f := 25) rfl ?_); refine goesL_ (some 22) rfl rfl Try.func25 (by kernel_rfl) rfl #[] rfl (by (try simp only [List.map_toArray, List.map_cons, List.map_nil]); first | done | rfl | (simp only [List.length_drop, List.length_take]; rfl)) ?_; (with_reducible refine (peristylelaw25_awake.calls kj3  t271 _ A14.out).mono ?_); rintro e w15 ⟨rfl, hb⟩; refine ⟨_, rfl, ?_⟩; have n0_ := Aside0.mk (blk_below (g := gb269) (o := .cells #[.string a2_0, .slice A2_1 l2_1.length c2_1, .int .i64 a2_2] 52 (0, 0)) (by (with_reducible repeat (first | refine blk_drewN ?_ _ | refine blk_drew ?_ | refine blk_alloc ?_ _)); exact BK269.out) hb); have n1_ := Aside0.mk (below_step (by repeat (first | (with_reducible first | exact HB.out | apply below_alloc | apply pw_below_drewN | apply below_drew1 | refine below_set ?_ GE269.out) | exact HB.out)) hb); clear BK269; clear HB; have BK269 := n0_; have HB := n1_; clear n0_ n1_; (try clear hb); (try clear hb2); (try clear hk); (try clear hi)))
    go_ret
    exact ⟨by first | rfl | (simp [errW_none, errW_some] <;> rfl) | (simp [*, errW_none, errW_some] <;> rfl), by repeat (first | (with_reducible first | exact HB.out | apply below_alloc | apply pw_below_drewN | apply below_drew1 | refine below_set ?_ GE269.out) | exact HB.out)⟩
   ·
    replace c13 := Bool.eq_false_iff.mpr c13
    subst c13
    have H1 : ((schema_Find.f kj3 l0 a1).bind fun t272 => ((peristyleref25_Find.f kj3 l0 a1).bind fun t273 => (if t272 = t273 then (peristylelaw25_SchemaFinds.l0 kj3 l0 a1 0 a2_0 l2_1 a2_2) else (none)))) = some r := by rw [if_neg (show ¬ (false = true) by decide)] at H; exact H
    clear H
    have H := H1
    clear H1
    replace H := Option.bind_eq_some_iff.mp H
    obtain ⟨t272, A160, H⟩ := H
    replace H : ((peristyleref25_Find.f kj3 l0 a1).bind fun t273 => (if t272 = t273 then (peristylelaw25_SchemaFinds.l0 kj3 l0 a1 0 a2_0 l2_1 a2_2) else (none))) = some r := H
    have A16 := Aside0.mk A160
    clear A160
    replace H := Option.bind_eq_some_iff.mp H
    obtain ⟨t273, A170, H⟩ := H
    replace H : (if t272 = t273 then (peristylelaw25_SchemaFinds.l0 kj3 l0 a1 0 a2_0 l2_1 a2_2) else (none)) = some r := H
    have A17 := Aside0.mk A170
    clear A170
    by_cases c18 : t272 = t273
    ·
     rw [if_pos c18] at H
     have c18b0 : (t272 == t273) = true := beq_iff_eq.mpr c18
     have c18b1 : (t272 != t273) = false := bne_eq_false_iff_eq.mpr c18
     clear c18
     have H' := Aside0.mk H
     clear H
     go_wp2_with (first | ((with_reducible refine gate_callee (f := 31) rfl ?_); refine goesL_ (some 25) rfl rfl Try.func31 (by kernel_rfl) rfl #[.slice A0 l0.length c0, .string a1] rfl (by (try simp only [List.map_toArray, List.map_cons, List.map_nil]); first | done | rfl | (simp only [List.length_drop, List.length_take]; rfl)) ?_; (with_reducible refine (schema_Find.calls kj3 _ _ l0 a1 t272 _ ?side1 ?side2 A16.out).mono ?_); (case side1 => repeat (first | exact (Kd.C_below HR0.out HB.out) | (with_reducible refine Kd.C_alloc ?_ _) | (with_reducible refine Kd.C_drewN ?_ _) | (with_reducible refine Kd.C_drew ?_))); (case side2 => exact HC0.out); rintro e w19 ⟨rfl, hb⟩; refine ⟨_, rfl, ?_⟩; have n0_ := Aside0.mk (blk_below (g := gb269) (o := .cells #[.string a2_0, .slice A2_1 l2_1.length c2_1, .int .i64 a2_2] 52 (0, 0)) (by (with_reducible repeat (first | refine blk_drewN ?_ _ | refine blk_drew ?_ | refine blk_alloc ?_ _)); exact BK269.out) hb); have n1_ := Aside0.mk (below_step (by repeat (first | (with_reducible first | exact HB.out | apply below_alloc | apply pw_below_drewN | apply below_drew1 | refine below_set ?_ GE269.out) | exact HB.out)) hb); clear BK269; clear HB; have BK269 := n0_; have HB := n1_; clear n0_ n1_; (try clear hb); (try clear hb2); (try clear hk); (try clear hi)) | ((with_reducible refine gate_callee (f := 32) rfl ?_); refine goesL_ (some 28) rfl rfl Try.func32 (by kernel_rfl) rfl #[.slice A0 l0.length c0, .string a1] rfl (by (try simp only [List.map_toArray, List.map_cons, List.map_nil]); first | done | rfl | (simp only [List.length_drop, List.length_take]; rfl)) ?_; (with_reducible refine (peristyleref25_Find.calls kj3 _ _ l0 a1 t273 _ ?side1 ?side2 A17.out).mono ?_); (case side1 => repeat (first | exact (Kd.C_below HR0.out HB.out) | (with_reducible refine Kd.C_alloc ?_ _) | (with_reducible refine Kd.C_drewN ?_ _) | (with_reducible refine Kd.C_drew ?_))); (case side2 => exact HC0.out); rintro e w' ⟨rfl, ⟨nd, rfl⟩⟩; refine ⟨_, rfl, ?_⟩))
     go_loopg [7] kj3 (fun kq v7 w' => ∃ (x7_2 : Int), v7 = .int .i64 x7_2 ∧ Aside0 (peristylelaw25_SchemaFinds.l0 kq l0 a1 x7_2 a2_0 l2_1 a2_2 = some r) ∧ Aside0 (kq ≤ kj3) ∧ Aside0 (w'.heap[gb269]? = some (.cells #[.string a2_0, (.slice A2_1 l2_1.length c2_1), .int .i64 a2_2] 52 (0, 0))) ∧ Aside0 (Below w.heap.size w w'))
     case atStart => exact ⟨(0), (by first | rfl | (simp; done) | (simp [*]; done)), H', ⟨Nat.le_refl _⟩, ⟨by (with_reducible repeat (first | refine blk_drewN ?_ _ | refine blk_drew ?_ | refine blk_alloc ?_ _)); exact BK269.out⟩, ⟨by repeat (first | (with_reducible first | exact HB.out | apply below_alloc | apply pw_below_drewN | apply below_drew1 | refine below_set ?_ GE269.out) | exact HB.out)⟩⟩
     case round =>
      clear H'
      try clear c1
      try clear c2
      try clear p2
      try clear c3
      try clear c6
      try clear c7
      try clear c8
      try clear c8b0
      try clear c8b1
      try clear c13
      try clear c18
      try clear c18b0
      try clear c18b1
      try clear hcz11_0
      try clear hcz11_1
      try clear hcz11_2
      try clear hfz11_0
      try clear hfz11_1
      try clear hfz11_2
      try clear p2
      obtain ⟨x7_2, rfl, HA, HK2, BK269, HB⟩ := hrel
      cases gk with
      | zero => exact absurd HA.out (by simp [peristylelaw25_SchemaFinds.l0])
      | succ k2 =>
       have H := HA.out
       clear HA
       simp only [peristylelaw25_SchemaFinds.l0] at H
       by_cases c20 : x7_2 < (l0.length : Int)
       ·
        rw [if_pos c20] at H
        have c20b0 : decide (x7_2 < (l0.length : Int)) = true := decide_eq_true c20
        clear c20
        by_cases c21 : 0 ≤ x7_2
        ·
         rw [if_pos c21] at H
         have c21b0 : decide (0 ≤ x7_2) = true := decide_eq_true c21
         clear c21
         replace H := Option.bind_eq_some_iff.mp H
         obtain ⟨t276, A220, H⟩ := H
         replace H : ((peristyleref25_Column.f k2 ((rd_T47 l0 x7_2).f0) ((rd_T47 l0 x7_2).f1) ((rd_T47 l0 x7_2).f2) a1).bind fun t278 => (if t276 = t278 then ((schema_Super.f k2 ((rd_T47 l0 x7_2).f0) ((rd_T47 l0 x7_2).f1) ((rd_T47 l0 x7_2).f2) a2_0 l2_1 a2_2).bind fun t280 => ((peristyleref25_Super.f k2 ((rd_T47 l0 x7_2).f0) ((rd_T47 l0 x7_2).f1) ((rd_T47 l0 x7_2).f2) a2_0 l2_1 a2_2).bind fun t282 => (if (t280 != t282) = true then (none) else (peristylelaw25_SchemaFinds.l0 k2 l0 a1 (wrap64 (x7_2 + 1)) a2_0 l2_1 a2_2)))) else (none))) = some r := H
         have A22 := Aside0.mk A220
         clear A220
         replace H := Option.bind_eq_some_iff.mp H
         obtain ⟨t278, A230, H⟩ := H
         replace H : (if t276 = t278 then ((schema_Super.f k2 ((rd_T47 l0 x7_2).f0) ((rd_T47 l0 x7_2).f1) ((rd_T47 l0 x7_2).f2) a2_0 l2_1 a2_2).bind fun t280 => ((peristyleref25_Super.f k2 ((rd_T47 l0 x7_2).f0) ((rd_T47 l0 x7_2).f1) ((rd_T47 l0 x7_2).f2) a2_0 l2_1 a2_2).bind fun t282 => (if (t280 != t282) = true then (none) else (peristylelaw25_SchemaFinds.l0 k2 l0 a1 (wrap64 (x7_2 + 1)) a2_0 l2_1 a2_2)))) else (none)) = some r := H
         have A23 := Aside0.mk A230
         clear A230
         by_cases c24 : t276 = t278
         ·
          rw [if_pos c24] at H
          have c24b0 : (t276 == t278) = true := beq_iff_eq.mpr c24
          have c24b1 : (t276 != t278) = false := bne_eq_false_iff_eq.mpr c24
          clear c24
          replace H := Option.bind_eq_some_iff.mp H
          obtain ⟨t280, A250, H⟩ := H
          replace H : ((peristyleref25_Super.f k2 ((rd_T47 l0 x7_2).f0) ((rd_T47 l0 x7_2).f1) ((rd_T47 l0 x7_2).f2) a2_0 l2_1 a2_2).bind fun t282 => (if (t280 != t282) = true then (none) else (peristylelaw25_SchemaFinds.l0 k2 l0 a1 (wrap64 (x7_2 + 1)) a2_0 l2_1 a2_2))) = some r := H
          have A25 := Aside0.mk A250
          clear A250
          replace H := Option.bind_eq_some_iff.mp H
          obtain ⟨t282, A260, H⟩ := H
          replace H : (if (t280 != t282) = true then (none) else (peristylelaw25_SchemaFinds.l0 k2 l0 a1 (wrap64 (x7_2 + 1)) a2_0 l2_1 a2_2)) = some r := H
          have A26 := Aside0.mk A260
          clear A260
          by_cases c27 : (t280 != t282) = true
          ·
           rw [if_pos c27] at H
           exact absurd H (by simp)
          ·
           rw [if_neg c27] at H
           have c27b0 : (t280 != t282) = false := by simpa using c27
           (try (have c27b1 : decide (t280 = t282) = true := by simpa using c27))
           (try (have c27b2 : (t280 == t282) = true := by simpa using c27))
           clear c27
           have H' := Aside0.mk H
           clear H
           try go_wp2
           have n0_ := Aside0.mk (blk_drew BK269.out)
           have n1_ := Aside0.mk (below_drew1 HB.out)
           clear BK269
           clear HB
           have BK269 := n0_
           have HB := n1_
           clear n0_ n1_
           have p275 : 0 ≤ (x7_2 : Int) := of_decide_eq_true (by first | (with_reducible assumption) | assumption)
           have q275 : x7_2 < (l0.length : Int) := of_decide_eq_true (by first | (with_reducible assumption) | assumption)
           obtain ⟨ad275, A275_1, c275_1, A275_2, c275_2, e275, hx275_0, hx275_1, hx275_2, hl275_1, hi275_1, hl275_2, hi275_2⟩ := at_T47 HR0.out x7_2 p275 q275
           have hw275_2 := hx275_2
           have hw275_1 := hx275_1
           have hw275_0 := hx275_0
           cases e275
           replace hx275_0 := (HB.out.cell (World.block_lt_of_cell? w _ hx275_0)).trans hx275_0
           replace hx275_1 := (HB.out.cell (World.block_lt_of_cell? w _ hx275_1)).trans hx275_1
           replace hx275_2 := (HB.out.cell (World.block_lt_of_cell? w _ hx275_2)).trans hx275_2
           have HR275_1 := Aside0.mk hi275_1
           have HC275_1 := Aside0.mk hl275_1
           clear hi275_1 hl275_1
           have HR275_2 := Aside0.mk hi275_2
           have HC275_2 := Aside0.mk hl275_2
           clear hi275_2 hl275_2
           replace p275 := eq_true p275
           replace q275 := eq_true q275
           have p277 : 0 ≤ (x7_2 : Int) := of_decide_eq_true (by first | (with_reducible assumption) | assumption)
           have q277 : x7_2 < (l0.length : Int) := of_decide_eq_true (by first | (with_reducible assumption) | assumption)
           obtain ⟨ad277, A277_1, c277_1, A277_2, c277_2, e277, hx277_0, hx277_1, hx277_2, hl277_1, hi277_1, hl277_2, hi277_2⟩ := at_T47 HR0.out x7_2 p277 q277
           have hw277_2 := hx277_2
           have hw277_1 := hx277_1
           have hw277_0 := hx277_0
           obtain rfl : ad275 = ad277 := (by injection e277)
           try have hq277_1 := Aside0.mk (Option.some.inj (hw275_1.symm.trans hw277_1))
           try have hq277_2 := Aside0.mk (Option.some.inj (hw275_2.symm.trans hw277_2))
           replace hx277_0 := (HB.out.cell (World.block_lt_of_cell? w _ hx277_0)).trans hx277_0
           replace hx277_1 := (HB.out.cell (World.block_lt_of_cell? w _ hx277_1)).trans hx277_1
           replace hx277_2 := (HB.out.cell (World.block_lt_of_cell? w _ hx277_2)).trans hx277_2
           have HR277_1 := Aside0.mk hi277_1
           have HC277_1 := Aside0.mk hl277_1
           clear hi277_1 hl277_1
           have HR277_2 := Aside0.mk hi277_2
           have HC277_2 := Aside0.mk hl277_2
           clear hi277_2 hl277_2
           replace p277 := eq_true p277
           replace q277 := eq_true q277
           have ea_ := Option.some.inj (hx275_1.symm.trans hx277_1)
           injection ea_ with ea_ en_ ec_
           subst ea_
           subst ec_
           clear en_
           have ea_ := Option.some.inj (hx275_2.symm.trans hx277_2)
           injection ea_ with ea_ en_ ec_
           subst ea_
           subst ec_
           clear en_
           have p279 : 0 ≤ (x7_2 : Int) := of_decide_eq_true (by first | (with_reducible assumption) | assumption)
           have q279 : x7_2 < (l0.length : Int) := of_decide_eq_true (by first | (with_reducible assumption) | assumption)
           obtain ⟨ad279, A279_1, c279_1, A279_2, c279_2, e279, hx279_0, hx279_1, hx279_2, hl279_1, hi279_1, hl279_2, hi279_2⟩ := at_T47 HR0.out x7_2 p279 q279
           have hw279_2 := hx279_2
           have hw279_1 := hx279_1
           have hw279_0 := hx279_0
           obtain rfl : ad275 = ad279 := (by injection e279)
           try have hq279_1 := Aside0.mk (Option.some.inj (hw275_1.symm.trans hw279_1))
           try have hq279_2 := Aside0.mk (Option.some.inj (hw275_2.symm.trans hw279_2))
           replace hx279_0 := (HB.out.cell (World.block_lt_of_cell? w _ hx279_0)).trans hx279_0
           replace hx279_1 := (HB.out.cell (World.block_lt_of_cell? w _ hx279_1)).trans hx279_1
           replace hx279_2 := (HB.out.cell (World.block_lt_of_cell? w _ hx279_2)).trans hx279_2
           have HR279_1 := Aside0.mk hi279_1
           have HC279_1 := Aside0.mk hl279_1
           clear hi279_1 hl279_1
           have HR279_2 := Aside0.mk hi279_2
           have HC279_2 := Aside0.mk hl279_2
           clear hi279_2 hl279_2
           replace p279 := eq_true p279
           replace q279 := eq_true q279
           have p281 : 0 ≤ (x7_2 : Int) := of_decide_eq_true (by first | (with_reducible assumption) | assumption)
           have q281 : x7_2 < (l0.length : Int) := of_decide_eq_true (by first | (with_reducible assumption) | assumption)
           obtain ⟨ad281, A281_1, c281_1, A281_2, c281_2, e281, hx281_0, hx281_1, hx281_2, hl281_1, hi281_1, hl281_2, hi281_2⟩ := at_T47 HR0.out x7_2 p281 q281
           have hw281_2 := hx281_2
           have hw281_1 := hx281_1
           have hw281_0 := hx281_0
           obtain rfl : ad275 = ad281 := (by injection e281)
           try have hq281_1 := Aside0.mk (Option.some.inj (hw275_1.symm.trans hw281_1))
           try have hq281_2 := Aside0.mk (Option.some.inj (hw275_2.symm.trans hw281_2))
           replace hx281_0 := (HB.out.cell (World.block_lt_of_cell? w _ hx281_0)).trans hx281_0
           replace hx281_1 := (HB.out.cell (World.block_lt_of_cell? w _ hx281_1)).trans hx281_1
           replace hx281_2 := (HB.out.cell (World.block_lt_of_cell? w _ hx281_2)).trans hx281_2
           have HR281_1 := Aside0.mk hi281_1
           have HC281_1 := Aside0.mk hl281_1
           clear hi281_1 hl281_1
           have HR281_2 := Aside0.mk hi281_2
           have HC281_2 := Aside0.mk hl281_2
           clear hi281_2 hl281_2
           replace p281 := eq_true p281
           replace q281 := eq_true q281
           refine start_ (n := 28) (S := fun w' => w'.cell? ⟨gb269, 0, none⟩ = some (.string a2_0) ∧ w'.cell? ⟨gb269, 1, none⟩ = some (.slice A2_1 l2_1.length c2_1) ∧ w'.cell? ⟨gb269, 2, none⟩ = some (.int .i64 a2_2) ∧ w'.cell? (ad275.add ((x7_2).toNat * 3)) = some (.string ((rd_T47 l0 x7_2).f0)) ∧ w'.cell? ⟨(ad275.add ((x7_2).toNat * 3)).block, (ad275.add ((x7_2).toNat * 3)).off + 1, none⟩ = some (.slice A275_1 ((rd_T47 l0 x7_2).f1).length c275_1) ∧ w'.cell? ⟨(ad275.add ((x7_2).toNat * 3)).block, (ad275.add ((x7_2).toNat * 3)).off + 2, none⟩ = some (.slice A275_2 ((rd_T47 l0 x7_2).f2).length c275_2) ∧ w'.cell? (ad275.add ((x7_2).toNat * 3)) = some (.string ((rd_T47 l0 x7_2).f0)) ∧ w'.cell? ⟨(ad275.add ((x7_2).toNat * 3)).block, (ad275.add ((x7_2).toNat * 3)).off + 1, none⟩ = some (.slice A275_1 ((rd_T47 l0 x7_2).f1).length c275_1) ∧ w'.cell? ⟨(ad275.add ((x7_2).toNat * 3)).block, (ad275.add ((x7_2).toNat * 3)).off + 2, none⟩ = some (.slice A275_2 ((rd_T47 l0 x7_2).f2).length c275_2) ∧ w'.cell? (ad275.add ((x7_2).toNat * 3)) = some (.string ((rd_T47 l0 x7_2).f0)) ∧ w'.cell? ⟨(ad275.add ((x7_2).toNat * 3)).block, (ad275.add ((x7_2).toNat * 3)).off + 1, none⟩ = some (.slice A279_1 ((rd_T47 l0 x7_2).f1).length c279_1) ∧ w'.cell? ⟨(ad275.add ((x7_2).toNat * 3)).block, (ad275.add ((x7_2).toNat * 3)).off + 2, none⟩ = some (.slice A279_2 ((rd_T47 l0 x7_2).f2).length c279_2) ∧ w'.cell? (ad275.add ((x7_2).toNat * 3)) = some (.string ((rd_T47 l0 x7_2).f0)) ∧ w'.cell? ⟨(ad275.add ((x7_2).toNat * 3)).block, (ad275.add ((x7_2).toNat * 3)).off + 1, none⟩ = some (.slice A281_1 ((rd_T47 l0 x7_2).f1).length c281_1) ∧ w'.cell? ⟨(ad275.add ((x7_2).toNat * 3)).block, (ad275.add ((x7_2).toNat * 3)).off + 2, none⟩ = some (.slice A281_2 ((rd_T47 l0 x7_2).f2).length c281_2)) (ds := []) #[Z,Z,Z,Z,Z,Z,Z,Z,Z,Z,Z,Z,Z,Z,Z,Z,Z,Z,Z,Z,Z,Z,Z,Z,Z,Z,Z,Z] (by kernel_rfl) rfl rfl ⟨(blk_cell BK269.out 0).trans rfl, (blk_cell BK269.out 1).trans rfl, (blk_cell BK269.out 2).trans rfl, ((HB.out.cell (World.block_lt_of_cell? w _ hw275_0)).trans hw275_0), ((HB.out.cell (World.block_lt_of_cell? w _ hw275_1)).trans hw275_1), ((HB.out.cell (World.block_lt_of_cell? w _ hw275_2)).trans hw275_2), ((HB.out.cell (World.block_lt_of_cell? w _ hw277_0)).trans hw277_0), ((HB.out.cell (World.block_lt_of_cell? w _ hw277_1)).trans hw277_1), ((HB.out.cell (World.block_lt_of_cell? w _ hw277_2)).trans hw277_2), ((HB.out.cell (World.block_lt_of_cell? w _ hw279_0)).trans hw279_0), ((HB.out.cell (World.block_lt_of_cell? w _ hw279_1)).trans hw279_1), ((HB.out.cell (World.block_lt_of_cell? w _ hw279_2)).trans hw279_2), ((HB.out.cell (World.block_lt_of_cell? w _ hw281_0)).trans hw281_0), ((HB.out.cell (World.block_lt_of_cell? w _ hw281_1)).trans hw281_1), ((HB.out.cell (World.block_lt_of_cell? w _ hw281_2)).trans hw281_2)⟩ (fun hHeld => ?_); refine with_tabW peristylelaw25_SchemaFinds.tab8 peristylelaw25_SchemaFinds.bits8 (fun HT_ HW_ => ?_)
           generalize wr.drew = w28 at BK269 HB HR275_1 HR275_2 HR277_1 HR277_2 HR279_1 HR279_2 HR281_1 HR281_2 hx275_0 hx275_1 hx275_2 hx277_0 hx277_1 hx277_2 hx279_0 hx279_1 hx279_2 hx281_0 hx281_1 hx281_2 hHeld ⊢
           refine pure_ (i := 0) (N := some 36) (v := ?_) (a' := ?_) #[Y,Z,Z,Z,Z,Z,Z,Z,Z,Z,Z,Z,Z,Z,Z,Z,Z,Z,Z,Z,Z,Z,Z,Z,Z,Z,Z,Z] rfl rfl (any_of HT_.out (by kernel_rfl)) (fun _ _ _ h => h) (Or.inl ⟨by rfl, ?_⟩) ?_ ?_
           rotate_left
           ·
            intro w'
            go_simp
            with_reducible rfl
           rotate_left
           ·
            simp only [Act.put, List.setIfInBounds_toArray, List.set_cons_zero, List.set_cons_succ, i64_w, i32_w]
            rfl
           refine pure_ (i := 1) (N := some 37) (v := ?_) (a' := ?_) #[Y,Y,Z,Z,Z,Z,Z,Z,Z,Z,Z,Z,Z,Z,Z,Z,Z,Z,Z,Z,Z,Z,Z,Z,Z,Z,Z,Z] rfl rfl (any_of HT_.out (by kernel_rfl)) (fun _ _ _ h => h) (Or.inl ⟨by rfl, ?_⟩) ?_ ?_
           rotate_left
           ·
            intro w'
            go_simp
            with_reducible rfl
           rotate_left
           ·
            simp only [Act.put, List.setIfInBounds_toArray, List.set_cons_zero, List.set_cons_succ, i64_w, i32_w]
            rfl
           refine pure_ (i := 2) (N := some 38) (v := ?_) (a' := ?_) #[Y,Y,Y,Z,Z,Z,Z,Z,Z,Z,Z,Z,Z,Z,Z,Z,Z,Z,Z,Z,Z,Z,Z,Z,Z,Z,Z,Z] rfl rfl (any_of HT_.out (by kernel_rfl)) (fun _ _ _ h => h) (Or.inl ⟨by rfl, ?_⟩) ?_ ?_
           rotate_left
           ·
            intro w'
            go_simp
            with_reducible rfl
           rotate_left
           ·
            simp only [Act.put, List.setIfInBounds_toArray, List.set_cons_zero, List.set_cons_succ, i64_w, i32_w]
            rfl
           refine pure_ (i := 4) (N := some 40) (v := ?_) (a' := ?_) #[Y,Y,Y,Z,Y,Z,Z,Z,Z,Z,Z,Z,Z,Z,Z,Z,Z,Z,Z,Z,Z,Z,Z,Z,Z,Z,Z,Z] rfl rfl (any_of HT_.out (by kernel_rfl)) (fun _ _ _ h => h) (Or.inl ⟨by rfl, ?_⟩) ?_ ?_
           rotate_left
           ·
            intro w'
            go_simp
            with_reducible rfl
           rotate_left
           ·
            simp only [Act.put, List.setIfInBounds_toArray, List.set_cons_zero, List.set_cons_succ, i64_w, i32_w]
            rfl
           refine pure_ (i := 6) (N := some 42) (v := ?_) (a' := ?_) #[Y,Y,Y,Z,Y,Z,Y,Z,Z,Z,Z,Z,Z,Z,Z,Z,Z,Z,Z,Z,Z,Z,Z,Z,Z,Z,Z,Z] rfl rfl (any_of HT_.out (by kernel_rfl)) (fun _ _ _ h => h) (Or.inl ⟨by rfl, ?_⟩) ?_ ?_
           rotate_left
           ·
            intro w'
            go_simp
            with_reducible rfl
           rotate_left
           ·
            simp only [Act.put, List.setIfInBounds_toArray, List.set_cons_zero, List.set_cons_succ, i64_w, i32_w]
            rfl
           refine pure_ (i := 7) (N := some 43) (v := ?_) (a' := ?_) #[Y,Y,Y,Z,Y,Z,Y,Y,Z,Z,Z,Z,Z,Z,Z,Z,Z,Z,Z,Z,Z,Z,Z,Z,Z,Z,Z,Z] rfl rfl (any_of HT_.out (by kernel_rfl)) (fun _ _ _ h => h) (Or.inl ⟨by rfl, ?_⟩) ?_ ?_
           rotate_left
           ·
            intro w'
            go_simp
            with_reducible rfl
           rotate_left
           ·
            simp only [Act.put, List.setIfInBounds_toArray, List.set_cons_zero, List.set_cons_succ, i64_w, i32_w]
            rfl
           refine pure_ (i := 8) (N := some 44) (v := ?_) (a' := ?_) #[Y,Y,Y,Z,Y,Z,Y,Y,Y,Z,Z,Z,Z,Z,Z,Z,Z,Z,Z,Z,Z,Z,Z,Z,Z,Z,Z,Z] rfl rfl (any_of HT_.out (by kernel_rfl)) (fun _ _ _ h => h) (Or.inl ⟨by rfl, ?_⟩) ?_ ?_
           rotate_left
           ·
            intro w'
            go_simp
            with_reducible rfl
           rotate_left
           ·
            simp only [Act.put, List.setIfInBounds_toArray, List.set_cons_zero, List.set_cons_succ, i64_w, i32_w]
            rfl
           refine pure_ (i := 10) (N := some 46) (v := ?_) (a' := ?_) #[Y,Y,Y,Z,Y,Z,Y,Y,Y,Z,Y,Z,Z,Z,Z,Z,Z,Z,Z,Z,Z,Z,Z,Z,Z,Z,Z,Z] rfl rfl (any_of HT_.out (by kernel_rfl)) (fun _ _ _ h => h) (Or.inl ⟨by rfl, ?_⟩) ?_ ?_
           rotate_left
           ·
            intro w'
            go_simp
            with_reducible rfl
           rotate_left
           ·
            simp only [Act.put, List.setIfInBounds_toArray, List.set_cons_zero, List.set_cons_succ, i64_w, i32_w]
            rfl
           refine take_ (i := 3) (N := some 39) (v := ?_) (a' := ?_) #[Y,Y,Y,Y,Y,Z,Y,Y,Y,Z,Y,Z,Z,Z,Z,Z,Z,Z,Z,Z,Z,Z,Z,Z,Z,Z,Z,Z] rfl rfl (take_ofW HT_.out HW_.out (by kernel_rfl)) (fun _ _ _ h => h) (Or.inl ⟨by rfl, ?_⟩) hHeld ?_ ?_
           rotate_left
           ·
            rintro w' ⟨s0, s1, s2, s3, s4, s5, s6, s7, s8, s9, s10, s11, s12, s13, s14⟩
            go_simp
            with_reducible rfl
           rotate_left
           ·
            simp only [Act.put, List.setIfInBounds_toArray, List.set_cons_zero, List.set_cons_succ, i64_w, i32_w]
            rfl
           refine take_ (i := 9) (N := some 45) (v := ?_) (a' := ?_) #[Y,Y,Y,Y,Y,Z,Y,Y,Y,Y,Y,Z,Z,Z,Z,Z,Z,Z,Z,Z,Z,Z,Z,Z,Z,Z,Z,Z] rfl rfl (take_ofW HT_.out HW_.out (by kernel_rfl)) (fun _ _ _ h => h) (Or.inl ⟨by rfl, ?_⟩) hHeld ?_ ?_
           rotate_left
           ·
            rintro w' ⟨s0, s1, s2, s3, s4, s5, s6, s7, s8, s9, s10, s11, s12, s13, s14⟩
            go_simp
            with_reducible rfl
           rotate_left
           ·
            simp only [Act.put, List.setIfInBounds_toArray, List.set_cons_zero, List.set_cons_succ, i64_w, i32_w]
            rfl
           refine one_ (i := 5) (N := some 41) #[Y,Y,Y,Y,Y,Y,Y,Y,Y,Y,Y,Z,Z,Z,Z,Z,Z,Z,Z,Z,Z,Z,Z,Z,Z,Z,Z,Z] rfl rfl (one_of HT_.out (by kernel_rfl)) (by decide) (fun K hK => ?_)
           refine goes_ Try.func33 (by kernel_rfl) rfl #[.agg #[.string ((rd_T47 l0 x7_2).f0), .slice A275_1 ((rd_T47 l0 x7_2).f1).length c275_1, .slice A275_2 ((rd_T47 l0 x7_2).f2).length c275_2], .string a1] (by rfl) rfl rfl (by (try simp only [List.map_toArray, List.map_cons, List.map_nil]); first | done | rfl | (simp only [List.length_drop, List.length_take]; rfl)) ?_
           with_reducible refine (schema_Column.calls k2 ((rd_T47 l0 x7_2).f0) _ _ ((rd_T47 l0 x7_2).f1) _ _ ((rd_T47 l0 x7_2).f2) a1 t276 _ ?side1 ?side2 ?side3 ?side4 A22.out).mono ?_
           (case side1 => repeat (first | exact (Kd.C_below HR275_1.out HB.out) | (with_reducible refine Kd.C_alloc ?_ _) | (with_reducible refine Kd.C_drewN ?_ _) | (with_reducible refine Kd.C_drew ?_)))
           (case side2 => exact HC275_1.out)
           (case side3 => repeat (first | exact (Kd.C_below HR275_2.out HB.out) | (with_reducible refine Kd.C_alloc ?_ _) | (with_reducible refine Kd.C_drewN ?_ _) | (with_reducible refine Kd.C_drew ?_)))
           (case side4 => exact HC275_2.out)
           rintro e w29 ⟨rfl, hb⟩
           refine ⟨_, rfl, ?_⟩
           have n0_ := Aside0.mk (blk_below (g := gb269) (o := .cells #[.string a2_0, .slice A2_1 l2_1.length c2_1, .int .i64 a2_2] 52 (0, 0)) (by (with_reducible repeat (first | refine blk_drewN ?_ _ | refine blk_drew ?_ | refine blk_alloc ?_ _)); exact BK269.out) hb)
           have n1_ := Aside0.mk (below_step (by repeat (first | (with_reducible first | exact HB.out | apply below_alloc | apply pw_below_drewN | apply below_drew1 | refine below_set ?_ GE269.out) | exact HB.out)) hb)
           clear BK269
           clear HB
           have BK269 := n0_
           have HB := n1_
           clear n0_ n1_
           (try clear hb)
           (try clear hb2)
           (try clear hk)
           (try clear hi)
           refine hK.out _ _ ⟨(blk_cell BK269.out 0).trans rfl, (blk_cell BK269.out 1).trans rfl, (blk_cell BK269.out 2).trans rfl, ((HB.out.cell (World.block_lt_of_cell? w _ hw275_0)).trans hw275_0), ((HB.out.cell (World.block_lt_of_cell? w _ hw275_1)).trans hw275_1), ((HB.out.cell (World.block_lt_of_cell? w _ hw275_2)).trans hw275_2), ((HB.out.cell (World.block_lt_of_cell? w _ hw277_0)).trans hw277_0), ((HB.out.cell (World.block_lt_of_cell? w _ hw277_1)).trans hw277_1), ((HB.out.cell (World.block_lt_of_cell? w _ hw277_2)).trans hw277_2), ((HB.out.cell (World.block_lt_of_cell? w _ hw279_0)).trans hw279_0), ((HB.out.cell (World.block_lt_of_cell? w _ hw279_1)).trans hw279_1), ((HB.out.cell (World.block_lt_of_cell? w _ hw279_2)).trans hw279_2), ((HB.out.cell (World.block_lt_of_cell? w _ hw281_0)).trans hw281_0), ((HB.out.cell (World.block_lt_of_cell? w _ hw281_1)).trans hw281_1), ((HB.out.cell (World.block_lt_of_cell? w _ hw281_2)).trans hw281_2)⟩ (fun hHeld => ?_)
           clear hK K
           refine norm_ (a' := ?_) ?_ ?_
           rotate_left
           ·
            show Act.put _ (some 41) _ = _
            simp only [Act.put, List.setIfInBounds_toArray, List.set_cons_zero, List.set_cons_succ, i64_w, i32_w]
            rfl
           refine one_ (i := 11) (N := some 47) #[Y,Y,Y,Y,Y,Y,Y,Y,Y,Y,Y,Y,Z,Z,Z,Z,Z,Z,Z,Z,Z,Z,Z,Z,Z,Z,Z,Z] rfl rfl (one_of HT_.out (by kernel_rfl)) (by decide) (fun K hK => ?_)
           refine goes_ Try.func34 (by kernel_rfl) rfl #[.agg #[.string ((rd_T47 l0 x7_2).f0), .slice A275_1 ((rd_T47 l0 x7_2).f1).length c275_1, .slice A275_2 ((rd_T47 l0 x7_2).f2).length c275_2], .string a1] (by rfl) rfl rfl (by (try simp only [List.map_toArray, List.map_cons, List.map_nil]); first | done | rfl | (simp only [List.length_drop, List.length_take]; rfl)) ?_
           with_reducible refine (peristyleref25_Column.calls k2 ((rd_T47 l0 x7_2).f0) _ _ ((rd_T47 l0 x7_2).f1) _ _ ((rd_T47 l0 x7_2).f2) a1 t278 _ ?side1 ?side2 ?side3 ?side4 A23.out).mono ?_
           (case side1 => repeat (first | exact (Kd.C_below HR277_1.out HB.out) | (with_reducible refine Kd.C_alloc ?_ _) | (with_reducible refine Kd.C_drewN ?_ _) | (with_reducible refine Kd.C_drew ?_)))
           (case side2 => exact HC277_1.out)
           (case side3 => repeat (first | exact (Kd.C_below HR277_2.out HB.out) | (with_reducible refine Kd.C_alloc ?_ _) | (with_reducible refine Kd.C_drewN ?_ _) | (with_reducible refine Kd.C_drew ?_)))
           (case side4 => exact HC277_2.out)
           rintro e w30 ⟨rfl, hb⟩
           refine ⟨_, rfl, ?_⟩
           have n0_ := Aside0.mk (blk_below (g := gb269) (o := .cells #[.string a2_0, .slice A2_1 l2_1.length c2_1, .int .i64 a2_2] 52 (0, 0)) (by (with_reducible repeat (first | refine blk_drewN ?_ _ | refine blk_drew ?_ | refine blk_alloc ?_ _)); exact BK269.out) hb)
           have n1_ := Aside0.mk (below_step (by repeat (first | (with_reducible first | exact HB.out | apply below_alloc | apply pw_below_drewN | apply below_drew1 | refine below_set ?_ GE269.out) | exact HB.out)) hb)
           clear BK269
           clear HB
           have BK269 := n0_
           have HB := n1_
           clear n0_ n1_
           (try clear hb)
           (try clear hb2)
           (try clear hk)
           (try clear hi)
           refine hK.out _ _ ⟨(blk_cell BK269.out 0).trans rfl, (blk_cell BK269.out 1).trans rfl, (blk_cell BK269.out 2).trans rfl, ((HB.out.cell (World.block_lt_of_cell? w _ hw275_0)).trans hw275_0), ((HB.out.cell (World.block_lt_of_cell? w _ hw275_1)).trans hw275_1), ((HB.out.cell (World.block_lt_of_cell? w _ hw275_2)).trans hw275_2), ((HB.out.cell (World.block_lt_of_cell? w _ hw277_0)).trans hw277_0), ((HB.out.cell (World.block_lt_of_cell? w _ hw277_1)).trans hw277_1), ((HB.out.cell (World.block_lt_of_cell? w _ hw277_2)).trans hw277_2), ((HB.out.cell (World.block_lt_of_cell? w _ hw279_0)).trans hw279_0), ((HB.out.cell (World.block_lt_of_cell? w _ hw279_1)).trans hw279_1), ((HB.out.cell (World.block_lt_of_cell? w _ hw279_2)).trans hw279_2), ((HB.out.cell (World.block_lt_of_cell? w _ hw281_0)).trans hw281_0), ((HB.out.cell (World.block_lt_of_cell? w _ hw281_1)).trans hw281_1), ((HB.out.cell (World.block_lt_of_cell? w _ hw281_2)).trans hw281_2)⟩ (fun hHeld => ?_)
           clear hK K
           refine norm_ (a' := ?_) ?_ ?_
           rotate_left
           ·
            show Act.put _ (some 47) _ = _
            simp only [Act.put, List.setIfInBounds_toArray, List.set_cons_zero, List.set_cons_succ, i64_w, i32_w]
            rfl
           refine pure_ (i := 12) (N := some 48) (v := ?_) (a' := ?_) #[Y,Y,Y,Y,Y,Y,Y,Y,Y,Y,Y,Y,Y,Z,Z,Z,Z,Z,Z,Z,Z,Z,Z,Z,Z,Z,Z,Z] rfl rfl (any_of HT_.out (by kernel_rfl)) (fun _ _ _ h => h) (Or.inl ⟨by rfl, ?_⟩) ?_ ?_
           rotate_left
           ·
            intro w'
            go_simp
            with_reducible rfl
           rotate_left
           ·
            simp only [Act.put, List.setIfInBounds_toArray, List.set_cons_zero, List.set_cons_succ, i64_w, i32_w]
            rfl
           refine pure_ (i := 13) (N := some 49) (v := ?_) (a' := ?_) #[Y,Y,Y,Y,Y,Y,Y,Y,Y,Y,Y,Y,Y,Y,Z,Z,Z,Z,Z,Z,Z,Z,Z,Z,Z,Z,Z,Z] rfl rfl (any_of HT_.out (by kernel_rfl)) (fun _ _ _ h => h) (Or.inl ⟨by rfl, ?_⟩) ?_ ?_
           rotate_left
           ·
            intro w'
            go_simp
            with_reducible rfl
           rotate_left
           ·
            simp only [Act.put, List.setIfInBounds_toArray, List.set_cons_zero, List.set_cons_succ, i64_w, i32_w]
            rfl
           refine pure_ (i := 14) (N := some 50) (v := ?_) (a' := ?_) #[Y,Y,Y,Y,Y,Y,Y,Y,Y,Y,Y,Y,Y,Y,Y,Z,Z,Z,Z,Z,Z,Z,Z,Z,Z,Z,Z,Z] rfl rfl (any_of HT_.out (by kernel_rfl)) (fun _ _ _ h => h) (Or.inl ⟨by rfl, ?_⟩) ?_ ?_
           rotate_left
           ·
            intro w'
            go_simp
            with_reducible rfl
           rotate_left
           ·
            simp only [Act.put, List.setIfInBounds_toArray, List.set_cons_zero, List.set_cons_succ, i64_w, i32_w]
            rfl
           refine pure_ (i := 15) (N := some 51) (v := ?_) (a' := ?_) #[Y,Y,Y,Y,Y,Y,Y,Y,Y,Y,Y,Y,Y,Y,Y,Y,Z,Z,Z,Z,Z,Z,Z,Z,Z,Z,Z,Z] rfl rfl (any_of HT_.out (by kernel_rfl)) (fun _ _ _ h => h) (Or.inl ⟨by rfl, ?_⟩) ?_ ?_
           rotate_left
           ·
            intro w'
            go_simp
            with_reducible rfl
           rotate_left
           ·
            simp only [Act.put, List.setIfInBounds_toArray, List.set_cons_zero, List.set_cons_succ, i64_w, i32_w]
            rfl
           refine pure_ (i := 16) (N := some 52) (v := ?_) (a' := ?_) #[Y,Y,Y,Y,Y,Y,Y,Y,Y,Y,Y,Y,Y,Y,Y,Y,Y,Z,Z,Z,Z,Z,Z,Z,Z,Z,Z,Z] rfl rfl (any_of HT_.out (by kernel_rfl)) (fun _ _ _ h => h) (Or.inl ⟨by rfl, ?_⟩) ?_ ?_
           rotate_left
           ·
            intro w'
            go_simp
            with_reducible rfl
           rotate_left
           ·
            simp only [Act.put, List.setIfInBounds_toArray, List.set_cons_zero, List.set_cons_succ, i64_w, i32_w]
            rfl
           refine pure_ (i := 20) (N := some 56) (v := ?_) (a' := ?_) #[Y,Y,Y,Y,Y,Y,Y,Y,Y,Y,Y,Y,Y,Y,Y,Y,Y,Z,Z,Z,Y,Z,Z,Z,Z,Z,Z,Z] rfl rfl (any_of HT_.out (by kernel_rfl)) (fun _ _ _ h => h) (Or.inl ⟨by rfl, ?_⟩) ?_ ?_
           rotate_left
           ·
            intro w'
            go_simp
            with_reducible rfl
           rotate_left
           ·
            simp only [Act.put, List.setIfInBounds_toArray, List.set_cons_zero, List.set_cons_succ, i64_w, i32_w]
            rfl
           refine pure_ (i := 21) (N := some 57) (v := ?_) (a' := ?_) #[Y,Y,Y,Y,Y,Y,Y,Y,Y,Y,Y,Y,Y,Y,Y,Y,Y,Z,Z,Z,Y,Y,Z,Z,Z,Z,Z,Z] rfl rfl (any_of HT_.out (by kernel_rfl)) (fun _ _ _ h => h) (Or.inl ⟨by rfl, ?_⟩) ?_ ?_
           rotate_left
           ·
            intro w'
            go_simp
            with_reducible rfl
           rotate_left
           ·
            simp only [Act.put, List.setIfInBounds_toArray, List.set_cons_zero, List.set_cons_succ, i64_w, i32_w]
            rfl
           refine pure_ (i := 22) (N := some 58) (v := ?_) (a' := ?_) #[Y,Y,Y,Y,Y,Y,Y,Y,Y,Y,Y,Y,Y,Y,Y,Y,Y,Z,Z,Z,Y,Y,Y,Z,Z,Z,Z,Z] rfl rfl (any_of HT_.out (by kernel_rfl)) (fun _ _ _ h => h) (Or.inl ⟨by rfl, ?_⟩) ?_ ?_
           rotate_left
           ·
            intro w'
            go_simp
            with_reducible rfl
           rotate_left
           ·
            simp only [Act.put, List.setIfInBounds_toArray, List.set_cons_zero, List.set_cons_succ, i64_w, i32_w]
            rfl
           refine take_ (i := 17) (N := some 53) (v := ?_) (a' := ?_) #[Y,Y,Y,Y,Y,Y,Y,Y,Y,Y,Y,Y,Y,Y,Y,Y,Y,Y,Z,Z,Y,Y,Y,Z,Z,Z,Z,Z] rfl rfl (take_ofW HT_.out HW_.out (by kernel_rfl)) (fun _ _ _ h => h) (Or.inl ⟨by rfl, ?_⟩) hHeld ?_ ?_
           rotate_left
           ·
            rintro w' ⟨s0, s1, s2, s3, s4, s5, s6, s7, s8, s9, s10, s11, s12, s13, s14⟩
            go_simp
            with_reducible rfl
           rotate_left
           ·
            simp only [Act.put, List.setIfInBounds_toArray, List.set_cons_zero, List.set_cons_succ, i64_w, i32_w]
            rfl
           refine take_ (i := 18) (N := some 54) (v := ?_) (a' := ?_) #[Y,Y,Y,Y,Y,Y,Y,Y,Y,Y,Y,Y,Y,Y,Y,Y,Y,Y,Y,Z,Y,Y,Y,Z,Z,Z,Z,Z] rfl rfl (take_ofW HT_.out HW_.out (by kernel_rfl)) (fun _ _ _ h => h) (Or.inl ⟨by rfl, ?_⟩) hHeld ?_ ?_
           rotate_left
           ·
            rintro w' ⟨s0, s1, s2, s3, s4, s5, s6, s7, s8, s9, s10, s11, s12, s13, s14⟩
            go_simp
            with_reducible rfl
           rotate_left
           ·
            simp only [Act.put, List.setIfInBounds_toArray, List.set_cons_zero, List.set_cons_succ, i64_w, i32_w]
            rfl
           refine take_ (i := 23) (N := some 59) (v := ?_) (a' := ?_) #[Y,Y,Y,Y,Y,Y,Y,Y,Y,Y,Y,Y,Y,Y,Y,Y,Y,Y,Y,Z,Y,Y,Y,Y,Z,Z,Z,Z] rfl rfl (take_ofW HT_.out HW_.out (by kernel_rfl)) (fun _ _ _ h => h) (Or.inl ⟨by rfl, ?_⟩) hHeld ?_ ?_
           rotate_left
           ·
            rintro w' ⟨s0, s1, s2, s3, s4, s5, s6, s7, s8, s9, s10, s11, s12, s13, s14⟩
            go_simp
            with_reducible rfl
           rotate_left
           ·
            simp only [Act.put, List.setIfInBounds_toArray, List.set_cons_zero, List.set_cons_succ, i64_w, i32_w]
            rfl
           refine take_ (i := 24) (N := some 60) (v := ?_) (a' := ?_) #[Y,Y,Y,Y,Y,Y,Y,Y,Y,Y,Y,Y,Y,Y,Y,Y,Y,Y,Y,Z,Y,Y,Y,Y,Y,Z,Z,Z] rfl rfl (take_ofW HT_.out HW_.out (by kernel_rfl)) (fun _ _ _ h => h) (Or.inl ⟨by rfl, ?_⟩) hHeld ?_ ?_
           rotate_left
           ·
            rintro w' ⟨s0, s1, s2, s3, s4, s5, s6, s7, s8, s9, s10, s11, s12, s13, s14⟩
            go_simp
            with_reducible rfl
           rotate_left
           ·
            simp only [Act.put, List.setIfInBounds_toArray, List.set_cons_zero, List.set_cons_succ, i64_w, i32_w]
            rfl
           refine one_ (i := 19) (N := some 55) #[Y,Y,Y,Y,Y,Y,Y,Y,Y,Y,Y,Y,Y,Y,Y,Y,Y,Y,Y,Y,Y,Y,Y,Y,Y,Z,Z,Z] rfl rfl (one_of HT_.out (by kernel_rfl)) (by decide) (fun K hK => ?_)
           refine goes_ Try.func35 (by kernel_rfl) rfl #[.agg #[.string ((rd_T47 l0 x7_2).f0), .slice A279_1 ((rd_T47 l0 x7_2).f1).length c279_1, .slice A279_2 ((rd_T47 l0 x7_2).f2).length c279_2], .agg #[.string a2_0, .slice A2_1 l2_1.length c2_1, .int .i64 a2_2]] (by rfl) rfl rfl (by (try simp only [List.map_toArray, List.map_cons, List.map_nil]); first | done | rfl | (simp only [hq279_1.out, hq279_2.out]; rfl) | (simp only [List.length_drop, List.length_take]; rfl)) ?_
           with_reducible refine (schema_Super.calls k2 ((rd_T47 l0 x7_2).f0) _ _ ((rd_T47 l0 x7_2).f1) _ _ ((rd_T47 l0 x7_2).f2) a2_0 _ _ l2_1 a2_2 t280 _ ?side1 ?side2 ?side3 ?side4 ?side5 ?side6 A25.out).mono ?_
           (case side1 => repeat (first | exact (Kd.C_below HR279_1.out HB.out) | (with_reducible refine Kd.C_alloc ?_ _) | (with_reducible refine Kd.C_drewN ?_ _) | (with_reducible refine Kd.C_drew ?_)))
           (case side2 => exact HC279_1.out)
           (case side3 => repeat (first | exact (Kd.C_below HR279_2.out HB.out) | (with_reducible refine Kd.C_alloc ?_ _) | (with_reducible refine Kd.C_drewN ?_ _) | (with_reducible refine Kd.C_drew ?_)))
           (case side4 => exact HC279_2.out)
           (case side5 => repeat (first | exact (Kd.C_below HR2_1.out HB.out) | (with_reducible refine Kd.C_alloc ?_ _) | (with_reducible refine Kd.C_drewN ?_ _) | (with_reducible refine Kd.C_drew ?_)))
           (case side6 => exact HC2_1.out)
           rintro e w31 ⟨rfl, hb⟩
           refine ⟨_, rfl, ?_⟩
           have n0_ := Aside0.mk (blk_below (g := gb269) (o := .cells #[.string a2_0, .slice A2_1 l2_1.length c2_1, .int .i64 a2_2] 52 (0, 0)) (by (with_reducible repeat (first | refine blk_drewN ?_ _ | refine blk_drew ?_ | refine blk_alloc ?_ _)); exact BK269.out) hb)
           have n1_ := Aside0.mk (below_step (by repeat (first | (with_reducible first | exact HB.out | apply below_alloc | apply pw_below_drewN | apply below_drew1 | refine below_set ?_ GE269.out) | exact HB.out)) hb)
           clear BK269
           clear HB
           have BK269 := n0_
           have HB := n1_
           clear n0_ n1_
           (try clear hb)
           (try clear hb2)
           (try clear hk)
           (try clear hi)
           refine hK.out _ _ ⟨(blk_cell BK269.out 0).trans rfl, (blk_cell BK269.out 1).trans rfl, (blk_cell BK269.out 2).trans rfl, ((HB.out.cell (World.block_lt_of_cell? w _ hw275_0)).trans hw275_0), ((HB.out.cell (World.block_lt_of_cell? w _ hw275_1)).trans hw275_1), ((HB.out.cell (World.block_lt_of_cell? w _ hw275_2)).trans hw275_2), ((HB.out.cell (World.block_lt_of_cell? w _ hw277_0)).trans hw277_0), ((HB.out.cell (World.block_lt_of_cell? w _ hw277_1)).trans hw277_1), ((HB.out.cell (World.block_lt_of_cell? w _ hw277_2)).trans hw277_2), ((HB.out.cell (World.block_lt_of_cell? w _ hw279_0)).trans hw279_0), ((HB.out.cell (World.block_lt_of_cell? w _ hw279_1)).trans hw279_1), ((HB.out.cell (World.block_lt_of_cell? w _ hw279_2)).trans hw279_2), ((HB.out.cell (World.block_lt_of_cell? w _ hw281_0)).trans hw281_0), ((HB.out.cell (World.block_lt_of_cell? w _ hw281_1)).trans hw281_1), ((HB.out.cell (World.block_lt_of_cell? w _ hw281_2)).trans hw281_2)⟩ (fun hHeld => ?_)
           clear hK K
           refine norm_ (a' := ?_) ?_ ?_
           rotate_left
           ·
            show Act.put _ (some 55) _ = _
            simp only [Act.put, List.setIfInBounds_toArray, List.set_cons_zero, List.set_cons_succ, i64_w, i32_w]
            rfl
           refine one_ (i := 25) (N := some 61) #[Y,Y,Y,Y,Y,Y,Y,Y,Y,Y,Y,Y,Y,Y,Y,Y,Y,Y,Y,Y,Y,Y,Y,Y,Y,Y,Z,Z] rfl rfl (one_of HT_.out (by kernel_rfl)) (by decide) (fun K hK => ?_)
           refine goes_ Try.func36 (by kernel_rfl) rfl #[.agg #[.string ((rd_T47 l0 x7_2).f0), .slice A281_1 ((rd_T47 l0 x7_2).f1).length c281_1, .slice A281_2 ((rd_T47 l0 x7_2).f2).length c281_2], .agg #[.string a2_0, .slice A2_1 l2_1.length c2_1, .int .i64 a2_2]] (by rfl) rfl rfl (by (try simp only [List.map_toArray, List.map_cons, List.map_nil]); first | done | rfl | (simp only [hq281_1.out, hq281_2.out]; rfl) | (simp only [List.length_drop, List.length_take]; rfl)) ?_
           with_reducible refine (peristyleref25_Super.calls k2 ((rd_T47 l0 x7_2).f0) _ _ ((rd_T47 l0 x7_2).f1) _ _ ((rd_T47 l0 x7_2).f2) a2_0 _ _ l2_1 a2_2 t282 _ ?side1 ?side2 ?side3 ?side4 ?side5 ?side6 A26.out).mono ?_
           (case side1 => repeat (first | exact (Kd.C_below HR281_1.out HB.out) | (with_reducible refine Kd.C_alloc ?_ _) | (with_reducible refine Kd.C_drewN ?_ _) | (with_reducible refine Kd.C_drew ?_)))
           (case side2 => exact HC281_1.out)
           (case side3 => repeat (first | exact (Kd.C_below HR281_2.out HB.out) | (with_reducible refine Kd.C_alloc ?_ _) | (with_reducible refine Kd.C_drewN ?_ _) | (with_reducible refine Kd.C_drew ?_)))
           (case side4 => exact HC281_2.out)
           (case side5 => repeat (first | exact (Kd.C_below HR2_1.out HB.out) | (with_reducible refine Kd.C_alloc ?_ _) | (with_reducible refine Kd.C_drewN ?_ _) | (with_reducible refine Kd.C_drew ?_)))
           (case side6 => exact HC2_1.out)
           rintro e w32 ⟨rfl, hb⟩
           refine ⟨_, rfl, ?_⟩
           have n0_ := Aside0.mk (blk_below (g := gb269) (o := .cells #[.string a2_0, .slice A2_1 l2_1.length c2_1, .int .i64 a2_2] 52 (0, 0)) (by (with_reducible repeat (first | refine blk_drewN ?_ _ | refine blk_drew ?_ | refine blk_alloc ?_ _)); exact BK269.out) hb)
           have n1_ := Aside0.mk (below_step (by repeat (first | (with_reducible first | exact HB.out | apply below_alloc | apply pw_below_drewN | apply below_drew1 | refine below_set ?_ GE269.out) | exact HB.out)) hb)
           clear BK269
           clear HB
           have BK269 := n0_
           have HB := n1_
           clear n0_ n1_
           (try clear hb)
           (try clear hb2)
           (try clear hk)
           (try clear hi)
           refine hK.out _ _ ⟨(blk_cell BK269.out 0).trans rfl, (blk_cell BK269.out 1).trans rfl, (blk_cell BK269.out 2).trans rfl, ((HB.out.cell (World.block_lt_of_cell? w _ hw275_0)).trans hw275_0), ((HB.out.cell (World.block_lt_of_cell? w _ hw275_1)).trans hw275_1), ((HB.out.cell (World.block_lt_of_cell? w _ hw275_2)).trans hw275_2), ((HB.out.cell (World.block_lt_of_cell? w _ hw277_0)).trans hw277_0), ((HB.out.cell (World.block_lt_of_cell? w _ hw277_1)).trans hw277_1), ((HB.out.cell (World.block_lt_of_cell? w _ hw277_2)).trans hw277_2), ((HB.out.cell (World.block_lt_of_cell? w _ hw279_0)).trans hw279_0), ((HB.out.cell (World.block_lt_of_cell? w _ hw279_1)).trans hw279_1), ((HB.out.cell (World.block_lt_of_cell? w _ hw279_2)).trans hw279_2), ((HB.out.cell (World.block_lt_of_cell? w _ hw281_0)).trans hw281_0), ((HB.out.cell (World.block_lt_of_cell? w _ hw281_1)).trans hw281_1), ((HB.out.cell (World.block_lt_of_cell? w _ hw281_2)).trans hw281_2)⟩ (fun hHeld => ?_)
           clear hK K
           refine norm_ (a' := ?_) ?_ ?_
           rotate_left
           ·
            show Act.put _ (some 61) _ = _
            simp only [Act.put, List.setIfInBounds_toArray, List.set_cons_zero, List.set_cons_succ, i64_w, i32_w]
            rfl
           refine pure_ (i := 26) (N := some 62) (v := ?_) (a' := ?_) #[Y,Y,Y,Y,Y,Y,Y,Y,Y,Y,Y,Y,Y,Y,Y,Y,Y,Y,Y,Y,Y,Y,Y,Y,Y,Y,Y,Z] rfl rfl (any_of HT_.out (by kernel_rfl)) (fun _ _ _ h => h) (Or.inl ⟨by rfl, ?_⟩) ?_ ?_
           rotate_left
           ·
            intro w'
            go_simp
            with_reducible rfl
           rotate_left
           ·
            simp only [Act.put, List.setIfInBounds_toArray, List.set_cons_zero, List.set_cons_succ, i64_w, i32_w]
            rfl
           refine pure_ (i := 27) (N := some 63) (v := ?_) (a' := ?_) #[Y,Y,Y,Y,Y,Y,Y,Y,Y,Y,Y,Y,Y,Y,Y,Y,Y,Y,Y,Y,Y,Y,Y,Y,Y,Y,Y,Y] rfl rfl (any_of HT_.out (by kernel_rfl)) (fun _ _ _ h => h) (Or.inl ⟨by rfl, ?_⟩) ?_ ?_
           rotate_left
           ·
            intro w'
            go_simp
            with_reducible rfl
           rotate_left
           ·
            simp only [Act.put, List.setIfInBounds_toArray, List.set_cons_zero, List.set_cons_succ, i64_w, i32_w]
            rfl
           refine done_ (done_of HT_.out (by kernel_rfl)) ?_
           try go_wp2
           go_roundg k2
           case measure => have := HJ3.out; have := HK2.out; omega
           case rel => exact ⟨(wrap64 (x7_2 + 1)), (by first | rfl | (simp; done) | (simp [*]; done)), H', ⟨by have := HJ3.out; have := HK2.out; omega⟩, ⟨by (with_reducible repeat (first | refine blk_drewN ?_ _ | refine blk_drew ?_ | refine blk_alloc ?_ _)); exact BK269.out⟩, ⟨by repeat (first | (with_reducible first | exact HB.out | apply below_alloc | apply pw_below_drewN | apply below_drew1 | refine below_set ?_ GE269.out) | exact HB.out)⟩⟩
         ·
          rw [if_neg c24] at H
          have c24b0 : (t276 == t278) = false := beq_eq_false_iff_ne.mpr c24
          have c24b1 : (t276 != t278) = true := bne_iff_ne.mpr c24
          exact absurd H (by simp)
        ·
         rw [if_neg c21] at H
         exact absurd H (by simp)
       ·
        rw [if_neg c20] at H
        have c20b0 : decide (x7_2 < (l0.length : Int)) = false := decide_eq_false c20
        clear c20
        replace H := Option.bind_eq_some_iff.mp H
        obtain ⟨t274, A330, H⟩ := H
        replace H : (some t274) = some r := H
        have A33 := Aside0.mk A330
        clear A330
        obtain rfl := Option.some.inj H
        go_wp2_with (first | ((with_reducible refine gate_callee (f := 25) rfl ?_); refine goesL_ (some 64) rfl rfl Try.func25 (by kernel_rfl) rfl #[] rfl (by (try simp only [List.map_toArray, List.map_cons, List.map_nil]); first | done | rfl | (simp only [List.length_drop, List.length_take]; rfl)) ?_; (with_reducible refine (peristylelaw25_awake.calls k2  t274 _ A33.out).mono ?_); rintro e w34 ⟨rfl, hb⟩; refine ⟨_, rfl, ?_⟩; have n0_ := Aside0.mk (blk_below (g := gb269) (o := .cells #[.string a2_0, .slice A2_1 l2_1.length c2_1, .int .i64 a2_2] 52 (0, 0)) (by (with_reducible repeat (first | refine blk_drewN ?_ _ | refine blk_drew ?_ | refine blk_alloc ?_ _)); exact BK269.out) hb); have n1_ := Aside0.mk (below_step (by repeat (first | (with_reducible first | exact HB.out | apply below_alloc | apply pw_below_drewN | apply below_drew1 | refine below_set ?_ GE269.out) | exact HB.out)) hb); clear BK269; clear HB; have BK269 := n0_; have HB := n1_; clear n0_ n1_; (try clear hb); (try clear hb2); (try clear hk); (try clear hi)))
        go_ret
        exact ⟨by first | rfl | (simp [errW_none, errW_some] <;> rfl) | (simp [*, errW_none, errW_some] <;> rfl), by repeat (first | (with_reducible first | exact HB.out | apply below_alloc | apply pw_below_drewN | apply below_drew1 | refine below_set ?_ GE269.out) | exact HB.out)⟩
    ·
     rw [if_neg c18] at H
     exact absurd H (by simp)
/-- THE ONE PURE STATEMENT of peristylelaw25_SchemaFinds: yours. -/
def peristylelaw25_SchemaFinds.Pure : Prop := ∀ (l0 : List (S47)) (a1 : ByteArray) (a2_0 : ByteArray) (l2_1 : List Int) (a2_2 : Int), l0.length ≤ maxLen → (∀ x ∈ l0, (x.f0.size ≤ maxLen) ∧ (x.f1.length ≤ maxLen ∧ ∀ x_ ∈ x.f1, (x_.f0.size ≤ maxLen) ∧ ((Lit.int .i64 x_.f1).wf = true) ∧ (True)) ∧ (x.f2.length ≤ maxLen ∧ ∀ x_ ∈ x.f2, (x_.f0.size ≤ maxLen) ∧ (x_.f1.length ≤ maxLen ∧ ∀ x__ ∈ x_.f1, (Lit.int .i64 x__).wf = true) ∧ ((Lit.int .i64 x_.f2).wf = true))) → a1.size ≤ 140737488351232 → a2_0.size ≤ maxLen → l2_1.length ≤ maxLen → (∀ x ∈ l2_1, (Lit.int .i64 x).wf = true) → (Lit.int .i64 a2_2).wf = true → ∃ k, peristylelaw25_SchemaFinds.f k l0 a1 a2_0 l2_1 a2_2 = some true
theorem peristylelaw25_SchemaFinds.walk (P : peristylelaw25_SchemaFinds.Pure) (a0 : Option Addr) (cap0 : Nat) (l0 : List (S47)) (a1 : ByteArray) (a2_0 : ByteArray) (A2_1 : Option Addr) (c2_1 : Nat) (l2_1 : List Int) (a2_2 : Int) (w : World) (r0 : Kd.C k47 w a0 l0.length l0) (q0 : l0.length ≤ cap0) (m0 : l0.length ≤ maxLen) (g0 : ∀ x ∈ l0, (x.f0.size ≤ maxLen) ∧ (x.f1.length ≤ maxLen ∧ ∀ x_ ∈ x.f1, (x_.f0.size ≤ maxLen) ∧ ((Lit.int .i64 x_.f1).wf = true) ∧ (True)) ∧ (x.f2.length ≤ maxLen ∧ ∀ x_ ∈ x.f2, (x_.f0.size ≤ maxLen) ∧ (x_.f1.length ≤ maxLen ∧ ∀ x__ ∈ x_.f1, (Lit.int .i64 x__).wf = true) ∧ ((Lit.int .i64 x_.f2).wf = true))) (w1 : a1.size ≤ 140737488351232) (w2_0 : a2_0.size ≤ maxLen) (r2_1 : Kd.C (Kd.int .i64) w A2_1 l2_1.length l2_1) (q2_1 : l2_1.length ≤ c2_1) (m2_1 : l2_1.length ≤ maxLen) (g2_1 : ∀ x ∈ l2_1, (Lit.int .i64 x).wf = true) (w2_2 : (Lit.int .i64 a2_2).wf = true) :
  Calls Try.prog 6 #[.slice a0 l0.length cap0, .string a1, .agg #[.string a2_0, .slice A2_1 l2_1.length c2_1, .int .i64 a2_2]] w fun e w' => e = .returned (.bool true) ∧ Below w.heap.size w w' := by
 obtain ⟨k, h⟩ := P l0 a1 a2_0 l2_1 a2_2 m0 g0 w1 w2_0 m2_1 g2_1 w2_2
 refine (peristylelaw25_SchemaFinds.calls k _ _ l0 a1 a2_0 _ _ l2_1 a2_2 true w r0 q0 r2_1 q2_1 h).mono ?_
 rintro e w' ⟨rfl, hd⟩
 exact ⟨rfl, hd⟩
end Go.Proofs.Ytgjclhhjigflkac.C

/- What the document's small functions of tables come to: Name, Columns (law 25). -/
namespace Go.Proofs.Ytgjclhhjigflkac.Sc
open Go Go.RowKit Go.Proofs.Ytgjclhhjigflkac.C Go.Proofs.Ytgjclhhjigflkac.Hand Go.Proofs.Ytgjclhhjigflkac.EvW Go.Proofs.YtgjclhhjigflkacW.PrintWords
set_option linter.unusedVariables false
set_option linter.unusedSimpArgs false
theorem ba_len (s : ByteArray) : s.data.toList.length = s.size := by rw [Array.length_toList]; rfl
theorem ba_loop (bs : ByteArray) : ∀ (d i : Nat) (r : List UInt8), i + d = bs.size → ByteArray.toList.loop bs i r = r.reverse ++ (bs.data.toList.drop i) := by
  intro d
  induction d with
  | zero =>
    intro i r h
    rw [ByteArray.toList.loop, if_neg (by omega), List.drop_of_length_le (by rw [ba_len]; omega), List.append_nil]
  | succ d ih =>
    intro i r h
    have hi : i < bs.data.toList.length := by rw [ba_len]; omega
    rw [ByteArray.toList.loop, if_pos (by omega), ih (i + 1) _ (by omega), List.drop_eq_getElem_cons hi]
    have e : bs.get! i = bs.data.toList[i] := by
      have h2 : i < bs.data.size := by rw [ba_len] at hi; exact hi
      rw [Array.getElem_toList]
      unfold ByteArray.get!
      exact getElem!_pos bs.data i h2
    rw [e]
    simp
theorem ba_data (bs : ByteArray) : bs.toList = bs.data.toList := by
  unfold ByteArray.toList
  rw [ba_loop bs bs.size 0 [] (by omega)]
  rfl
theorem ba_inj {a b : ByteArray} (h : a.toList = b.toList) : a = b := by
  rw [ba_data, ba_data] at h
  exact ByteArray.ext (Array.ext' h)
theorem okc_if {α : Type} (i : Nat) (c : Int) (x y : α) : (if c ≥ 97 then (if c ≤ 122 then x else (if (i : Int) = 0 then y else (if c = 95 then x else (if c < 48 then y else (if c > 57 then y else x))))) else (if (i : Int) = 0 then y else (if c = 95 then x else (if c < 48 then y else (if c > 57 then y else x))))) = if okc i c = true then x else y := by
  unfold okc
  have h7 : ((i : Int) = 0) = (i = 0) := by simp
  have h8 : (c < 48) = ¬ 48 ≤ c := by simp
  have h9 : (c > 57) = ¬ c ≤ 57 := by simp
  have h0 : (c ≥ 97) = (97 ≤ c) := rfl
  simp only [h8, h9, h7, h0]
  by_cases h1 : 97 ≤ c <;> by_cases h2 : c ≤ 122 <;> by_cases h3 : i = 0 <;> by_cases h4 : c = 95 <;> by_cases h5 : 48 ≤ c <;> by_cases h6 : c ≤ 57 <;> first | omega | simp [h1, h2, h3, h4, h5, h6]
theorem name_l0 (s : ByteArray) (hs : s.size ≤ 1000000) : ∀ d i : Nat, i + d = s.size → ∀ b : Bool, (b = true ↔ ∀ m, i ≤ m → m < s.size → okc m (bt s (m : Int)) = true) → Ev (fun k => peristyleref25_Name.l0 k s (i : Int)) b
  | 0, i, hi, b, hb => by
    have : b = true := hb.2 (fun m h1 h2 => by omega)
    subst this
    exact Ev.step (f := fun _ => some true) (fun k => by rw [peristyleref25_Name.l0, if_neg (by omega)]) (Ev.now _)
  | d + 1, i, hi, b, hb => by
    by_cases ho : okc i (bt s (i : Int)) = true
    · refine Ev.step (f := fun k => peristyleref25_Name.l0 k s ((i + 1 : Nat) : Int)) (fun k => ?_) (name_l0 s hs d (i + 1) (by omega) b ⟨fun h m h1 h2 => hb.1 h m (by omega) h2, fun h => hb.2 (fun m h1 h2 => ?_)⟩)
      · rw [peristyleref25_Name.l0, if_pos (by omega), if_pos (by omega), okc_if, if_pos ho, w64 i (by omega)]
      · by_cases he : m = i
        · subst he; exact ho
        · exact h m (by omega) h2
    · have : b = false := by
        cases b
        · rfl
        · exact absurd (hb.1 rfl i (Nat.le_refl _) (by omega)) ho
      subst this
      refine Ev.step (f := fun k => some false) (fun k => ?_) (Ev.now _)
      rw [peristyleref25_Name.l0, if_pos (by omega), if_pos (by omega), okc_if, if_neg ho]
theorem name_ev (s : ByteArray) (hs : s.size ≤ 1000000) : Ev (fun k => peristyleref25_Name.f k s) (nameP s) := by
  unfold peristyleref25_Name.f
  have hj : ∀ x : Bool, (x = true ↔ s.size < 1 ∨ 16 < s.size) → Ev (fun k => peristyleref25_Name.j0 k s x) (nameP s) := by
    intro x hx
    cases x with
    | true =>
      have h := hx.1 rfl
      have hn : nameP s = false := by
        unfold nameP
        rcases h with h | h
        · rw [decide_eq_false (show ¬ 1 ≤ s.size by omega)]; simp
        · rw [decide_eq_false (show ¬ s.size ≤ 16 by omega)]; simp
      rw [hn]
      exact Ev.step (f := fun _ => some false) (fun k => by rw [peristyleref25_Name.j0, if_pos rfl]) (Ev.now _)
    | false =>
      have h : ¬ (s.size < 1 ∨ 16 < s.size) := fun h => by cases hx.2 h
      refine Ev.step (f := fun k => peristyleref25_Name.l0 k s ((0 : Nat) : Int)) (fun k => by rw [peristyleref25_Name.j0, if_neg (by decide)]; rfl) (name_l0 s hs s.size 0 (Nat.zero_add _) _ ?_)
      unfold nameP okAll
      rw [decide_eq_true (show 1 ≤ s.size by omega), decide_eq_true (show s.size ≤ 16 by omega)]
      simp only [Bool.and_true, List.all_eq_true, List.mem_range]
      exact ⟨fun h m _ h2 => h m h2, fun h m h2 => h m (Nat.zero_le _) h2⟩
  by_cases h : (s.size : Int) < 1
  · exact ev_pos h (hj true ⟨fun _ => Or.inl (by omega), fun _ => rfl⟩)
  · refine ev_neg h (hj _ ?_)
    simp only [decide_eq_true_eq]
    omega
theorem rdC_at (l : List Col) (i : Nat) (h : i < l.length) : rd_T96 l (i : Int) = l[i] := by
  unfold rd_T96
  rw [Int.toNat_natCast, List.getD_eq_getElem?_getD, List.getElem?_eq_getElem h]
  rfl
theorem ba_eq (a b : ByteArray) : (a.toList = b.toList) = (a = b) := propext ⟨ba_inj, fun h => by rw [h]⟩
/-- no entry from j on, ahead of i, has i's key -/
def ahead {α β : Type} (f : α → β) (l : List α) (i j : Nat) : Prop := ∀ (m : Nat) (x y : α), j ≤ m → m < i → l[m]? = some x → l[i]? = some y → f x ≠ f y
theorem nodup_ahead {α β : Type} [DecidableEq β] (f : α → β) (l : List α) : (l.map f).Nodup ↔ ∀ i, i < l.length → ahead f l i 0 := by
  unfold ahead
  constructor
  · intro h i hi m x y _ hm hx hy he
    have hm2 : m < l.length := by omega
    rw [List.getElem?_eq_getElem hm2] at hx
    rw [List.getElem?_eq_getElem hi] at hy
    injection hx with hx
    injection hy with hy
    have h2 := List.pairwise_iff_getElem.1 h m i (by simpa using hm2) (by simpa using hi) hm
    simp only [List.getElem_map] at h2
    rw [hx, hy] at h2
    exact h2 he
  · intro h
    refine List.pairwise_iff_getElem.2 (fun m i hm hi hmi => ?_)
    simp only [List.length_map] at hm hi
    simp only [List.getElem_map]
    exact h i hi m _ _ (Nat.zero_le _) hmi (List.getElem?_eq_getElem hm) (List.getElem?_eq_getElem hi)
theorem cols_l1 (l : List Col) (hl : l.length ≤ 1000000) (i : Nat) (hi : i < l.length) (b : Bool) (hn : b = true → ahead (·.f0) l i 0) (hk : ahead (·.f0) l i 0 → Ev (fun k => peristyleref25_Columns.l0 k l ((i + 1 : Nat) : Int)) b) :
    ∀ d j : Nat, j + d = i → (∀ m x y, m < j → l[m]? = some x → l[i]? = some y → x.f0 ≠ y.f0) → Ev (fun k => peristyleref25_Columns.l1 k l (i : Int) (j : Int)) b
  | 0, j, hj, hp => by
    refine Ev.step (f := fun k => peristyleref25_Columns.l0 k l ((i + 1 : Nat) : Int)) (fun k => ?_) (hk (fun m x y _ hm hx hy => hp m x y (by omega) hx hy))
    rw [peristyleref25_Columns.l1, if_neg (by omega), w64 i (by omega)]
  | d + 1, j, hj, hp => by
    have hjl : j < l.length := by omega
    by_cases he : l[j].f0 = l[i].f0
    · have : b = false := by
        cases b
        · rfl
        · exact absurd he (hn rfl j _ _ (Nat.zero_le _) (by omega) (List.getElem?_eq_getElem hjl) (List.getElem?_eq_getElem hi))
      subst this
      refine Ev.step (f := fun _ => some false) (fun k => ?_) (Ev.now _)
      rw [peristyleref25_Columns.l1, if_pos (by omega), if_pos (by omega), if_pos (by omega), if_pos (by omega), if_pos (by omega), rdC_at l j hjl, rdC_at l i hi, if_pos (by rw [ba_eq]; exact he)]
    · refine Ev.step (f := fun k => peristyleref25_Columns.l1 k l (i : Int) ((j + 1 : Nat) : Int)) (fun k => ?_) (cols_l1 l hl i hi b hn hk d (j + 1) (by omega) (fun m x y hm hx hy => ?_))
      · rw [peristyleref25_Columns.l1, if_pos (by omega), if_pos (by omega), if_pos (by omega), if_pos (by omega), if_pos (by omega), rdC_at l j hjl, rdC_at l i hi, if_neg (by rw [ba_eq]; exact he), w64 j (by omega)]
      · by_cases hmj : m = j
        · subst hmj
          rw [List.getElem?_eq_getElem hjl] at hx
          rw [List.getElem?_eq_getElem hi] at hy
          injection hx with hx
          injection hy with hy
          rw [← hx, ← hy]
          exact he
        · exact hp m x y (by omega) hx hy
end Go.Proofs.Ytgjclhhjigflkac.Sc

/- What the document's functions of tables come to: Columns, Projection, Super (law 25). -/
namespace Go.Proofs.Ytgjclhhjigflkac.Sc
open Go Go.RowKit Go.Proofs.Ytgjclhhjigflkac.C Go.Proofs.Ytgjclhhjigflkac.Hand Go.Proofs.Ytgjclhhjigflkac.EvW Go.Proofs.YtgjclhhjigflkacW.PrintWords
set_option linter.unusedVariables false
set_option linter.unusedSimpArgs false
theorem bool_no {b : Bool} (h : b = true → False) : b = false := by
  cases b
  · rfl
  · exact (h rfl).elim
theorem cols_j1 (l : List Col) (hl : l.length ≤ 1000000) (i : Nat) (hi : i < l.length) (b x : Bool) (hx : x = !colP l[i]) (hn : b = true → colP l[i] = true ∧ ahead (·.f0) l i 0) (hk : colP l[i] = true → ahead (·.f0) l i 0 → Ev (fun k => peristyleref25_Columns.l0 k l ((i + 1 : Nat) : Int)) b) :
    Ev (fun k => peristyleref25_Columns.j1 k l (i : Int) x) b := by
  cases hc : colP l[i] with
  | false =>
    rw [hc] at hx hn
    obtain rfl := bool_no (fun h => by have := (hn h).1; cases this)
    subst hx
    exact Ev.step (f := fun _ => some false) (fun k => by rw [peristyleref25_Columns.j1, if_pos (by decide)]) (Ev.now _)
  | true =>
    rw [hc] at hx
    subst hx
    refine Ev.step (f := fun k => peristyleref25_Columns.l1 k l (i : Int) ((0 : Nat) : Int)) (fun k => by rw [peristyleref25_Columns.j1, if_neg (by decide)]; rfl) (cols_l1 l hl i hi b (fun h => (hn h).2) (hk hc) i 0 (Nat.zero_add _) (fun m _ _ hm => by omega))
theorem cols_l0 (l : List Col) (hl : l.length ≤ 1000000) (hs : ∀ x ∈ l, x.f0.size ≤ 1000000) : ∀ d i : Nat, i + d = l.length → ∀ b : Bool, (b = true ↔ (∀ (m : Nat) (h : m < l.length), i ≤ m → colP l[m] = true ∧ ahead (·.f0) l m 0) ∧ 1 ≤ l.length ∧ l.length ≤ 8) → Ev (fun k => peristyleref25_Columns.l0 k l (i : Int)) b
  | 0, i, hi, b, hb => by
    by_cases h1 : 1 ≤ l.length
    · refine Ev.step (f := fun _ => some (decide ((l.length : Int) ≤ 8))) (fun k => by rw [peristyleref25_Columns.l0, if_neg (by omega), if_pos (by omega)]) ?_
      have : b = decide ((l.length : Int) ≤ 8) := by
        by_cases h8 : l.length ≤ 8
        · rw [decide_eq_true (by omega)]
          exact hb.2 ⟨fun m h h2 => by omega, h1, h8⟩
        · rw [decide_eq_false (by omega)]
          exact bool_no (fun h => h8 (hb.1 h).2.2)
      rw [this]
      exact Ev.now _
    · obtain rfl := bool_no (fun h => h1 (hb.1 h).2.1)
      exact Ev.step (f := fun _ => some false) (fun k => by rw [peristyleref25_Columns.l0, if_neg (by omega), if_neg (by omega)]) (Ev.now _)
  | d + 1, i, hi, b, hb => by
    have hlt : i < l.length := by omega
    have hJ := fun x hx => cols_j1 l hl i hlt b x hx (fun h => (hb.1 h).1 i hlt (Nat.le_refl _)) (fun hc ha => cols_l0 l hl hs d (i + 1) (by omega) b ⟨fun h => ⟨fun m h1 h2 => (hb.1 h).1 m h1 (by omega), (hb.1 h).2⟩, fun h => hb.2 ⟨fun m h1 h2 => by
      by_cases he : m = i
      · subst he; exact ⟨hc, ha⟩
      · exact h.1 m h1 (by omega), h.2⟩⟩)
    refine Ev.step (f := fun k => (peristyleref25_Name.f k l[i].f0).bind fun t => if t = true then (if l[i].f1 = 1 then peristyleref25_Columns.j1 k l i false else peristyleref25_Columns.j1 k l i (l[i].f1 != 2)) else peristyleref25_Columns.j1 k l i true) (fun k => by rw [peristyleref25_Columns.l0, if_pos (by omega), if_pos (by omega), rdC_at l i hlt]) ?_
    refine Ev.bind (name_ev _ (hs _ (List.getElem_mem hlt))) ?_
    cases hn : nameP l[i].f0 with
    | false => exact ev_neg (by decide) (hJ _ (by unfold colP; rw [hn]; rfl))
    | true =>
      refine ev_pos rfl ?_
      by_cases h1 : l[i].f1 = 1
      · exact ev_pos h1 (hJ _ (by unfold colP; rw [hn, decide_eq_true h1]; rfl))
      · refine ev_neg h1 (hJ _ ?_)
        unfold colP
        rw [hn, decide_eq_false h1]
        by_cases h2 : l[i].f1 = 2
        · rw [h2]; rfl
        · simp [h2]
theorem cols_ev (l : List Col) (hl : l.length ≤ 1000000) (hs : ∀ x ∈ l, x.f0.size ≤ 1000000) : Ev (fun k => peristyleref25_Columns.f k l) (colsP l) := by
  unfold peristyleref25_Columns.f
  refine cols_l0 l hl hs l.length 0 (Nat.zero_add _) _ ?_
  unfold colsP onceP
  simp only [Bool.and_eq_true, decide_eq_true_eq, List.all_eq_true]
  rw [nodup_ahead]
  constructor
  · rintro ⟨⟨⟨h1, h2⟩, h3⟩, h4⟩
    exact ⟨fun m h _ => ⟨h1 _ (List.getElem_mem h), h4 m h⟩, h2, h3⟩
  · rintro ⟨h1, h2, h3⟩
    refine ⟨⟨⟨fun x hx => ?_, h2⟩, h3⟩, fun i h => (h1 i h (Nat.zero_le _)).2⟩
    obtain ⟨m, hm, rfl⟩ := List.getElem_of_mem hx
    exact (h1 m hm (Nat.zero_le _)).1
/-! ### Projection -/
theorem proj_l1 (n : Int) (s : ByteArray) (z : Int) (l : List Int) (hl : l.length ≤ 1000000) (i : Nat) (hi : i < l.length) (b : Bool) (hn : b = true → ahead (fun x => x) l i 0) (hk : ahead (fun x => x) l i 0 → Ev (fun k => peristyleref25_Projection.l0 k n ((i + 1 : Nat) : Int) s l z) b) :
    ∀ d j : Nat, j + d = i → (∀ m x y, m < j → l[m]? = some x → l[i]? = some y → x ≠ y) → Ev (fun k => peristyleref25_Projection.l1 k n (i : Int) (j : Int) s l z) b
  | 0, j, hj, hp => by
    refine Ev.step (f := fun k => peristyleref25_Projection.l0 k n ((i + 1 : Nat) : Int) s l z) (fun k => ?_) (hk (fun m x y _ hm hx hy => hp m x y (by omega) hx hy))
    rw [peristyleref25_Projection.l1, if_neg (by omega), w64 i (by omega)]
  | d + 1, j, hj, hp => by
    have hjl : j < l.length := by omega
    by_cases he : l[j] = l[i]
    · obtain rfl := bool_no (fun h => hn h j _ _ (Nat.zero_le _) (by omega) (List.getElem?_eq_getElem hjl) (List.getElem?_eq_getElem hi) he)
      refine Ev.step (f := fun _ => some false) (fun k => ?_) (Ev.now _)
      rw [peristyleref25_Projection.l1, if_pos (by omega), if_pos (by omega), if_pos (by omega), if_pos (by omega), if_pos (by omega), rd_at l j hjl, rd_at l i hi, if_pos he]
    · refine Ev.step (f := fun k => peristyleref25_Projection.l1 k n (i : Int) ((j + 1 : Nat) : Int) s l z) (fun k => ?_) (proj_l1 n s z l hl i hi b hn hk d (j + 1) (by omega) (fun m x y hm hx hy => ?_))
      · rw [peristyleref25_Projection.l1, if_pos (by omega), if_pos (by omega), if_pos (by omega), if_pos (by omega), if_pos (by omega), rd_at l j hjl, rd_at l i hi, if_neg he, w64 j (by omega)]
      · by_cases hmj : m = j
        · subst hmj
          rw [List.getElem?_eq_getElem hjl] at hx
          rw [List.getElem?_eq_getElem hi] at hy
          injection hx with hx
          injection hy with hy
          rw [← hx, ← hy]
          exact he
        · exact hp m x y (by omega) hx hy
theorem proj_j2 (n : Int) (s : ByteArray) (z : Int) (l : List Int) (hl : l.length ≤ 1000000) (i : Nat) (hi : i < l.length) (b x : Bool) (hx : x = !inP n l[i]) (hn : b = true → inP n l[i] = true ∧ ahead (fun x => x) l i 0) (hk : inP n l[i] = true → ahead (fun x => x) l i 0 → Ev (fun k => peristyleref25_Projection.l0 k n ((i + 1 : Nat) : Int) s l z) b) :
    Ev (fun k => peristyleref25_Projection.j2 k n (i : Int) x s l z) b := by
  cases hc : inP n l[i] with
  | false =>
    rw [hc] at hx hn
    obtain rfl := bool_no (fun h => by have := (hn h).1; cases this)
    subst hx
    exact Ev.step (f := fun _ => some false) (fun k => by rw [peristyleref25_Projection.j2, if_pos (by decide)]) (Ev.now _)
  | true =>
    rw [hc] at hx
    subst hx
    exact Ev.step (f := fun k => peristyleref25_Projection.l1 k n (i : Int) ((0 : Nat) : Int) s l z) (fun k => by rw [peristyleref25_Projection.j2, if_neg (by decide)]; rfl) (proj_l1 n s z l hl i hi b (fun h => (hn h).2) (hk hc) i 0 (Nat.zero_add _) (fun m _ _ hm => by omega))
theorem proj_l0 (n : Int) (s : ByteArray) (z : Int) (l : List Int) (hl : l.length ≤ 1000000) : ∀ d i : Nat, i + d = l.length → ∀ b : Bool, (b = true ↔ ∀ (m : Nat) (h : m < l.length), i ≤ m → inP n l[m] = true ∧ ahead (fun x => x) l m 0) → Ev (fun k => peristyleref25_Projection.l0 k n (i : Int) s l z) b
  | 0, i, hi, b, hb => by
    have : b = true := hb.2 (fun m h h2 => by omega)
    subst this
    exact Ev.step (f := fun _ => some true) (fun k => by rw [peristyleref25_Projection.l0, if_neg (by omega)]) (Ev.now _)
  | d + 1, i, hi, b, hb => by
    have hlt : i < l.length := by omega
    have hJ := fun x hx => proj_j2 n s z l hl i hlt b x hx (fun h => hb.1 h i hlt (Nat.le_refl _)) (fun hc ha => proj_l0 n s z l hl d (i + 1) (by omega) b ⟨fun h m h1 h2 => hb.1 h m h1 (by omega), fun h => hb.2 (fun m h1 h2 => by
      by_cases he : m = i
      · subst he; exact ⟨hc, ha⟩
      · exact h m h1 (by omega))⟩)
    by_cases h1 : l[i] < 0
    · refine Ev.step (f := fun k => peristyleref25_Projection.j2 k n i true s l z) (fun k => by rw [peristyleref25_Projection.l0, if_pos (by omega), if_pos (by omega), rd_at l i hlt, if_pos h1]) (hJ true ?_)
      unfold inP
      rw [decide_eq_false (by omega)]
      rfl
    · refine Ev.step (f := fun k => peristyleref25_Projection.j2 k n i (decide (l[i] ≥ n)) s l z) (fun k => by rw [peristyleref25_Projection.l0, if_pos (by omega), if_pos (by omega), rd_at l i hlt, if_neg h1]) (hJ _ ?_)
      unfold inP
      by_cases h2 : l[i] < n
      · rw [decide_eq_true (show 0 ≤ l[i] ∧ l[i] < n by omega), decide_eq_false (by omega)]; rfl
      · rw [decide_eq_false (show ¬ (0 ≤ l[i] ∧ l[i] < n) by omega), decide_eq_true (by omega)]; rfl
theorem proj_ev (p : Prj) (n : Int) (hs : p.f0.size ≤ 1000000) (hl : p.f1.length ≤ 1000000) : Ev (fun k => peristyleref25_Projection.f k p.f0 p.f1 p.f2 n) (projP p n) := by
  unfold peristyleref25_Projection.f
  have hJ : ∀ x : Bool, (x = true ↔ ¬ (nameP p.f0 = true ∧ 1 ≤ p.f1.length ∧ (p.f1.length : Int) ≤ n ∧ 0 ≤ p.f2 ∧ p.f2 ≤ p.f1.length)) → Ev (fun k => peristyleref25_Projection.j0 k n x p.f0 p.f1 p.f2) (projP p n) := by
    intro x hx
    cases x with
    | true =>
      have h := hx.1 rfl
      have hn : projP p n = false := bool_no (fun hp => by
        unfold projP at hp
        simp only [Bool.and_eq_true, decide_eq_true_eq] at hp
        exact h ⟨hp.1.1.1.1.1.2, hp.1.1.1.1.2, hp.1.1.1.2, hp.1.1.2, hp.1.2⟩)
      rw [hn]
      exact Ev.step (f := fun _ => some false) (fun k => by rw [peristyleref25_Projection.j0, if_pos rfl]) (Ev.now _)
    | false =>
      have h : nameP p.f0 = true ∧ 1 ≤ p.f1.length ∧ (p.f1.length : Int) ≤ n ∧ 0 ≤ p.f2 ∧ p.f2 ≤ p.f1.length := Classical.byContradiction (fun hc => by cases hx.2 hc)
      refine Ev.step (f := fun k => peristyleref25_Projection.l0 k n ((0 : Nat) : Int) p.f0 p.f1 p.f2) (fun k => by rw [peristyleref25_Projection.j0, if_neg (by decide)]; rfl) (proj_l0 n _ _ p.f1 hl p.f1.length 0 (Nat.zero_add _) _ ?_)
      unfold projP onceP
      have hd := nodup_ahead (fun x : Int => x) p.f1
      rw [List.map_id'] at hd
      simp only [Bool.and_eq_true, decide_eq_true_eq, List.all_eq_true]
      rw [hd]
      constructor
      · intro h2 m hm _
        exact ⟨h2.1.1.1.1.1.1 _ (List.getElem_mem hm), h2.2 m hm⟩
      · intro h2
        refine ⟨⟨⟨⟨⟨⟨fun x hx => ?_, h.1⟩, h.2.1⟩, h.2.2.1⟩, h.2.2.2.1⟩, h.2.2.2.2⟩, fun i hi => (h2 i hi (Nat.zero_le _)).2⟩
        obtain ⟨m, hm, rfl⟩ := List.getElem_of_mem hx
        exact (h2 m hm (Nat.zero_le _)).1
  refine Ev.bind (name_ev _ hs) ?_
  cases hn : nameP p.f0 with
  | false => exact ev_neg (by decide) (hJ true (by rw [hn]; simp))
  | true =>
    rw [hn] at hJ
    refine ev_pos rfl ?_
    by_cases h1 : (p.f1.length : Int) < 1
    · exact ev_pos h1 (hJ true ⟨fun _ => by omega, fun _ => rfl⟩)
    · refine ev_neg h1 ?_
      by_cases h2 : (p.f1.length : Int) > n
      · exact ev_pos h2 (hJ true ⟨fun _ => by omega, fun _ => rfl⟩)
      · refine ev_neg h2 ?_
        by_cases h3 : p.f2 < 0
        · exact ev_pos h3 (hJ true ⟨fun _ => by omega, fun _ => rfl⟩)
        · refine ev_neg h3 (hJ _ ?_)
          rw [decide_eq_true_eq]
          constructor
          · intro h; omega
          · intro h
            refine Classical.byContradiction (fun hc => h ⟨rfl, by omega, by omega, by omega, by omega⟩)
end Go.Proofs.Ytgjclhhjigflkac.Sc

/- What the document's functions of tables come to: Super, table, May of one table (law 25). -/
namespace Go.Proofs.Ytgjclhhjigflkac.Sc
open Go Go.RowKit Go.Proofs.Ytgjclhhjigflkac.C Go.Proofs.Ytgjclhhjigflkac.Hand Go.Proofs.Ytgjclhhjigflkac.EvW Go.Proofs.YtgjclhhjigflkacW.PrintWords
set_option linter.unusedVariables false
set_option linter.unusedSimpArgs false
theorem super_l1 (t : Tab) (p : Prj) (hn : t.f1.length ≤ 1000000) (hl : p.f1.length ≤ 1000000) (c : Nat) (hc : c < t.f1.length) (b : Bool) (hno : ¬ (c : Int) ∈ p.f1 → b = false) (hk : (c : Int) ∈ p.f1 → Ev (fun k => peristyleref25_Super.l0 k ((c + 1 : Nat) : Int) t.f0 t.f1 t.f2 p.f0 p.f1 p.f2) b) :
    ∀ d j : Nat, j + d = p.f1.length → ∀ x : Bool, (x = true ↔ (c : Int) ∈ p.f1.take j) → Ev (fun k => peristyleref25_Super.l1 k (c : Int) x (j : Int) t.f0 t.f1 t.f2 p.f0 p.f1 p.f2) b
  | 0, j, hj, x, hx => by
    rw [List.take_of_length_le (by omega)] at hx
    cases x with
    | true => exact Ev.step (f := fun k => peristyleref25_Super.l0 k ((c + 1 : Nat) : Int) t.f0 t.f1 t.f2 p.f0 p.f1 p.f2) (fun k => by rw [peristyleref25_Super.l1, if_neg (by omega), if_pos rfl, w64 c (by omega)]) (hk (hx.1 rfl))
    | false =>
      rw [hno (fun h => by cases hx.2 h)]
      exact Ev.step (f := fun _ => some false) (fun k => by rw [peristyleref25_Super.l1, if_neg (by omega), if_neg (by decide)]) (Ev.now _)
  | d + 1, j, hj, x, hx => by
    have hlt : j < p.f1.length := by omega
    have ht : p.f1.take (j + 1) = p.f1.take j ++ [p.f1[j]] := (List.take_append_getElem hlt).symm
    cases x with
    | true =>
      refine Ev.step (f := fun k => peristyleref25_Super.l1 k (c : Int) true ((j + 1 : Nat) : Int) t.f0 t.f1 t.f2 p.f0 p.f1 p.f2) (fun k => by rw [peristyleref25_Super.l1, if_pos (by omega), if_pos rfl, w64 j (by omega)]) (super_l1 t p hn hl c hc b hno hk d (j + 1) (by omega) true ⟨fun _ => ?_, fun _ => rfl⟩)
      rw [ht]
      exact List.mem_append_left _ (hx.1 rfl)
    | false =>
      refine Ev.step (f := fun k => peristyleref25_Super.l1 k (c : Int) (p.f1[j] == (c : Int)) ((j + 1 : Nat) : Int) t.f0 t.f1 t.f2 p.f0 p.f1 p.f2) (fun k => by rw [peristyleref25_Super.l1, if_pos (by omega), if_neg (by decide), if_pos (by omega), rd_at _ j hlt, w64 j (by omega)]) (super_l1 t p hn hl c hc b hno hk d (j + 1) (by omega) _ ?_)
      have hx0 : ¬ (c : Int) ∈ p.f1.take j := fun h => by cases hx.2 h
      rw [ht, List.mem_append, List.mem_singleton, beq_iff_eq]
      exact ⟨fun h => Or.inr h.symm, fun h => h.elim (fun h => absurd h hx0) (fun h => h.symm)⟩
theorem super_l0 (t : Tab) (p : Prj) (hn : t.f1.length ≤ 1000000) (hl : p.f1.length ≤ 1000000) : ∀ d c : Nat, c + d = t.f1.length → ∀ b : Bool, (b = true ↔ (∀ m : Nat, c ≤ m → m < t.f1.length → (m : Int) ∈ p.f1) ∧ p.f1.length = t.f1.length) → Ev (fun k => peristyleref25_Super.l0 k (c : Int) t.f0 t.f1 t.f2 p.f0 p.f1 p.f2) b
  | 0, c, hc, b, hb => by
    have : b = ((p.f1.length : Int) == (t.f1.length : Int)) := by
      by_cases he : p.f1.length = t.f1.length
      · rw [he, beq_self_eq_true]
        exact hb.2 ⟨fun m h1 h2 => by omega, he⟩
      · have : ((p.f1.length : Int) == (t.f1.length : Int)) = false := by simpa using (by omega : ¬ (p.f1.length : Int) = t.f1.length)
        rw [this]
        exact bool_no (fun h => he (hb.1 h).2)
    rw [this]
    exact Ev.step (f := fun _ => some ((p.f1.length : Int) == (t.f1.length : Int))) (fun k => by rw [peristyleref25_Super.l0, if_neg (by omega)]) (Ev.now _)
  | d + 1, c, hc, b, hb => by
    have hlt : c < t.f1.length := by omega
    refine Ev.step (f := fun k => peristyleref25_Super.l1 k (c : Int) false ((0 : Nat) : Int) t.f0 t.f1 t.f2 p.f0 p.f1 p.f2) (fun k => by rw [peristyleref25_Super.l0, if_pos (by omega)]; rfl) (super_l1 t p hn hl c hlt b (fun h => bool_no (fun hb1 => h ((hb.1 hb1).1 c (Nat.le_refl _) hlt))) (fun h => super_l0 t p hn hl d (c + 1) (by omega) b ?_) p.f1.length 0 (Nat.zero_add _) false (by simp))
    refine ⟨fun hb1 => ⟨fun m h1 h2 => (hb.1 hb1).1 m (by omega) h2, (hb.1 hb1).2⟩, fun h2 => hb.2 ⟨fun m h3 h4 => ?_, h2.2⟩⟩
    by_cases he : m = c
    · rw [he]; exact h
    · exact h2.1 m (by omega) h4
theorem super_ev (t : Tab) (p : Prj) (hn : t.f1.length ≤ 1000000) (hl : p.f1.length ≤ 1000000) : Ev (fun k => peristyleref25_Super.f k t.f0 t.f1 t.f2 p.f0 p.f1 p.f2) (superP t p) := by
  unfold peristyleref25_Super.f
  refine super_l0 t p hn hl t.f1.length 0 (Nat.zero_add _) _ ?_
  unfold superP
  simp only [Bool.and_eq_true, decide_eq_true_eq, List.all_eq_true, List.mem_range]
  exact ⟨fun h => ⟨fun m _ h2 => h.1 m h2, h.2⟩, fun h => ⟨fun m h2 => h.1 m (Nat.zero_le _) h2, h.2⟩⟩
/-! ### table -/
theorem rdP_at (l : List Prj) (i : Nat) (h : i < l.length) : rd_T52 l (i : Int) = l[i] := by
  unfold rd_T52
  rw [Int.toNat_natCast, List.getD_eq_getElem?_getD, List.getElem?_eq_getElem h]
  rfl
theorem table_l1 (t : Tab) (hg : gtB t = true) (x : Bool) (i : Nat) (hi : i < t.f2.length) (b : Bool) (hn : b = true → ahead (·.f0) t.f2 i 0) (hk : ahead (·.f0) t.f2 i 0 → Ev (fun k => peristyleref25_table.l0 k x ((i + 1 : Nat) : Int) t.f0 t.f1 t.f2) b) (u : List Int) (v : Int) :
    ∀ d j : Nat, j + d = i → (∀ m a c, m < j → t.f2[m]? = some a → t.f2[i]? = some c → a.f0 ≠ c.f0) → Ev (fun k => peristyleref25_table.l1 k x (i : Int) (j : Int) t.f0 t.f1 t.f2 t.f2[i].f0 u v) b
  | 0, j, hj, hp => by
    have hp6 := (gtB_spec hg).p
    refine Ev.step (f := fun k => peristyleref25_table.l0 k x ((i + 1 : Nat) : Int) t.f0 t.f1 t.f2) (fun k => ?_) (hk (fun m a c _ hm hx hy => hp m a c (by omega) hx hy))
    rw [peristyleref25_table.l1, if_neg (by omega), w64 i (by omega)]
  | d + 1, j, hj, hp => by
    have hp6 := (gtB_spec hg).p
    have hjl : j < t.f2.length := by omega
    by_cases he : t.f2[j].f0 = t.f2[i].f0
    · obtain rfl := bool_no (fun h => hn h j _ _ (Nat.zero_le _) (by omega) (List.getElem?_eq_getElem hjl) (List.getElem?_eq_getElem hi) he)
      refine Ev.step (f := fun _ => some false) (fun k => ?_) (Ev.now _)
      rw [peristyleref25_table.l1, if_pos (by omega), if_pos (by omega), if_pos (by omega), rdP_at _ j hjl, if_pos (by rw [ba_eq]; exact he)]
    · refine Ev.step (f := fun k => peristyleref25_table.l1 k x (i : Int) ((j + 1 : Nat) : Int) t.f0 t.f1 t.f2 t.f2[i].f0 u v) (fun k => ?_) (table_l1 t hg x i hi b hn hk u v d (j + 1) (by omega) (fun m a c hm hx hy => ?_))
      · rw [peristyleref25_table.l1, if_pos (by omega), if_pos (by omega), if_pos (by omega), rdP_at _ j hjl, if_neg (by rw [ba_eq]; exact he), w64 j (by omega)]
      · by_cases hmj : m = j
        · subst hmj
          rw [List.getElem?_eq_getElem hjl] at hx
          rw [List.getElem?_eq_getElem hi] at hy
          injection hx with hx
          injection hy with hy
          rw [← hx, ← hy]
          exact he
        · exact hp m a c (by omega) hx hy
def goodAt (t : Tab) (m : Nat) (h : m < t.f2.length) : Prop := projP t.f2[m] t.f1.length = true ∧ ahead (·.f0) t.f2 m 0
theorem gt_ps {t : Tab} (hg : gtB t = true) : ∀ x ∈ t.f2, x.f0.size ≤ 1000000 ∧ x.f1.length ≤ 1000000 := by
  unfold gtB at hg
  simp only [Bool.and_eq_true, decide_eq_true_eq, List.all_eq_true] at hg
  exact hg.2
theorem gt_cs {t : Tab} (hg : gtB t = true) : t.f0.size ≤ 1000000 ∧ ∀ x ∈ t.f1, x.f0.size ≤ 1000000 := by
  unfold gtB at hg
  simp only [Bool.and_eq_true, decide_eq_true_eq, List.all_eq_true] at hg
  exact ⟨hg.1.1.1.1, hg.1.2⟩
theorem table_l0 (t : Tab) (hg : gtB t = true) : ∀ d i : Nat, i + d = t.f2.length → ∀ b x : Bool, (b = true ↔ (∀ (m : Nat) (h : m < t.f2.length), i ≤ m → goodAt t m h) ∧ (x = true ∨ ∃ (m : Nat) (h : m < t.f2.length), i ≤ m ∧ superP t t.f2[m] = true)) → Ev (fun k => peristyleref25_table.l0 k x (i : Int) t.f0 t.f1 t.f2) b
  | 0, i, hi, b, x, hb => by
    have : b = x := by
      cases x with
      | true => exact hb.2 ⟨fun m h h2 => by omega, Or.inl rfl⟩
      | false => exact bool_no (fun h => (hb.1 h).2.elim (fun h => by cases h) (fun ⟨m, h, h2, _⟩ => by omega))
    rw [this]
    exact Ev.step (f := fun _ => some x) (fun k => by rw [peristyleref25_table.l0, if_neg (by omega)]) (Ev.now _)
  | d + 1, i, hi, b, x, hb => by
    have hlt : i < t.f2.length := by omega
    have hps := gt_ps hg _ (List.getElem_mem hlt)
    have hp6 := (gtB_spec hg).p
    have hJ : projP t.f2[i] t.f1.length = true → ∀ y : Bool, (y = true ↔ x = true ∨ superP t t.f2[i] = true) → Ev (fun k => peristyleref25_table.j2 k y (i : Int) t.f0 t.f1 t.f2 t.f2[i].f0 t.f2[i].f1 t.f2[i].f2) b := by
      intro hpp y hy
      refine Ev.step (f := fun k => peristyleref25_table.l1 k y (i : Int) ((0 : Nat) : Int) t.f0 t.f1 t.f2 t.f2[i].f0 t.f2[i].f1 t.f2[i].f2) (fun k => by rw [peristyleref25_table.j2]; rfl) (table_l1 t hg y i hlt b (fun h => ((hb.1 h).1 i hlt (Nat.le_refl _)).2) (fun ha => table_l0 t hg d (i + 1) (by omega) b y ?_) _ _ i 0 (Nat.zero_add _) (fun m _ _ hm => by omega))
      constructor
      · intro h
        refine ⟨fun m h1 h2 => (hb.1 h).1 m h1 (by omega), ?_⟩
        rcases (hb.1 h).2 with h2 | ⟨m, h2, h3, h4⟩
        · exact Or.inl (hy.2 (Or.inl h2))
        · by_cases he : m = i
          · subst he; exact Or.inl (hy.2 (Or.inr h4))
          · exact Or.inr ⟨m, h2, by omega, h4⟩
      · rintro ⟨h1, h2⟩
        refine hb.2 ⟨fun m h3 h4 => ?_, ?_⟩
        · by_cases he : m = i
          · subst he; exact ⟨hpp, ha⟩
          · exact h1 m h3 (by omega)
        · rcases h2 with h2 | ⟨m, h2, h3, h4⟩
          · rcases hy.1 h2 with h5 | h5
            · exact Or.inl h5
            · exact Or.inr ⟨i, hlt, Nat.le_refl _, h5⟩
          · exact Or.inr ⟨m, h2, by omega, h4⟩
    refine Ev.step (f := fun k => (peristyleref25_Projection.f k t.f2[i].f0 t.f2[i].f1 t.f2[i].f2 (t.f1.length : Int)).bind fun r => if r = true then (if x = true then peristyleref25_table.j2 k true (i : Int) t.f0 t.f1 t.f2 t.f2[i].f0 t.f2[i].f1 t.f2[i].f2 else (peristyleref25_Super.f k t.f0 t.f1 t.f2 t.f2[i].f0 t.f2[i].f1 t.f2[i].f2).bind fun q => peristyleref25_table.j2 k q (i : Int) t.f0 t.f1 t.f2 t.f2[i].f0 t.f2[i].f1 t.f2[i].f2) else some false) (fun k => by rw [peristyleref25_table.l0, if_pos (by omega), if_pos (by omega), rdP_at _ i hlt]) ?_
    refine Ev.bind (proj_ev t.f2[i] t.f1.length hps.1 hps.2) ?_
    cases hpp : projP t.f2[i] t.f1.length with
    | false =>
      obtain rfl := bool_no (fun h => by have := ((hb.1 h).1 i hlt (Nat.le_refl _)).1; rw [hpp] at this; cases this)
      exact ev_neg (by decide) (Ev.now _)
    | true =>
      refine ev_pos rfl ?_
      cases x with
      | true => exact ev_pos rfl (hJ hpp true (by simp))
      | false =>
        refine ev_neg (by decide) (Ev.bind (super_ev t t.f2[i] (gtB_spec hg).c hps.2) (hJ hpp _ (by simp)))
theorem table_ev (t : Tab) (hg : gtB t = true) : Ev (fun k => peristyleref25_table.f k t.f0 t.f1 t.f2) (mayP t) := by
  have hp6 := (gtB_spec hg).p
  unfold peristyleref25_table.f
  have hj : ∀ x : Bool, (x = true ↔ ¬ (nameP t.f0 = true ∧ colsP t.f1 = true ∧ t.f2.length ≤ 6)) → Ev (fun k => peristyleref25_table.j0 k x t.f0 t.f1 t.f2) (mayP t) := by
    intro x hx
    cases x with
    | true =>
      have hn : mayP t = false := bool_no (fun hp => by
        unfold mayP at hp
        simp only [Bool.and_eq_true, decide_eq_true_eq] at hp
        exact hx.1 rfl ⟨hp.1.1.1.1.2, hp.1.1.1.2, hp.1.2⟩)
      rw [hn]
      exact Ev.step (f := fun _ => some false) (fun k => by rw [peristyleref25_table.j0, if_pos rfl]) (Ev.now _)
    | false =>
      have h : nameP t.f0 = true ∧ colsP t.f1 = true ∧ t.f2.length ≤ 6 := Classical.byContradiction (fun hc => by cases hx.2 hc)
      refine Ev.step (f := fun k => peristyleref25_table.l0 k false ((0 : Nat) : Int) t.f0 t.f1 t.f2) (fun k => by rw [peristyleref25_table.j0, if_neg (by decide)]; rfl) (table_l0 t hg t.f2.length 0 (Nat.zero_add _) _ false ?_)
      unfold mayP onceP goodAt
      simp only [Bool.and_eq_true, decide_eq_true_eq, List.all_eq_true, List.any_eq_true]
      rw [nodup_ahead]
      constructor
      · rintro ⟨⟨⟨⟨⟨h1, _⟩, _⟩, q, h2, h3⟩, _⟩, h4⟩
        refine ⟨fun m hm _ => ⟨h1 _ (List.getElem_mem hm), h4 m hm⟩, Or.inr ?_⟩
        obtain ⟨m, hm, rfl⟩ := List.getElem_of_mem h2
        exact ⟨m, hm, Nat.zero_le _, h3⟩
      · rintro ⟨h1, h2⟩
        rcases h2 with h2 | ⟨m, hm, _, h3⟩
        · cases h2
        · refine ⟨⟨⟨⟨⟨fun x hx => ?_, h.1⟩, h.2.1⟩, _, List.getElem_mem hm, h3⟩, h.2.2⟩, fun i hi => (h1 i hi (Nat.zero_le _)).2⟩
          obtain ⟨m, hm, rfl⟩ := List.getElem_of_mem hx
          exact (h1 m hm (Nat.zero_le _)).1
  refine Ev.bind (name_ev _ (gt_cs hg).1) ?_
  cases hn : nameP t.f0 with
  | false => exact ev_neg (by decide) (hj true (by rw [hn]; simp))
  | true =>
    rw [hn] at hj
    refine ev_pos rfl (Ev.bind (cols_ev _ (gtB_spec hg).c (gt_cs hg).2) ?_)
    cases hc : colsP t.f1 with
    | false => exact ev_neg (by decide) (hj true (by rw [hc]; simp))
    | true =>
      rw [hc] at hj
      refine ev_pos rfl (hj _ ?_)
      rw [decide_eq_true_eq]
      constructor
      · intro h; omega
      · intro h
        exact Classical.byContradiction (fun h2 => h ⟨rfl, rfl, by omega⟩)
end Go.Proofs.Ytgjclhhjigflkac.Sc

-- written by mkprint.py, a program of this session, over the kit's printer
namespace Go.Proofs.Ytgjclhhjigflkac.C
open Go.RowKit Go.Proofs.YtgjclhhjigflkacW.PrintWords Go.Proofs.YtgjclhhjigflkacW.PrintLast Go.Proofs.YtgjclhhjigflkacW.PrintMore
attribute [local go_sem] max2_int min2_int max_two min_two max_three min_three max_four min_four   -- for this text's walks alone
set_option linter.unusedVariables false
set_option linter.unusedSimpArgs false
/-! ### peristylelaw25_light: function 37 -/
/-! ### peristyleref25_Create: function 78 -/
-- NOT PRINTED: function 148 (api_Table_148)
-- NOT PRINTED: function 119 (api_Table_119)
/-! ### peristyleref25_Drop: function 80 -/
/-! ### peristyleref25_projection: function 121 -/
/-! ### peristyleref25_with: function 122 -/
end Go.Proofs.Ytgjclhhjigflkac.C
