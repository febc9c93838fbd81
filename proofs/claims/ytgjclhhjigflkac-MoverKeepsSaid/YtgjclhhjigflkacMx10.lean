-- written by mkprint.py, a program of this session, over the kit's printer
import Derived.Test.YtgjclhhjigflkacMx0
import Derived.Test.YtgjclhhjigflkacMx2
import Derived.Test.YtgjclhhjigflkacMx3
import Derived.Test.YtgjclhhjigflkacMx6
import Derived.Test.YtgjclhhjigflkacMx7
import Derived.Test.YtgjclhhjigflkacMx8
import Derived.Test.YtgjclhhjigflkacWalkAwake27
import Derived.Test.YtgjclhhjigflkacWalkMerge
namespace Go.Proofs.Ytgjclhhjigflkac.M
open Go.RowKit Go.Proofs.YtgjclhhjigflkacW.PrintWords Go.Proofs.YtgjclhhjigflkacW.PrintLast Go.Proofs.YtgjclhhjigflkacW.PrintMore
attribute [local go_sem] max2_int min2_int max_two min_two max_three min_three max_four min_four   -- for this text's walks alone
set_option linter.unusedVariables false
set_option linter.unusedSimpArgs false

/-! ### peristylelaw27_MoverKeeps: function 3 -/
mutual
def peristylelaw27_MoverKeeps.l0 : Nat → List (S28) → List (S28) → Int → Int → Option (Bool)
 | 0, _, _, _, _ => none
 | k + 1, x0, x1, x2, x7 => if x7 < (wrap64 ((x0.length : Int) + (x1.length : Int))) then (if x7 < (x0.length : Int) then (if 0 ≤ x7 then ((peristyleref22_May.f k ((rd_T28 x0 x7).f0) ((rd_T28 x0 x7).f1) ((rd_T28 x0 x7).f2)).bind fun t309 => (if t309 = true then (peristylelaw27_MoverKeeps.l0 k x0 x1 x2 (wrap64 (x7 + 1))) else ((peristylelaw27_awake.f k).bind fun t310 => (some t310)))) else (none)) else (if 0 ≤ (wrap64 (x7 - (x0.length : Int))) then (if (wrap64 (x7 - (x0.length : Int))) < (x1.length : Int) then ((peristyleref22_May.f k ((rd_T28 x1 (wrap64 (x7 - (x0.length : Int)))).f0) ((rd_T28 x1 (wrap64 (x7 - (x0.length : Int)))).f1) ((rd_T28 x1 (wrap64 (x7 - (x0.length : Int)))).f2)).bind fun t312 => (if t312 = true then (peristylelaw27_MoverKeeps.l0 k x0 x1 x2 (wrap64 (x7 + 1))) else ((peristylelaw27_awake.f k).bind fun t313 => (some t313)))) else (none)) else (none))) else ((mover_Merge.f x0 x1 x2).bind fun t314 => ((mover_Vectors.f k t314).bind fun bt317 => ((mover_Lives.f k bt317.1 bt317.2.1 bt317.2.2).bind fun bt326 => (if bt326.2 = 0 then ((peristyleref22_Same.f k bt326.1 t314).bind fun t330 => (if t330 = true then (peristylelaw27_MoverKeeps.l1 k x0 x1 x2 t314 0) else (none))) else (none)))))
def peristylelaw27_MoverKeeps.l1 : Nat → List (S28) → List (S28) → Int → List (S28) → Int → Option (Bool)
 | 0, _, _, _, _, _ => none
 | k + 1, x0, x1, x2, x9, x15 => if x15 < 16 then ((peristylelaw27_seen.f k x0 (wrap64 (x2 + x15))).bind fun t331 => (if ([] : List (List (S98))).length + t331.length < 5864062014805 then ((some (([] : List (List (S98))) ++ t331 : List (List (S98)))).bind fun y334 => ((peristylelaw27_seen.f k x1 (wrap64 (x2 + x15))).bind fun t337 => (if y334.length + t337.length < 5864062014805 then ((peristylelaw27_seen.f k x9 (wrap64 (x2 + x15))).bind fun t343 => ((peristyleref06_SameRows.f k t343 (y334 ++ t337)).bind fun t346 => (if t346 = true then (peristylelaw27_MoverKeeps.l1 k x0 x1 x2 x9 (wrap64 (x15 + 1))) else (none)))) else (none)))) else (none))) else ((peristylelaw27_awake.f k).bind fun t347 => (some t347))
end
def peristylelaw27_MoverKeeps.f (k : Nat) (l0 : List (S28)) (l1 : List (S28)) (a2 : Int) : Option (Bool) := (peristyleref22_Light.f k l0 30).bind fun t303 => (if t303 = true then ((peristyleref22_Light.f k l1 30).bind fun t304 => (if t304 = true then (if a2 < 0 then ((peristylelaw27_awake.f k).bind fun t305 => (some t305)) else (if a2 > 1099511627776 then ((peristylelaw27_awake.f k).bind fun t306 => (some t306)) else (peristylelaw27_MoverKeeps.l0 k l0 l1 a2 0))) else ((peristylelaw27_awake.f k).bind fun t348 => (some t348)))) else ((peristylelaw27_awake.f k).bind fun t349 => (some t349)))
theorem peristylelaw27_MoverKeeps.mono_l : ∀ k, (∀ y0 y1 y2 y3, LeO (peristylelaw27_MoverKeeps.l0 k y0 y1 y2 y3) (peristylelaw27_MoverKeeps.l0 (k + 1) y0 y1 y2 y3)) ∧ (∀ y0 y1 y2 y3 y4, LeO (peristylelaw27_MoverKeeps.l1 k y0 y1 y2 y3 y4) (peristylelaw27_MoverKeeps.l1 (k + 1) y0 y1 y2 y3 y4))
 | 0 => ⟨fun _ _ _ _ r h => by simp [peristylelaw27_MoverKeeps.l0] at h, fun _ _ _ _ _ r h => by simp [peristylelaw27_MoverKeeps.l1] at h⟩
 | k + 1 => by
  obtain ⟨ih0, ih1⟩ := peristylelaw27_MoverKeeps.mono_l k
  refine ⟨?_, ?_⟩
  ·
   intro y0 y1 y2 y3
   unfold peristylelaw27_MoverKeeps.l0
   repeat' first
   | (with_reducible exact ih0 _ _ _ _)
   | (with_reducible exact ih1 _ _ _ _ _)
   | (with_reducible exact mover_Lives.mono _ _ _ _)
   | (with_reducible exact mover_Vectors.mono _ _)
   | (with_reducible exact peristylelaw27_awake.mono _)
   | (with_reducible exact peristylelaw27_seen.mono _ _ _)
   | (with_reducible exact peristyleref06_SameRows.mono _ _ _)
   | (with_reducible exact peristyleref22_Light.mono _ _ _)
   | (with_reducible exact peristyleref22_May.mono _ _ _ _)
   | (with_reducible exact peristyleref22_Same.mono _ _ _)
   | (with_reducible exact LeO.refl _)
   | (with_reducible exact LeO.none _)
   | (with_reducible refine LeO.ite ?_ ?_)
   | (with_reducible refine LeO.bind ?_ (fun _ => ?_))
   | exact ih0 _ _ _ _
   | exact ih1 _ _ _ _ _
   | exact mover_Lives.mono _ _ _ _
   | exact mover_Vectors.mono _ _
   | exact peristylelaw27_awake.mono _
   | exact peristylelaw27_seen.mono _ _ _
   | exact peristyleref06_SameRows.mono _ _ _
   | exact peristyleref22_Light.mono _ _ _
   | exact peristyleref22_May.mono _ _ _ _
   | exact peristyleref22_Same.mono _ _ _
   | exact LeO.none _
   | refine LeO.ite ?_ ?_
   | refine LeO.bind ?_ (fun _ => ?_)
  ·
   intro y0 y1 y2 y3 y4
   unfold peristylelaw27_MoverKeeps.l1
   repeat' first
   | (with_reducible exact ih0 _ _ _ _)
   | (with_reducible exact ih1 _ _ _ _ _)
   | (with_reducible exact mover_Lives.mono _ _ _ _)
   | (with_reducible exact mover_Vectors.mono _ _)
   | (with_reducible exact peristylelaw27_awake.mono _)
   | (with_reducible exact peristylelaw27_seen.mono _ _ _)
   | (with_reducible exact peristyleref06_SameRows.mono _ _ _)
   | (with_reducible exact peristyleref22_Light.mono _ _ _)
   | (with_reducible exact peristyleref22_May.mono _ _ _ _)
   | (with_reducible exact peristyleref22_Same.mono _ _ _)
   | (with_reducible exact LeO.refl _)
   | (with_reducible exact LeO.none _)
   | (with_reducible refine LeO.ite ?_ ?_)
   | (with_reducible refine LeO.bind ?_ (fun _ => ?_))
   | exact ih0 _ _ _ _
   | exact ih1 _ _ _ _ _
   | exact mover_Lives.mono _ _ _ _
   | exact mover_Vectors.mono _ _
   | exact peristylelaw27_awake.mono _
   | exact peristylelaw27_seen.mono _ _ _
   | exact peristyleref06_SameRows.mono _ _ _
   | exact peristyleref22_Light.mono _ _ _
   | exact peristyleref22_May.mono _ _ _ _
   | exact peristyleref22_Same.mono _ _ _
   | exact LeO.none _
   | refine LeO.ite ?_ ?_
   | refine LeO.bind ?_ (fun _ => ?_)
theorem peristylelaw27_MoverKeeps.mono : ∀ a0 a1 a2 k, LeO (peristylelaw27_MoverKeeps.f k a0 a1 a2) (peristylelaw27_MoverKeeps.f (k + 1) a0 a1 a2) := by
 intro a0 a1 a2 k
 obtain ⟨ih0, ih1⟩ := peristylelaw27_MoverKeeps.mono_l k
 unfold peristylelaw27_MoverKeeps.f
 repeat' first
   | (with_reducible exact ih0 _ _ _ _)
   | (with_reducible exact ih1 _ _ _ _ _)
   | (with_reducible exact mover_Lives.mono _ _ _ _)
   | (with_reducible exact mover_Vectors.mono _ _)
   | (with_reducible exact peristylelaw27_awake.mono _)
   | (with_reducible exact peristylelaw27_seen.mono _ _ _)
   | (with_reducible exact peristyleref06_SameRows.mono _ _ _)
   | (with_reducible exact peristyleref22_Light.mono _ _ _)
   | (with_reducible exact peristyleref22_May.mono _ _ _ _)
   | (with_reducible exact peristyleref22_Same.mono _ _ _)
   | (with_reducible exact LeO.refl _)
   | (with_reducible exact LeO.none _)
   | (with_reducible refine LeO.ite ?_ ?_)
   | (with_reducible refine LeO.bind ?_ (fun _ => ?_))
   | exact ih0 _ _ _ _
   | exact ih1 _ _ _ _ _
   | exact mover_Lives.mono _ _ _ _
   | exact mover_Vectors.mono _ _
   | exact peristylelaw27_awake.mono _
   | exact peristylelaw27_seen.mono _ _ _
   | exact peristyleref06_SameRows.mono _ _ _
   | exact peristyleref22_Light.mono _ _ _
   | exact peristyleref22_May.mono _ _ _ _
   | exact peristyleref22_Same.mono _ _ _
   | exact LeO.none _
   | refine LeO.ite ?_ ?_
   | refine LeO.bind ?_ (fun _ => ?_)
set_option maxHeartbeats 8000000 in
set_option maxRecDepth 100000 in
theorem peristylelaw27_MoverKeeps.calls (k : Nat) (A0 : Option Addr) (c0 : Nat) (l0 : List (S28)) (A1 : Option Addr) (c1 : Nat) (l1 : List (S28)) (a2 : Int) (r : Bool) (w : World) (hr0 : Kd.C k28 w A0 l0.length l0) (hc0 : l0.length ≤ c0) (hr1 : Kd.C k28 w A1 l1.length l1) (hc1 : l1.length ≤ c1) (h : peristylelaw27_MoverKeeps.f k l0 l1 a2 = some r) :
  Calls Try.prog 3 #[.slice A0 l0.length c0, .slice A1 l1.length c1, .int .i64 a2] w fun e w' => e = .returned (.bool r) ∧ Below w.heap.size w w' := by
 have hu28 := Try.underlying28
 have HR0 := Aside0.mk hr0
 have HC0 := Aside0.mk hc0
 clear hr0 hc0
 have HR1 := Aside0.mk hr1
 have HC1 := Aside0.mk hc1
 clear hr1 hc1
 have HB := Aside0.mk (Below.refl w.heap.size w)
 have H : ((peristyleref22_Light.f k l0 30).bind fun t303 => (if t303 = true then ((peristyleref22_Light.f k l1 30).bind fun t304 => (if t304 = true then (if a2 < 0 then ((peristylelaw27_awake.f k).bind fun t305 => (some t305)) else (if a2 > 1099511627776 then ((peristylelaw27_awake.f k).bind fun t306 => (some t306)) else (peristylelaw27_MoverKeeps.l0 k l0 l1 a2 0))) else ((peristylelaw27_awake.f k).bind fun t348 => (some t348)))) else ((peristylelaw27_awake.f k).bind fun t349 => (some t349)))) = some r := h
 clear h
 replace H := Option.bind_eq_some_iff.mp H
 obtain ⟨t303, A40, H⟩ := H
 replace H : (if t303 = true then ((peristyleref22_Light.f k l1 30).bind fun t304 => (if t304 = true then (if a2 < 0 then ((peristylelaw27_awake.f k).bind fun t305 => (some t305)) else (if a2 > 1099511627776 then ((peristylelaw27_awake.f k).bind fun t306 => (some t306)) else (peristylelaw27_MoverKeeps.l0 k l0 l1 a2 0))) else ((peristylelaw27_awake.f k).bind fun t348 => (some t348)))) else ((peristylelaw27_awake.f k).bind fun t349 => (some t349))) = some r := H
 have A4 := Aside0.mk A40
 clear A40
 by_cases c5 : t303 = true
 ·
  subst c5
  have H1 : ((peristyleref22_Light.f k l1 30).bind fun t304 => (if t304 = true then (if a2 < 0 then ((peristylelaw27_awake.f k).bind fun t305 => (some t305)) else (if a2 > 1099511627776 then ((peristylelaw27_awake.f k).bind fun t306 => (some t306)) else (peristylelaw27_MoverKeeps.l0 k l0 l1 a2 0))) else ((peristylelaw27_awake.f k).bind fun t348 => (some t348)))) = some r := by rw [if_pos rfl] at H; exact H
  clear H
  have H := H1
  clear H1
  replace H := Option.bind_eq_some_iff.mp H
  obtain ⟨t304, A60, H⟩ := H
  replace H : (if t304 = true then (if a2 < 0 then ((peristylelaw27_awake.f k).bind fun t305 => (some t305)) else (if a2 > 1099511627776 then ((peristylelaw27_awake.f k).bind fun t306 => (some t306)) else (peristylelaw27_MoverKeeps.l0 k l0 l1 a2 0))) else ((peristylelaw27_awake.f k).bind fun t348 => (some t348))) = some r := H
  have A6 := Aside0.mk A60
  clear A60
  by_cases c7 : t304 = true
  ·
   subst c7
   have H1 : (if a2 < 0 then ((peristylelaw27_awake.f k).bind fun t305 => (some t305)) else (if a2 > 1099511627776 then ((peristylelaw27_awake.f k).bind fun t306 => (some t306)) else (peristylelaw27_MoverKeeps.l0 k l0 l1 a2 0))) = some r := by rw [if_pos rfl] at H; exact H
   clear H
   have H := H1
   clear H1
   by_cases c8 : a2 < 0
   ·
    rw [if_pos c8] at H
    have c8b0 : decide (a2 < 0) = true := decide_eq_true c8
    clear c8
    replace H := Option.bind_eq_some_iff.mp H
    obtain ⟨t305, A90, H⟩ := H
    replace H : (some t305) = some r := H
    have A9 := Aside0.mk A90
    clear A90
    obtain rfl := Option.some.inj H
    go_enter Try.func3, Try.ntmps3
    go_wp2_with (first | ((with_reducible refine gate_callee (f := 9) rfl ?_); refine goesL_ (some 18) rfl rfl Try.func9 (by kernel_rfl) rfl #[.slice A0 l0.length c0, .int .i64 30] rfl (by (try simp only [List.map_toArray, List.map_cons, List.map_nil]); first | done | rfl | (simp only [List.length_drop, List.length_take]; rfl)) ?_; (with_reducible refine (peristyleref22_Light.calls k _ _ l0 30 true _ ?side1 ?side2 A4.out).mono ?_); (case side1 => repeat (first | exact HR0.out | (with_reducible refine Kd.C_alloc ?_ _) | (with_reducible refine Kd.C_drewN ?_ _) | (with_reducible refine Kd.C_drew ?_))); (case side2 => exact HC0.out); rintro e w' ⟨rfl, ⟨nd, rfl⟩⟩; refine ⟨_, rfl, ?_⟩) | (go_at_call 9; (with_reducible refine (peristyleref22_Light.calls k _ _ l1 30 true _ ?side1 ?side2 A6.out).mono ?_); (case side1 => repeat (first | exact HR1.out | (with_reducible refine Kd.C_alloc ?_ _) | (with_reducible refine Kd.C_drewN ?_ _) | (with_reducible refine Kd.C_drew ?_))); (case side2 => exact HC1.out); rintro e w' ⟨rfl, ⟨nd, rfl⟩⟩) | ((with_reducible refine gate_callee (f := 10) rfl ?_); refine goesL_ (some 33) rfl rfl Try.func10 (by kernel_rfl) rfl #[] rfl (by (try simp only [List.map_toArray, List.map_cons, List.map_nil]); first | done | rfl | (simp only [List.length_drop, List.length_take]; rfl)) ?_; (with_reducible refine (peristylelaw27_awake.calls k  t305 _ A9.out).mono ?_); rintro e w10 ⟨rfl, hb⟩; refine ⟨_, rfl, ?_⟩; have n0_ := Aside0.mk (below_step (by repeat (first | (with_reducible first | exact HB.out | apply below_alloc | apply pw_below_drewN | apply below_drew1) | exact HB.out)) hb); clear HB; have HB := n0_; clear n0_; (try clear hb); (try clear hb2); (try clear hk); (try clear hi)))
    go_ret
    exact ⟨by first | rfl | (simp [errW_none, errW_some] <;> rfl) | (simp [*, errW_none, errW_some] <;> rfl), by repeat (first | (with_reducible first | exact HB.out | apply below_alloc | apply pw_below_drewN | apply below_drew1) | exact HB.out)⟩
   ·
    rw [if_neg c8] at H
    have c8b0 : decide (a2 < 0) = false := decide_eq_false c8
    clear c8
    by_cases c11 : a2 > 1099511627776
    ·
     rw [if_pos c11] at H
     have c11b0 : decide (1099511627776 < a2) = true := decide_eq_true c11
     clear c11
     replace H := Option.bind_eq_some_iff.mp H
     obtain ⟨t306, A120, H⟩ := H
     replace H : (some t306) = some r := H
     have A12 := Aside0.mk A120
     clear A120
     obtain rfl := Option.some.inj H
     go_enter Try.func3, Try.ntmps3
     go_wp2_with (first | ((with_reducible refine gate_callee (f := 9) rfl ?_); refine goesL_ (some 18) rfl rfl Try.func9 (by kernel_rfl) rfl #[.slice A0 l0.length c0, .int .i64 30] rfl (by (try simp only [List.map_toArray, List.map_cons, List.map_nil]); first | done | rfl | (simp only [List.length_drop, List.length_take]; rfl)) ?_; (with_reducible refine (peristyleref22_Light.calls k _ _ l0 30 true _ ?side1 ?side2 A4.out).mono ?_); (case side1 => repeat (first | exact HR0.out | (with_reducible refine Kd.C_alloc ?_ _) | (with_reducible refine Kd.C_drewN ?_ _) | (with_reducible refine Kd.C_drew ?_))); (case side2 => exact HC0.out); rintro e w' ⟨rfl, ⟨nd, rfl⟩⟩; refine ⟨_, rfl, ?_⟩) | (go_at_call 9; (with_reducible refine (peristyleref22_Light.calls k _ _ l1 30 true _ ?side1 ?side2 A6.out).mono ?_); (case side1 => repeat (first | exact HR1.out | (with_reducible refine Kd.C_alloc ?_ _) | (with_reducible refine Kd.C_drewN ?_ _) | (with_reducible refine Kd.C_drew ?_))); (case side2 => exact HC1.out); rintro e w' ⟨rfl, ⟨nd, rfl⟩⟩) | ((with_reducible refine gate_callee (f := 10) rfl ?_); refine goesL_ (some 33) rfl rfl Try.func10 (by kernel_rfl) rfl #[] rfl (by (try simp only [List.map_toArray, List.map_cons, List.map_nil]); first | done | rfl | (simp only [List.length_drop, List.length_take]; rfl)) ?_; (with_reducible refine (peristylelaw27_awake.calls k  t306 _ A12.out).mono ?_); rintro e w13 ⟨rfl, hb⟩; refine ⟨_, rfl, ?_⟩; have n0_ := Aside0.mk (below_step (by repeat (first | (with_reducible first | exact HB.out | apply below_alloc | apply pw_below_drewN | apply below_drew1) | exact HB.out)) hb); clear HB; have HB := n0_; clear n0_; (try clear hb); (try clear hb2); (try clear hk); (try clear hi)))
     go_ret
     exact ⟨by first | rfl | (simp [errW_none, errW_some] <;> rfl) | (simp [*, errW_none, errW_some] <;> rfl), by repeat (first | (with_reducible first | exact HB.out | apply below_alloc | apply pw_below_drewN | apply below_drew1) | exact HB.out)⟩
    ·
     rw [if_neg c11] at H
     have c11b0 : decide (1099511627776 < a2) = false := decide_eq_false c11
     clear c11
     have H' := Aside0.mk H
     clear H
     go_enter Try.func3, Try.ntmps3
     go_wp2_with (first | ((with_reducible refine gate_callee (f := 9) rfl ?_); refine goesL_ (some 18) rfl rfl Try.func9 (by kernel_rfl) rfl #[.slice A0 l0.length c0, .int .i64 30] rfl (by (try simp only [List.map_toArray, List.map_cons, List.map_nil]); first | done | rfl | (simp only [List.length_drop, List.length_take]; rfl)) ?_; (with_reducible refine (peristyleref22_Light.calls k _ _ l0 30 true _ ?side1 ?side2 A4.out).mono ?_); (case side1 => repeat (first | exact HR0.out | (with_reducible refine Kd.C_alloc ?_ _) | (with_reducible refine Kd.C_drewN ?_ _) | (with_reducible refine Kd.C_drew ?_))); (case side2 => exact HC0.out); rintro e w' ⟨rfl, ⟨nd, rfl⟩⟩; refine ⟨_, rfl, ?_⟩) | (go_at_call 9; (with_reducible refine (peristyleref22_Light.calls k _ _ l1 30 true _ ?side1 ?side2 A6.out).mono ?_); (case side1 => repeat (first | exact HR1.out | (with_reducible refine Kd.C_alloc ?_ _) | (with_reducible refine Kd.C_drewN ?_ _) | (with_reducible refine Kd.C_drew ?_))); (case side2 => exact HC1.out); rintro e w' ⟨rfl, ⟨nd, rfl⟩⟩))
     go_loopg [7] k (fun kq v7 w' => ∃ (x7_1 : Int), v7 = .int .i64 x7_1 ∧ Aside0 (peristylelaw27_MoverKeeps.l0 kq l0 l1 a2 x7_1 = some r) ∧ Aside0 (kq ≤ k) ∧ Aside0 (Below w.heap.size w w'))
     case atStart => exact ⟨(0), (by first | rfl | (simp; done) | (simp [*]; done)), H', ⟨Nat.le_refl _⟩, ⟨by repeat (first | (with_reducible first | exact HB.out | apply below_alloc | apply pw_below_drewN | apply below_drew1) | exact HB.out)⟩⟩
     case round =>
      clear H'
      try clear c1
      try clear p2
      try clear c3
      try clear c5
      try clear c7
      try clear c8
      try clear c8b0
      try clear c9
      try clear c10
      try clear c11
      try clear c11b0
      obtain ⟨x7_1, rfl, HA, HK1, HB⟩ := hrel
      cases gk with
      | zero => exact absurd HA.out (by simp [peristylelaw27_MoverKeeps.l0])
      | succ k1 =>
       have H := HA.out
       clear HA
       simp only [peristylelaw27_MoverKeeps.l0] at H
       by_cases c14 : x7_1 < (wrap64 ((l0.length : Int) + (l1.length : Int)))
       ·
        rw [if_pos c14] at H
        have c14b0 : decide (x7_1 < (wrap64 ((l0.length : Int) + (l1.length : Int)))) = true := decide_eq_true c14
        clear c14
        by_cases c15 : x7_1 < (l0.length : Int)
        ·
         rw [if_pos c15] at H
         have c15b0 : decide (x7_1 < (l0.length : Int)) = true := decide_eq_true c15
         clear c15
         by_cases c16 : 0 ≤ x7_1
         ·
          rw [if_pos c16] at H
          have c16b0 : decide (0 ≤ x7_1) = true := decide_eq_true c16
          clear c16
          replace H := Option.bind_eq_some_iff.mp H
          obtain ⟨t309, A170, H⟩ := H
          replace H : (if t309 = true then (peristylelaw27_MoverKeeps.l0 k1 l0 l1 a2 (wrap64 (x7_1 + 1))) else ((peristylelaw27_awake.f k1).bind fun t310 => (some t310))) = some r := H
          have A17 := Aside0.mk A170
          clear A170
          by_cases c18 : t309 = true
          ·
           subst c18
           have H1 : (peristylelaw27_MoverKeeps.l0 k1 l0 l1 a2 (wrap64 (x7_1 + 1))) = some r := by rw [if_pos rfl] at H; exact H
           clear H
           have H := H1
           clear H1
           have H' := Aside0.mk H
           clear H
           go_wp2_with (first | ((with_reducible refine gate_dst (N := 8) rfl ?_); refine box_event ?hg (N := 8) ?hd (cs := #[.slice none 0 0, .int .i64 0, .int .i64 0]) (t := 28) ?hr ?_; (case hd => rfl); (case hg => rfl); (case hr => first | (go_simp; done) | (go_simp; rfl)); intro gb307 hg w1_ hbox hb; have GE307 := Aside0.mk ((by rw [hg]; exact HB.out.size) : w.heap.size ≤ gb307); have n0_ := Aside0.mk (below_step HB.out hb); clear HB; have HB := n0_; have BK307 := Aside0.mk hbox; clear n0_ hg hbox hb) | (refine MyWords.row_store_event rfl 28 (.tmp 8) (.tmp 43) rfl gb307 #[.slice none 0 0, .int .i64 0, .int .i64 0] rfl rfl 28 _ BK307.out (by kernel_rfl) rfl (by simp [Value.oneCell']) ?_; intro w2_ hs; have n0_ := Aside0.mk (hs.below HB.out GE307.out); have n1_ := Aside0.mk hs.at_; clear HB BK307 hs; have HB := n0_; have BK307 := n1_; clear n0_ n1_; have p308 : 0 ≤ (x7_1 : Int) := of_decide_eq_true (by first | (with_reducible assumption) | assumption); have q308 : x7_1 < (l0.length : Int) := of_decide_eq_true (by first | (with_reducible assumption) | assumption); obtain ⟨ad308, A308_0, c308_0, e308, hx308_0, hx308_1, hx308_2, hl308_0, hi308_0⟩ := at_T28 HR0.out x7_1 p308 q308; cases e308; replace hx308_0 := (HB.out.cell (World.block_lt_of_cell? w _ hx308_0)).trans hx308_0; replace hx308_1 := (HB.out.cell (World.block_lt_of_cell? w _ hx308_1)).trans hx308_1; replace hx308_2 := (HB.out.cell (World.block_lt_of_cell? w _ hx308_2)).trans hx308_2; have HR308_0 := Aside0.mk hi308_0; have HC308_0 := Aside0.mk hl308_0; clear hi308_0 hl308_0; replace p308 := eq_true p308; replace q308 := eq_true q308) | (refine MyWords.row_store_event rfl 28 (.tmp 8) (.tmp 51) rfl gb307 #[.slice A308_0 ((rd_T28 l0 x7_1).f0).length c308_0, .int .i64 ((rd_T28 l0 x7_1).f1), .int .i64 ((rd_T28 l0 x7_1).f2)] rfl rfl 28 _ BK307.out (by kernel_rfl) rfl (by simp [Value.oneCell']) ?_; intro w3_ hs; have n0_ := Aside0.mk (hs.below HB.out GE307.out); have n1_ := Aside0.mk hs.at_; clear HB BK307 hs; have HB := n0_; have BK307 := n1_; clear n0_ n1_; clear hx308_0 hx308_1 hx308_2; have hcz_0 := (blk_cell BK307.out 0).trans rfl; have hcz_1 := (blk_cell BK307.out 1).trans rfl; have hcz_2 := (blk_cell BK307.out 2).trans rfl) | ((with_reducible refine gate_callee (f := 11) rfl ?_); refine goesL_ (some 60) rfl rfl Try.func11 (by kernel_rfl) rfl #[.agg #[.slice A308_0 ((rd_T28 l0 x7_1).f0).length c308_0, .int .i64 ((rd_T28 l0 x7_1).f1), .int .i64 ((rd_T28 l0 x7_1).f2)]] rfl (by (try simp only [List.map_toArray, List.map_cons, List.map_nil]); first | done | rfl | (simp only [List.length_drop, List.length_take]; rfl)) ?_; (with_reducible refine (peristyleref22_May.calls k1 _ _ ((rd_T28 l0 x7_1).f0) ((rd_T28 l0 x7_1).f1) ((rd_T28 l0 x7_1).f2) true _ ?side1 ?side2 A17.out).mono ?_); (case side1 => exact Kd.C_below HR308_0.out (by repeat (first | (with_reducible first | exact HB.out | apply below_alloc | apply pw_below_drewN | apply below_drew1 | refine below_set ?_ GE307.out) | exact HB.out))); (case side2 => exact HC308_0.out); rintro e w21 ⟨rfl, hb⟩; refine ⟨_, rfl, ?_⟩; have n0_ := Aside0.mk (blk_below BK307.out hb); have n1_ := Aside0.mk (below_step (by repeat (first | (with_reducible first | exact HB.out | apply below_alloc | apply pw_below_drewN | apply below_drew1 | refine below_set ?_ GE307.out) | exact HB.out)) hb); clear BK307; clear HB; have BK307 := n0_; have HB := n1_; clear n0_ n1_; (try clear hb); (try clear hb2); (try clear hk); (try clear hi)))
           go_roundg k1
           case measure => have := HK1.out; omega
           case rel => exact ⟨(wrap64 (x7_1 + 1)), (by first | rfl | (simp; done) | (simp [*]; done)), H', ⟨by have := HK1.out; omega⟩, ⟨by repeat (first | (with_reducible first | exact HB.out | apply below_alloc | apply pw_below_drewN | apply below_drew1 | refine below_set ?_ GE307.out) | exact HB.out)⟩⟩
          ·
           replace c18 := Bool.eq_false_iff.mpr c18
           subst c18
           have H1 : ((peristylelaw27_awake.f k1).bind fun t310 => (some t310)) = some r := by rw [if_neg (show ¬ (false = true) by decide)] at H; exact H
           clear H
           have H := H1
           clear H1
           replace H := Option.bind_eq_some_iff.mp H
           obtain ⟨t310, A220, H⟩ := H
           replace H : (some t310) = some r := H
           have A22 := Aside0.mk A220
           clear A220
           obtain rfl := Option.some.inj H
           go_wp2_with (first | ((with_reducible refine gate_dst (N := 8) rfl ?_); refine box_event ?hg (N := 8) ?hd (cs := #[.slice none 0 0, .int .i64 0, .int .i64 0]) (t := 28) ?hr ?_; (case hd => rfl); (case hg => rfl); (case hr => first | (go_simp; done) | (go_simp; rfl)); intro gb307 hg w1_ hbox hb; have GE307 := Aside0.mk ((by rw [hg]; exact HB.out.size) : w.heap.size ≤ gb307); have n0_ := Aside0.mk (below_step HB.out hb); clear HB; have HB := n0_; have BK307 := Aside0.mk hbox; clear n0_ hg hbox hb) | (refine MyWords.row_store_event rfl 28 (.tmp 8) (.tmp 43) rfl gb307 #[.slice none 0 0, .int .i64 0, .int .i64 0] rfl rfl 28 _ BK307.out (by kernel_rfl) rfl (by simp [Value.oneCell']) ?_; intro w2_ hs; have n0_ := Aside0.mk (hs.below HB.out GE307.out); have n1_ := Aside0.mk hs.at_; clear HB BK307 hs; have HB := n0_; have BK307 := n1_; clear n0_ n1_; have p308 : 0 ≤ (x7_1 : Int) := of_decide_eq_true (by first | (with_reducible assumption) | assumption); have q308 : x7_1 < (l0.length : Int) := of_decide_eq_true (by first | (with_reducible assumption) | assumption); obtain ⟨ad308, A308_0, c308_0, e308, hx308_0, hx308_1, hx308_2, hl308_0, hi308_0⟩ := at_T28 HR0.out x7_1 p308 q308; cases e308; replace hx308_0 := (HB.out.cell (World.block_lt_of_cell? w _ hx308_0)).trans hx308_0; replace hx308_1 := (HB.out.cell (World.block_lt_of_cell? w _ hx308_1)).trans hx308_1; replace hx308_2 := (HB.out.cell (World.block_lt_of_cell? w _ hx308_2)).trans hx308_2; have HR308_0 := Aside0.mk hi308_0; have HC308_0 := Aside0.mk hl308_0; clear hi308_0 hl308_0; replace p308 := eq_true p308; replace q308 := eq_true q308) | (refine MyWords.row_store_event rfl 28 (.tmp 8) (.tmp 51) rfl gb307 #[.slice A308_0 ((rd_T28 l0 x7_1).f0).length c308_0, .int .i64 ((rd_T28 l0 x7_1).f1), .int .i64 ((rd_T28 l0 x7_1).f2)] rfl rfl 28 _ BK307.out (by kernel_rfl) rfl (by simp [Value.oneCell']) ?_; intro w3_ hs; have n0_ := Aside0.mk (hs.below HB.out GE307.out); have n1_ := Aside0.mk hs.at_; clear HB BK307 hs; have HB := n0_; have BK307 := n1_; clear n0_ n1_; clear hx308_0 hx308_1 hx308_2; have hcz_0 := (blk_cell BK307.out 0).trans rfl; have hcz_1 := (blk_cell BK307.out 1).trans rfl; have hcz_2 := (blk_cell BK307.out 2).trans rfl) | ((with_reducible refine gate_callee (f := 11) rfl ?_); refine goesL_ (some 60) rfl rfl Try.func11 (by kernel_rfl) rfl #[.agg #[.slice A308_0 ((rd_T28 l0 x7_1).f0).length c308_0, .int .i64 ((rd_T28 l0 x7_1).f1), .int .i64 ((rd_T28 l0 x7_1).f2)]] rfl (by (try simp only [List.map_toArray, List.map_cons, List.map_nil]); first | done | rfl | (simp only [List.length_drop, List.length_take]; rfl)) ?_; (with_reducible refine (peristyleref22_May.calls k1 _ _ ((rd_T28 l0 x7_1).f0) ((rd_T28 l0 x7_1).f1) ((rd_T28 l0 x7_1).f2) false _ ?side1 ?side2 A17.out).mono ?_); (case side1 => exact Kd.C_below HR308_0.out (by repeat (first | (with_reducible first | exact HB.out | apply below_alloc | apply pw_below_drewN | apply below_drew1 | refine below_set ?_ GE307.out) | exact HB.out))); (case side2 => exact HC308_0.out); rintro e w25 ⟨rfl, hb⟩; refine ⟨_, rfl, ?_⟩; have n0_ := Aside0.mk (blk_below BK307.out hb); have n1_ := Aside0.mk (below_step (by repeat (first | (with_reducible first | exact HB.out | apply below_alloc | apply pw_below_drewN | apply below_drew1 | refine below_set ?_ GE307.out) | exact HB.out)) hb); clear BK307; clear HB; have BK307 := n0_; have HB := n1_; clear n0_ n1_; (try clear hb); (try clear hb2); (try clear hk); (try clear hi)) | ((with_reducible refine gate_callee (f := 10) rfl ?_); refine goesL_ (some 62) rfl rfl Try.func10 (by kernel_rfl) rfl #[] rfl (by (try simp only [List.map_toArray, List.map_cons, List.map_nil]); first | done | rfl | (simp only [List.length_drop, List.length_take]; rfl)) ?_; (with_reducible refine (peristylelaw27_awake.calls k1  t310 _ A22.out).mono ?_); rintro e w26 ⟨rfl, hb⟩; refine ⟨_, rfl, ?_⟩; have n0_ := Aside0.mk (blk_below (g := gb307) (o := .cells #[.slice A308_0 ((rd_T28 l0 x7_1).f0).length c308_0, .int .i64 ((rd_T28 l0 x7_1).f1), .int .i64 ((rd_T28 l0 x7_1).f2)] 28 (0, 0)) (by (with_reducible repeat (first | refine blk_drewN ?_ _ | refine blk_drew ?_ | refine blk_alloc ?_ _)); exact BK307.out) hb); have n1_ := Aside0.mk (below_step (by repeat (first | (with_reducible first | exact HB.out | apply below_alloc | apply pw_below_drewN | apply below_drew1 | refine below_set ?_ GE307.out) | exact HB.out)) hb); clear BK307; clear HB; have BK307 := n0_; have HB := n1_; clear n0_ n1_; (try clear hb); (try clear hb2); (try clear hk); (try clear hi)))
           go_ret
           exact ⟨by first | rfl | (simp [errW_none, errW_some] <;> rfl) | (simp [*, errW_none, errW_some] <;> rfl), by repeat (first | (with_reducible first | exact HB.out | apply below_alloc | apply pw_below_drewN | apply below_drew1 | refine below_set ?_ GE307.out) | exact HB.out)⟩
         ·
          rw [if_neg c16] at H
          exact absurd H (by simp)
        ·
         rw [if_neg c15] at H
         have c15b0 : decide (x7_1 < (l0.length : Int)) = false := decide_eq_false c15
         clear c15
         obtain ⟨ji27, hji27⟩ : ∃ j_ : Int, (wrap64 (x7_1 - (l0.length : Int))) = j_ := ⟨_, rfl⟩
         replace H : (if 0 ≤ (ji27) then (if (ji27) < (l1.length : Int) then ((peristyleref22_May.f k1 ((rd_T28 l1 (ji27)).f0) ((rd_T28 l1 (ji27)).f1) ((rd_T28 l1 (ji27)).f2)).bind fun t312 => (if t312 = true then (peristylelaw27_MoverKeeps.l0 k1 l0 l1 a2 (wrap64 (x7_1 + 1))) else ((peristylelaw27_awake.f k1).bind fun t313 => (some t313)))) else (none)) else (none)) = some r := by first | (rw [hji27] at H; exact H) | (simp only [hji27] at H ⊢; exact H)
         have hji27w : (IntKind.i64.wrap (x7_1 - (l0.length : Int))) = ji27 := (i64_w _).trans hji27
         by_cases c28 : 0 ≤ (ji27)
         ·
          rw [if_pos c28] at H
          have c28b0 : decide (0 ≤ (ji27)) = true := decide_eq_true c28
          clear c28
          by_cases c29 : (ji27) < (l1.length : Int)
          ·
           rw [if_pos c29] at H
           have c29b0 : decide ((ji27) < (l1.length : Int)) = true := decide_eq_true c29
           clear c29
           replace H := Option.bind_eq_some_iff.mp H
           obtain ⟨t312, A300, H⟩ := H
           replace H : (if t312 = true then (peristylelaw27_MoverKeeps.l0 k1 l0 l1 a2 (wrap64 (x7_1 + 1))) else ((peristylelaw27_awake.f k1).bind fun t313 => (some t313))) = some r := H
           have A30 := Aside0.mk A300
           clear A300
           by_cases c31 : t312 = true
           ·
            subst c31
            have H1 : (peristylelaw27_MoverKeeps.l0 k1 l0 l1 a2 (wrap64 (x7_1 + 1))) = some r := by rw [if_pos rfl] at H; exact H
            clear H
            have H := H1
            clear H1
            have H' := Aside0.mk H
            clear H
            go_wp2_with (first | ((with_reducible refine gate_dst (N := 8) rfl ?_); refine box_event ?hg (N := 8) ?hd (cs := #[.slice none 0 0, .int .i64 0, .int .i64 0]) (t := 28) ?hr ?_; (case hd => rfl); (case hg => rfl); (case hr => first | (go_simp; done) | (go_simp; rfl)); intro gb307 hg w1_ hbox hb; have GE307 := Aside0.mk ((by rw [hg]; exact HB.out.size) : w.heap.size ≤ gb307); have n0_ := Aside0.mk (below_step HB.out hb); clear HB; have HB := n0_; have BK307 := Aside0.mk hbox; clear n0_ hg hbox hb) | (refine MyWords.row_store_event rfl 28 (.tmp 8) (.tmp 43) rfl gb307 #[.slice none 0 0, .int .i64 0, .int .i64 0] rfl rfl 28 _ BK307.out (by kernel_rfl) rfl (by simp [Value.oneCell']) ?_; intro w2_ hs; have n0_ := Aside0.mk (hs.below HB.out GE307.out); have n1_ := Aside0.mk hs.at_; clear HB BK307 hs; have HB := n0_; have BK307 := n1_; clear n0_ n1_; have p311 : 0 ≤ ((ji27) : Int) := of_decide_eq_true (by first | (with_reducible assumption) | assumption); have q311 : (ji27) < (l1.length : Int) := of_decide_eq_true (by first | (with_reducible assumption) | assumption); obtain ⟨ad311, A311_0, c311_0, e311, hx311_0, hx311_1, hx311_2, hl311_0, hi311_0⟩ := at_T28 HR1.out (ji27) p311 q311; cases e311; replace hx311_0 := (HB.out.cell (World.block_lt_of_cell? w _ hx311_0)).trans hx311_0; replace hx311_1 := (HB.out.cell (World.block_lt_of_cell? w _ hx311_1)).trans hx311_1; replace hx311_2 := (HB.out.cell (World.block_lt_of_cell? w _ hx311_2)).trans hx311_2; have HR311_0 := Aside0.mk hi311_0; have HC311_0 := Aside0.mk hl311_0; clear hi311_0 hl311_0; replace p311 := eq_true p311; replace q311 := eq_true q311) | (refine MyWords.row_store_event rfl 28 (.tmp 8) (.tmp 58) rfl gb307 #[.slice A311_0 ((rd_T28 l1 (ji27)).f0).length c311_0, .int .i64 ((rd_T28 l1 (ji27)).f1), .int .i64 ((rd_T28 l1 (ji27)).f2)] rfl rfl 28 _ BK307.out (by kernel_rfl) rfl (by simp [Value.oneCell']) ?_; intro w3_ hs; have n0_ := Aside0.mk (hs.below HB.out GE307.out); have n1_ := Aside0.mk hs.at_; clear HB BK307 hs; have HB := n0_; have BK307 := n1_; clear n0_ n1_; clear hx311_0 hx311_1 hx311_2; have hcz_0 := (blk_cell BK307.out 0).trans rfl; have hcz_1 := (blk_cell BK307.out 1).trans rfl; have hcz_2 := (blk_cell BK307.out 2).trans rfl) | ((with_reducible refine gate_callee (f := 11) rfl ?_); refine goesL_ (some 60) rfl rfl Try.func11 (by kernel_rfl) rfl #[.agg #[.slice A311_0 ((rd_T28 l1 (ji27)).f0).length c311_0, .int .i64 ((rd_T28 l1 (ji27)).f1), .int .i64 ((rd_T28 l1 (ji27)).f2)]] rfl (by (try simp only [List.map_toArray, List.map_cons, List.map_nil]); first | done | (simp only [hji27]; rfl) | rfl | (simp only [List.length_drop, List.length_take]; rfl)) ?_; (with_reducible refine (peristyleref22_May.calls k1 _ _ ((rd_T28 l1 (ji27)).f0) ((rd_T28 l1 (ji27)).f1) ((rd_T28 l1 (ji27)).f2) true _ ?side1 ?side2 A30.out).mono ?_); (case side1 => exact Kd.C_below HR311_0.out (by repeat (first | (with_reducible first | exact HB.out | apply below_alloc | apply pw_below_drewN | apply below_drew1 | refine below_set ?_ GE307.out) | exact HB.out))); (case side2 => exact HC311_0.out); rintro e w34 ⟨rfl, hb⟩; refine ⟨_, rfl, ?_⟩; have n0_ := Aside0.mk (blk_below BK307.out hb); have n1_ := Aside0.mk (below_step (by repeat (first | (with_reducible first | exact HB.out | apply below_alloc | apply pw_below_drewN | apply below_drew1 | refine below_set ?_ GE307.out) | exact HB.out)) hb); clear BK307; clear HB; have BK307 := n0_; have HB := n1_; clear n0_ n1_; (try clear hb); (try clear hb2); (try clear hk); (try clear hi)))
            go_roundg k1
            case measure => have := HK1.out; omega
            case rel => exact ⟨(wrap64 (x7_1 + 1)), (by first | rfl | (simp; done) | (simp [*]; done)), H', ⟨by have := HK1.out; omega⟩, ⟨by repeat (first | (with_reducible first | exact HB.out | apply below_alloc | apply pw_below_drewN | apply below_drew1 | refine below_set ?_ GE307.out) | exact HB.out)⟩⟩
           ·
            replace c31 := Bool.eq_false_iff.mpr c31
            subst c31
            have H1 : ((peristylelaw27_awake.f k1).bind fun t313 => (some t313)) = some r := by rw [if_neg (show ¬ (false = true) by decide)] at H; exact H
            clear H
            have H := H1
            clear H1
            replace H := Option.bind_eq_some_iff.mp H
            obtain ⟨t313, A350, H⟩ := H
            replace H : (some t313) = some r := H
            have A35 := Aside0.mk A350
            clear A350
            obtain rfl := Option.some.inj H
            go_wp2_with (first | ((with_reducible refine gate_dst (N := 8) rfl ?_); refine box_event ?hg (N := 8) ?hd (cs := #[.slice none 0 0, .int .i64 0, .int .i64 0]) (t := 28) ?hr ?_; (case hd => rfl); (case hg => rfl); (case hr => first | (go_simp; done) | (go_simp; rfl)); intro gb307 hg w1_ hbox hb; have GE307 := Aside0.mk ((by rw [hg]; exact HB.out.size) : w.heap.size ≤ gb307); have n0_ := Aside0.mk (below_step HB.out hb); clear HB; have HB := n0_; have BK307 := Aside0.mk hbox; clear n0_ hg hbox hb) | (refine MyWords.row_store_event rfl 28 (.tmp 8) (.tmp 43) rfl gb307 #[.slice none 0 0, .int .i64 0, .int .i64 0] rfl rfl 28 _ BK307.out (by kernel_rfl) rfl (by simp [Value.oneCell']) ?_; intro w2_ hs; have n0_ := Aside0.mk (hs.below HB.out GE307.out); have n1_ := Aside0.mk hs.at_; clear HB BK307 hs; have HB := n0_; have BK307 := n1_; clear n0_ n1_; have p311 : 0 ≤ ((ji27) : Int) := of_decide_eq_true (by first | (with_reducible assumption) | assumption); have q311 : (ji27) < (l1.length : Int) := of_decide_eq_true (by first | (with_reducible assumption) | assumption); obtain ⟨ad311, A311_0, c311_0, e311, hx311_0, hx311_1, hx311_2, hl311_0, hi311_0⟩ := at_T28 HR1.out (ji27) p311 q311; cases e311; replace hx311_0 := (HB.out.cell (World.block_lt_of_cell? w _ hx311_0)).trans hx311_0; replace hx311_1 := (HB.out.cell (World.block_lt_of_cell? w _ hx311_1)).trans hx311_1; replace hx311_2 := (HB.out.cell (World.block_lt_of_cell? w _ hx311_2)).trans hx311_2; have HR311_0 := Aside0.mk hi311_0; have HC311_0 := Aside0.mk hl311_0; clear hi311_0 hl311_0; replace p311 := eq_true p311; replace q311 := eq_true q311) | (refine MyWords.row_store_event rfl 28 (.tmp 8) (.tmp 58) rfl gb307 #[.slice A311_0 ((rd_T28 l1 (ji27)).f0).length c311_0, .int .i64 ((rd_T28 l1 (ji27)).f1), .int .i64 ((rd_T28 l1 (ji27)).f2)] rfl rfl 28 _ BK307.out (by kernel_rfl) rfl (by simp [Value.oneCell']) ?_; intro w3_ hs; have n0_ := Aside0.mk (hs.below HB.out GE307.out); have n1_ := Aside0.mk hs.at_; clear HB BK307 hs; have HB := n0_; have BK307 := n1_; clear n0_ n1_; clear hx311_0 hx311_1 hx311_2; have hcz_0 := (blk_cell BK307.out 0).trans rfl; have hcz_1 := (blk_cell BK307.out 1).trans rfl; have hcz_2 := (blk_cell BK307.out 2).trans rfl) | ((with_reducible refine gate_callee (f := 11) rfl ?_); refine goesL_ (some 60) rfl rfl Try.func11 (by kernel_rfl) rfl #[.agg #[.slice A311_0 ((rd_T28 l1 (ji27)).f0).length c311_0, .int .i64 ((rd_T28 l1 (ji27)).f1), .int .i64 ((rd_T28 l1 (ji27)).f2)]] rfl (by (try simp only [List.map_toArray, List.map_cons, List.map_nil]); first | done | (simp only [hji27]; rfl) | rfl | (simp only [List.length_drop, List.length_take]; rfl)) ?_; (with_reducible refine (peristyleref22_May.calls k1 _ _ ((rd_T28 l1 (ji27)).f0) ((rd_T28 l1 (ji27)).f1) ((rd_T28 l1 (ji27)).f2) false _ ?side1 ?side2 A30.out).mono ?_); (case side1 => exact Kd.C_below HR311_0.out (by repeat (first | (with_reducible first | exact HB.out | apply below_alloc | apply pw_below_drewN | apply below_drew1 | refine below_set ?_ GE307.out) | exact HB.out))); (case side2 => exact HC311_0.out); rintro e w38 ⟨rfl, hb⟩; refine ⟨_, rfl, ?_⟩; have n0_ := Aside0.mk (blk_below BK307.out hb); have n1_ := Aside0.mk (below_step (by repeat (first | (with_reducible first | exact HB.out | apply below_alloc | apply pw_below_drewN | apply below_drew1 | refine below_set ?_ GE307.out) | exact HB.out)) hb); clear BK307; clear HB; have BK307 := n0_; have HB := n1_; clear n0_ n1_; (try clear hb); (try clear hb2); (try clear hk); (try clear hi)) | ((with_reducible refine gate_callee (f := 10) rfl ?_); refine goesL_ (some 62) rfl rfl Try.func10 (by kernel_rfl) rfl #[] rfl (by (try simp only [List.map_toArray, List.map_cons, List.map_nil]); first | done | rfl | (simp only [List.length_drop, List.length_take]; rfl)) ?_; (with_reducible refine (peristylelaw27_awake.calls k1  t313 _ A35.out).mono ?_); rintro e w39 ⟨rfl, hb⟩; refine ⟨_, rfl, ?_⟩; have n0_ := Aside0.mk (blk_below (g := gb307) (o := .cells #[.slice A311_0 ((rd_T28 l1 (ji27)).f0).length c311_0, .int .i64 ((rd_T28 l1 (ji27)).f1), .int .i64 ((rd_T28 l1 (ji27)).f2)] 28 (0, 0)) (by (with_reducible repeat (first | refine blk_drewN ?_ _ | refine blk_drew ?_ | refine blk_alloc ?_ _)); exact BK307.out) hb); have n1_ := Aside0.mk (below_step (by repeat (first | (with_reducible first | exact HB.out | apply below_alloc | apply pw_below_drewN | apply below_drew1 | refine below_set ?_ GE307.out) | exact HB.out)) hb); clear BK307; clear HB; have BK307 := n0_; have HB := n1_; clear n0_ n1_; (try clear hb); (try clear hb2); (try clear hk); (try clear hi)))
            go_ret
            exact ⟨by first | rfl | (simp [errW_none, errW_some] <;> rfl) | (simp only [← hji27]; first | rfl | (simp [errW_none, errW_some] <;> rfl)) | (simp [*, errW_none, errW_some] <;> rfl), by repeat (first | (with_reducible first | exact HB.out | apply below_alloc | apply pw_below_drewN | apply below_drew1 | refine below_set ?_ GE307.out) | exact HB.out)⟩
          ·
           rw [if_neg c29] at H
           exact absurd H (by simp)
         ·
          rw [if_neg c28] at H
          exact absurd H (by simp)
       ·
        rw [if_neg c14] at H
        have c14b0 : decide (x7_1 < (wrap64 ((l0.length : Int) + (l1.length : Int)))) = false := decide_eq_false c14
        clear c14
        replace H := Option.bind_eq_some_iff.mp H
        obtain ⟨t314, A400, H⟩ := H
        replace H : ((mover_Vectors.f k1 t314).bind fun bt317 => ((mover_Lives.f k1 bt317.1 bt317.2.1 bt317.2.2).bind fun bt326 => (if bt326.2 = 0 then ((peristyleref22_Same.f k1 bt326.1 t314).bind fun t330 => (if t330 = true then (peristylelaw27_MoverKeeps.l1 k1 l0 l1 a2 t314 0) else (none))) else (none)))) = some r := H
        have A40 := Aside0.mk A400
        clear A400
        replace H := Option.bind_eq_some_iff.mp H
        obtain ⟨⟨t317, t320, t323⟩, A410, H⟩ := H
        replace H : ((mover_Lives.f k1 t317 t320 t323).bind fun bt326 => (if bt326.2 = 0 then ((peristyleref22_Same.f k1 bt326.1 t314).bind fun t330 => (if t330 = true then (peristylelaw27_MoverKeeps.l1 k1 l0 l1 a2 t314 0) else (none))) else (none))) = some r := H
        have A41 := Aside0.mk A410
        clear A410
        replace H := Option.bind_eq_some_iff.mp H
        obtain ⟨⟨t326, t329⟩, A420, H⟩ := H
        replace H : (if t329 = 0 then ((peristyleref22_Same.f k1 t326 t314).bind fun t330 => (if t330 = true then (peristylelaw27_MoverKeeps.l1 k1 l0 l1 a2 t314 0) else (none))) else (none)) = some r := H
        have A42 := Aside0.mk A420
        clear A420
        by_cases c43 : t329 = 0
        ·
         rw [if_pos c43] at H
         have c43b0 : (t329 == 0) = true := beq_iff_eq.mpr c43
         have c43b1 : (t329 != 0) = false := bne_eq_false_iff_eq.mpr c43
         clear c43
         replace H := Option.bind_eq_some_iff.mp H
         obtain ⟨t330, A440, H⟩ := H
         replace H : (if t330 = true then (peristylelaw27_MoverKeeps.l1 k1 l0 l1 a2 t314 0) else (none)) = some r := H
         have A44 := Aside0.mk A440
         clear A440
         by_cases c45 : t330 = true
         ·
          subst c45
          have H1 : (peristylelaw27_MoverKeeps.l1 k1 l0 l1 a2 t314 0) = some r := by rw [if_pos rfl] at H; exact H
          clear H
          have H := H1
          clear H1
          have H' := Aside0.mk H
          clear H
          go_wp2_with (first | ((with_reducible refine gate_callee (f := 12) rfl ?_); refine goesL_ (some 66) rfl rfl Try.func12 (by kernel_rfl) rfl #[.slice A0 l0.length c0, .slice A1 l1.length c1, .int .i64 a2] rfl (by (try simp only [List.map_toArray, List.map_cons, List.map_nil]); first | done | rfl | (simp only [List.length_drop, List.length_take]; rfl)) ?_; (with_reducible refine (mover_Merge.calls (fun k_ => k_ < w.heap.size) _ _ l0 (fun k_ => k_ < w.heap.size) _ _ l1 a2 t314 _ ?side1 ?side2 A40.out).mono ?_); (case side1 => exact Kd.V_mk HC0.out (Kd.F_below (Kd.C_F k28_heap HR0.out) (by repeat (first | (with_reducible first | exact HB.out | apply below_alloc | apply pw_below_drewN | apply below_drew1) | exact HB.out)))); (case side2 => exact Kd.V_mk HC1.out (Kd.F_below (Kd.C_F k28_heap HR1.out) (by repeat (first | (with_reducible first | exact HB.out | apply below_alloc | apply pw_below_drewN | apply below_drew1) | exact HB.out)))); rintro e w46 ⟨v315, rfl, ho0, hb⟩; refine ⟨_, rfl, ?_⟩; have n0_ := Aside0.mk (Kd.N_lower (Kd.N_mono (ok' := fun k_ => True) ho0 (fun k_ hk_ => trivial)) (below_size (by repeat (first | (with_reducible first | exact HB.out | apply below_alloc | apply pw_below_drewN | apply below_drew1) | exact HB.out)))); have n1_ := Aside0.mk (below_step (by repeat (first | (with_reducible first | exact HB.out | apply below_alloc | apply pw_below_drewN | apply below_drew1) | exact HB.out)) hb); clear HB; have HO316 := n0_; have HB := n1_; clear n0_ n1_; (try clear hb); (try clear hb2); (try clear hk); (try clear hi); (try clear ho0); obtain ⟨Ao47, co47, eo47⟩ := Kd.N_slice HO316.out; subst eo47) | ((with_reducible refine gate_callee (f := 13) rfl ?_); refine goesL_ (some 69) rfl rfl Try.func13 (by kernel_rfl) rfl #[.slice Ao47 t314.length co47] rfl (by (try simp only [List.map_toArray, List.map_cons, List.map_nil]); first | done | rfl | (simp only [List.length_drop, List.length_take]; rfl)) ?_; (with_reducible refine (mover_Vectors.calls k1 (fun k_ => True) _ _ t314 t317 t320 t323 _ ?side1 A41.out).mono ?_); (case side1 => exact Kd.N_V (HO316.out)); rintro e w48 ⟨v318, v321, v324, rfl, ho0, ho1, ho2, hb⟩; refine ⟨_, rfl, ?_⟩; have n0_ := Aside0.mk (Kd.N_mono (Kd.N_told (Kd.N_told (Kd.N_told (Kd.N_old (by (with_reducible repeat (first | apply Kd.N_alloc | apply Kd.N_drewN | apply Kd.N_drew)); exact HO316.out) hb) (Kd.N_base ho0)) (Kd.R_base ho1)) (Kd.R_base ho2)) (fun _ h_ => h_.1)); have n1_ := Aside0.mk (Kd.N_lower (Kd.N_mono (ok' := fun k_ => some k_ ≠ (v321 : Value).ownBlock ∧ some k_ ≠ (v324 : Value).ownBlock) ho0 (fun k_ hk_ => ⟨hk_.2.1, hk_.2.2⟩)) (below_size (by repeat (first | (with_reducible first | exact HB.out | apply below_alloc | apply pw_below_drewN | apply below_drew1) | exact HB.out)))); have n2_ := Aside0.mk (Kd.R_lower (Kd.R_mono (ok' := fun k_ => True) ho1 (fun _ hk_ => trivial)) (below_size (by repeat (first | (with_reducible first | exact HB.out | apply below_alloc | apply pw_below_drewN | apply below_drew1) | exact HB.out)))); have n3_ := Aside0.mk (Kd.R_lower (Kd.R_mono (ok' := fun k_ => True) ho2 (fun _ hk_ => trivial)) (below_size (by repeat (first | (with_reducible first | exact HB.out | apply below_alloc | apply pw_below_drewN | apply below_drew1) | exact HB.out)))); have n4_ := Aside0.mk (below_step (by repeat (first | (with_reducible first | exact HB.out | apply below_alloc | apply pw_below_drewN | apply below_drew1) | exact HB.out)) hb); clear HO316; clear HB; have HO316 := n0_; have HO319 := n1_; have HO322 := n2_; have HO325 := n3_; have HB := n4_; clear n0_ n1_ n2_ n3_ n4_; (try clear hb); (try clear hb2); (try clear hk); (try clear hi); (try clear ho0); (try clear ho1); (try clear ho2); obtain ⟨Ao49, co49, eo49⟩ := Kd.N_slice HO319.out; subst eo49; obtain ⟨Ao50, co50, eo50⟩ := Kd.R_slice HO322.out; subst eo50; obtain ⟨Ao51, co51, eo51⟩ := Kd.R_slice HO325.out; subst eo51) | ((with_reducible refine gate_callee (f := 14) rfl ?_); refine goesL_ (some 77) rfl rfl Try.func14 (by kernel_rfl) rfl #[.slice Ao49 t317.length co49, .slice Ao50 t320.length co50, .slice Ao51 t323.length co51] rfl (by (try simp only [List.map_toArray, List.map_cons, List.map_nil]); first | done | rfl | (simp only [List.length_drop, List.length_take]; rfl)) ?_; (with_reducible refine (mover_Lives.calls k1 (fun k_ => (some k_ ≠ (.slice Ao50 t320.length co50 : Value).ownBlock ∧ some k_ ≠ (.slice Ao51 t323.length co51 : Value).ownBlock)) _ _ t317 _ _ t320 _ _ t323 t326 t329 _ ?side1 ?side2 ?side3 ?side4 ?side5 A42.out).mono ?_); (case side1 => exact Kd.N_V (HO319.out)); (case side2 => repeat (first | exact (Kd.R_reads' HO322.out).2.2 | (with_reducible refine Kd.C_alloc ?_ _) | (with_reducible refine Kd.C_drewN ?_ _) | (with_reducible refine Kd.C_drew ?_))); (case side3 => exact (Kd.R_reads' HO322.out).2.1); (case side4 => repeat (first | exact (Kd.R_reads' HO325.out).2.2 | (with_reducible refine Kd.C_alloc ?_ _) | (with_reducible refine Kd.C_drewN ?_ _) | (with_reducible refine Kd.C_drew ?_))); (case side5 => exact (Kd.R_reads' HO325.out).2.1); rintro e w52 ⟨v327, rfl, ho0, hb⟩; refine ⟨_, rfl, ?_⟩; have n0_ := Aside0.mk (Kd.N_elder' (by (with_reducible repeat (first | apply Kd.N_alloc | apply Kd.N_drewN | apply Kd.N_drew)); exact HO316.out) (Kd.N_base ho0) hb); have n1_ := Aside0.mk (Kd.N_elder' (by (with_reducible repeat (first | apply Kd.N_alloc | apply Kd.N_drewN | apply Kd.N_drew)); exact HO319.out) (Kd.N_base ho0) hb); have n2_ := Aside0.mk (Kd.R_below (by (with_reducible repeat (first | apply Kd.R_alloc | apply Kd.R_drewN | apply Kd.R_drew)); exact HO322.out) hb); have n3_ := Aside0.mk (Kd.R_below (by (with_reducible repeat (first | apply Kd.R_alloc | apply Kd.R_drewN | apply Kd.R_drew)); exact HO325.out) hb); have n4_ := Aside0.mk (Kd.N_lower (Kd.N_mono (ok' := fun k_ => some k_ ≠ (.slice Ao50 t320.length co50 : Value).ownBlock ∧ some k_ ≠ (.slice Ao51 t323.length co51 : Value).ownBlock) ho0 (fun k_ hk_ => ⟨Or.elim hk_ (fun hs_ => hs_.1) (fun hn_ => (Kd.fresh' (Kd.R_lt (by (with_reducible repeat (first | apply Kd.R_alloc | apply Kd.R_drewN | apply Kd.R_drew)); exact HO322.out)) k_ hn_)), Or.elim hk_ (fun hs_ => hs_.2) (fun hn_ => (Kd.fresh' (Kd.R_lt (by (with_reducible repeat (first | apply Kd.R_alloc | apply Kd.R_drewN | apply Kd.R_drew)); exact HO325.out)) k_ hn_))⟩)) (below_size (by repeat (first | (with_reducible first | exact HB.out | apply below_alloc | apply pw_below_drewN | apply below_drew1) | exact HB.out)))); have n5_ := Aside0.mk (below_step (by repeat (first | (with_reducible first | exact HB.out | apply below_alloc | apply pw_below_drewN | apply below_drew1) | exact HB.out)) hb); clear HO316; clear HO319; clear HO322; clear HO325; clear HB; have HO316 := n0_; have HO319 := n1_; have HO322 := n2_; have HO325 := n3_; have HO328 := n4_; have HB := n5_; clear n0_ n1_ n2_ n3_ n4_ n5_; (try clear hb); (try clear hb2); (try clear hk); (try clear hi); (try clear ho0); obtain ⟨Ao53, co53, eo53⟩ := Kd.N_slice HO328.out; subst eo53) | (go_at_call 15; (with_reducible refine (peristyleref22_Same.calls k1 _ _ t326 _ _ t314 true _ ?side1 ?side2 ?side3 ?side4 A44.out).mono ?_); (case side1 => repeat (first | exact (Kd.N_reads' HO328.out).2.2 | (with_reducible refine Kd.C_alloc ?_ _) | (with_reducible refine Kd.C_drewN ?_ _) | (with_reducible refine Kd.C_drew ?_))); (case side2 => exact (Kd.N_reads' HO328.out).2.1); (case side3 => repeat (first | exact (Kd.N_reads' HO316.out).2.2 | (with_reducible refine Kd.C_alloc ?_ _) | (with_reducible refine Kd.C_drewN ?_ _) | (with_reducible refine Kd.C_drew ?_))); (case side4 => exact (Kd.N_reads' HO316.out).2.1); rintro e w54 ⟨rfl, hb⟩; have n0_ := Aside0.mk (Kd.N_below (by (with_reducible repeat (first | apply Kd.N_alloc | apply Kd.N_drewN | apply Kd.N_drew)); exact HO316.out) hb); have n1_ := Aside0.mk (Kd.N_below (by (with_reducible repeat (first | apply Kd.N_alloc | apply Kd.N_drewN | apply Kd.N_drew)); exact HO319.out) hb); have n2_ := Aside0.mk (Kd.R_below (by (with_reducible repeat (first | apply Kd.R_alloc | apply Kd.R_drewN | apply Kd.R_drew)); exact HO322.out) hb); have n3_ := Aside0.mk (Kd.R_below (by (with_reducible repeat (first | apply Kd.R_alloc | apply Kd.R_drewN | apply Kd.R_drew)); exact HO325.out) hb); have n4_ := Aside0.mk (Kd.N_below (by (with_reducible repeat (first | apply Kd.N_alloc | apply Kd.N_drewN | apply Kd.N_drew)); exact HO328.out) hb); have n5_ := Aside0.mk (below_step (by repeat (first | (with_reducible first | exact HB.out | apply below_alloc | apply pw_below_drewN | apply below_drew1) | exact HB.out)) hb); clear HO316; clear HO319; clear HO322; clear HO325; clear HO328; clear HB; have HO316 := n0_; have HO319 := n1_; have HO322 := n2_; have HO325 := n3_; have HO328 := n4_; have HB := n5_; clear n0_ n1_ n2_ n3_ n4_ n5_; (try clear hb); (try clear hb2); (try clear hk); (try clear hi)))
          go_loopg [15] k1 (fun kq v15 w' => ∃ (x15_2 : Int), v15 = .int .i64 x15_2 ∧ Aside0 (peristylelaw27_MoverKeeps.l1 kq l0 l1 a2 t314 x15_2 = some r) ∧ Aside0 (kq ≤ k1) ∧ Aside0 (Kd.N k28 28 w' w.heap.size (fun _ => True) (.slice Ao47 t314.length co47) t314) ∧ Aside0 (Below w.heap.size w w'))
          case atStart => exact ⟨(0), (by first | rfl | (simp; done) | (simp [*]; done)), H', ⟨Nat.le_refl _⟩, ⟨by (with_reducible repeat (first | apply Kd.N_alloc | apply Kd.N_drewN | apply Kd.N_drew)); exact Kd.N_mono HO316.out (fun _ hk => trivial)⟩, ⟨by repeat (first | (with_reducible first | exact HB.out | apply below_alloc | apply pw_below_drewN | apply below_drew1) | exact HB.out)⟩⟩
          case round =>
           clear H'
           try clear c1
           try clear c2
           try clear p2
           try clear c3
           try clear p3
           try clear q3
           try clear hx3
           try clear c4
           try clear c5
           try clear p6
           try clear c7
           try clear c8
           try clear c8b0
           try clear c9
           try clear c10
           try clear c11
           try clear c11b0
           try clear c12
           try clear c13
           try clear c14
           try clear c14b0
           try clear c15
           try clear c15b0
           try clear c16
           try clear c16b0
           try clear c18
           try clear c28
           try clear c28b0
           try clear c29
           try clear c29b0
           try clear c30
           try clear p30
           try clear q30
           try clear hx30
           try clear c31
           try clear p31
           try clear q31
           try clear hx31
           try clear c43
           try clear c43b0
           try clear c43b1
           try clear c45
           try clear hcz20_0
           try clear hcz20_1
           try clear hcz20_2
           try clear hcz24_0
           try clear hcz24_1
           try clear hcz24_2
           try clear hcz33_0
           try clear hcz33_1
           try clear hcz33_2
           try clear hcz37_0
           try clear hcz37_1
           try clear hcz37_2
           try clear hfz20_0
           try clear hfz20_1
           try clear hfz20_2
           try clear hfz24_0
           try clear hfz24_1
           try clear hfz24_2
           try clear hfz33_0
           try clear hfz33_1
           try clear hfz33_2
           try clear hfz37_0
           try clear hfz37_1
           try clear hfz37_2
           try clear hx308_0
           try clear hx308_1
           try clear hx308_2
           try clear hx311_0
           try clear hx311_1
           try clear hx311_2
           try clear p2
           try clear p308
           try clear p311
           try clear q308
           try clear q311
           obtain ⟨x15_2, rfl, HA, HK2, HO_9, HB⟩ := hrel
           cases gk with
           | zero => exact absurd HA.out (by simp [peristylelaw27_MoverKeeps.l1])
           | succ k2 =>
            have H := HA.out
            clear HA
            simp only [peristylelaw27_MoverKeeps.l1] at H
            by_cases c55 : x15_2 < 16
            ·
             rw [if_pos c55] at H
             have c55b0 : decide (x15_2 < 16) = true := decide_eq_true c55
             clear c55
             replace H := Option.bind_eq_some_iff.mp H
             obtain ⟨t331, A560, H⟩ := H
             replace H : (if ([] : List (List (S98))).length + t331.length < 5864062014805 then ((some (([] : List (List (S98))) ++ t331 : List (List (S98)))).bind fun y334 => ((peristylelaw27_seen.f k2 l1 (wrap64 (a2 + x15_2))).bind fun t337 => (if y334.length + t337.length < 5864062014805 then ((peristylelaw27_seen.f k2 t314 (wrap64 (a2 + x15_2))).bind fun t343 => ((peristyleref06_SameRows.f k2 t343 (y334 ++ t337)).bind fun t346 => (if t346 = true then (peristylelaw27_MoverKeeps.l1 k2 l0 l1 a2 t314 (wrap64 (x15_2 + 1))) else (none)))) else (none)))) else (none)) = some r := H
             have A56 := Aside0.mk A560
             clear A560
             by_cases c57 : ([] : List (List (S98))).length + t331.length < 5864062014805
             ·
              rw [if_pos c57] at H
              have LMc57 := Aside0.mk c57
              clear c57
              obtain ⟨y334, hy334⟩ : ∃ y_ : List (List (S98)), y_ = (([] : List (List (S98))) ++ t331) := ⟨_, rfl⟩
              replace H : ((peristylelaw27_seen.f k2 l1 (wrap64 (a2 + x15_2))).bind fun t337 => (if y334.length + t337.length < 5864062014805 then ((peristylelaw27_seen.f k2 t314 (wrap64 (a2 + x15_2))).bind fun t343 => ((peristyleref06_SameRows.f k2 t343 (y334 ++ t337)).bind fun t346 => (if t346 = true then (peristylelaw27_MoverKeeps.l1 k2 l0 l1 a2 t314 (wrap64 (x15_2 + 1))) else (none)))) else (none))) = some r := by first | (rw [hy334]; with_reducible exact H) | (have H2_ := (Option.bind_some _ _).symm.trans H; rw [hy334]; with_reducible exact H2_) | (have H2_ := (Option.bind_some _ _).symm.trans H; with_reducible exact H2_) | with_reducible exact H | (rw [hy334]; exact H) | exact H
              have Ny334 := Aside0.mk hy334
              clear hy334
              replace H := Option.bind_eq_some_iff.mp H
              obtain ⟨t337, A580, H⟩ := H
              replace H : (if y334.length + t337.length < 5864062014805 then ((peristylelaw27_seen.f k2 t314 (wrap64 (a2 + x15_2))).bind fun t343 => ((peristyleref06_SameRows.f k2 t343 (y334 ++ t337)).bind fun t346 => (if t346 = true then (peristylelaw27_MoverKeeps.l1 k2 l0 l1 a2 t314 (wrap64 (x15_2 + 1))) else (none)))) else (none)) = some r := H
              have A58 := Aside0.mk A580
              clear A580
              by_cases c59 : y334.length + t337.length < 5864062014805
              ·
               rw [if_pos c59] at H
               have LMc59 := Aside0.mk c59
               clear c59
               obtain ⟨y340, hy340⟩ : ∃ y_ : List (List (S98)), y_ = (y334 ++ t337) := ⟨_, rfl⟩
               replace H : ((peristylelaw27_seen.f k2 t314 (wrap64 (a2 + x15_2))).bind fun t343 => ((peristyleref06_SameRows.f k2 t343 y340).bind fun t346 => (if t346 = true then (peristylelaw27_MoverKeeps.l1 k2 l0 l1 a2 t314 (wrap64 (x15_2 + 1))) else (none)))) = some r := by first | (rw [hy340]; with_reducible exact H) | (have H2_ := (Option.bind_some _ _).symm.trans H; rw [hy340]; with_reducible exact H2_) | (have H2_ := (Option.bind_some _ _).symm.trans H; with_reducible exact H2_) | with_reducible exact H | (rw [hy340]; exact H) | exact H
               have Ny340 := Aside0.mk hy340
               clear hy340
               replace H := Option.bind_eq_some_iff.mp H
               obtain ⟨t343, A600, H⟩ := H
               replace H : ((peristyleref06_SameRows.f k2 t343 y340).bind fun t346 => (if t346 = true then (peristylelaw27_MoverKeeps.l1 k2 l0 l1 a2 t314 (wrap64 (x15_2 + 1))) else (none))) = some r := H
               have A60 := Aside0.mk A600
               clear A600
               replace H := Option.bind_eq_some_iff.mp H
               obtain ⟨t346, A610, H⟩ := H
               replace H : (if t346 = true then (peristylelaw27_MoverKeeps.l1 k2 l0 l1 a2 t314 (wrap64 (x15_2 + 1))) else (none)) = some r := H
               have A61 := Aside0.mk A610
               clear A610
               by_cases c62 : t346 = true
               ·
                subst c62
                have H1 : (peristylelaw27_MoverKeeps.l1 k2 l0 l1 a2 t314 (wrap64 (x15_2 + 1))) = some r := by rw [if_pos rfl] at H; exact H
                clear H
                have H := H1
                clear H1
                have H' := Aside0.mk H
                clear H
                go_wp2_with (first | ((with_reducible refine gate_callee (f := 16) rfl ?_); refine goesL_ (some 97) rfl rfl Try.func16 (by kernel_rfl) rfl #[.slice A0 l0.length c0, .int .i64 (wrap64 (a2 + x15_2))] rfl (by (try simp only [List.map_toArray, List.map_cons, List.map_nil]); first | done | rfl | (simp only [List.length_drop, List.length_take]; rfl)) ?_; (with_reducible refine (peristylelaw27_seen.calls k2 (fun k_ => k_ < w.heap.size) _ _ l0 (wrap64 (a2 + x15_2)) t331 _ ?side1 A56.out).mono ?_); (case side1 => exact Kd.V_mk HC0.out (Kd.F_below (Kd.C_F k28_heap HR0.out) (by repeat (first | (with_reducible first | exact HB.out | apply below_alloc | apply pw_below_drewN | apply below_drew1) | exact HB.out)))); rintro e w63 ⟨v332, rfl, ho0, hb⟩; refine ⟨_, rfl, ?_⟩; have n0_ := Aside0.mk (Kd.N_elder' (by (with_reducible repeat (first | apply Kd.N_alloc | apply Kd.N_drewN | apply Kd.N_drew)); exact HO_9.out) (Kd.N_base ho0) hb); have n1_ := Aside0.mk (Kd.N_lower (Kd.N_mono (ok' := fun k_ => some k_ ≠ (.slice Ao47 t314.length co47 : Value).ownBlock) ho0 (fun k_ hk_ => Or.elim hk_ (fun hs_ => fun e_ => Nat.not_le.2 hs_ (Kd.N_base HO_9.out k_ e_.symm)) (fun hn_ => (Kd.fresh' (Kd.N_lt (by (with_reducible repeat (first | apply Kd.N_alloc | apply Kd.N_drewN | apply Kd.N_drew)); exact HO_9.out)) k_ hn_)))) (below_size (by repeat (first | (with_reducible first | exact HB.out | apply below_alloc | apply pw_below_drewN | apply below_drew1) | exact HB.out)))); have n2_ := Aside0.mk (below_step (by repeat (first | (with_reducible first | exact HB.out | apply below_alloc | apply pw_below_drewN | apply below_drew1) | exact HB.out)) hb); clear HO_9; clear HB; have HO_9 := n0_; have HO333 := n1_; have HB := n2_; clear n0_ n1_ n2_; (try clear hb); (try clear hb2); (try clear hk); (try clear hi); (try clear ho0); obtain ⟨Ao65, co65, eo65⟩ := Kd.N_slice HO333.out; subst eo65) | ((with_reducible refine gate_builtin (b := .append) (xs := #[.tmp 92, .tmp 97]) rfl ?_); at_builtin; refine Kd.N_append_rows (Kd.slice 98 k98) (w0 := w) w.heap.size rfl (.tmp 92) (.tmp 97) 31 26 (.slice none 0 0) 24 rfl Try.underlying31 info26 rfl (by decide) (by omega) (.slice none 0 0) ([] : List (List (S98))) t331 _ _ _ (fun k_ => some k_ ≠ (.slice Ao47 t314.length co47 : Value).ownBlock) (fun k_ => ((fun k_ => some k_ ≠ (.slice Ao47 t314.length co47 : Value).ownBlock)) k_ ∧ some k_ ≠ (.slice none 0 0 : Value).ownBlock) rfl rfl ?aO ?aR (fun _ hk => hk) ?aF ?aB ?aS ?aL ?_; (case aR => exact (by skip; exact Kd.N_F (Kd.N_mono (ok' := (fun k_ => ((fun k_ => some k_ ≠ (.slice Ao47 t314.length co47 : Value).ownBlock)) k_ ∧ some k_ ≠ (.slice none 0 0 : Value).ownBlock)) (HO333.out) (fun k_ hk => ⟨hk, (by simp [Value.ownBlock])⟩)))); (case aB => exact (by repeat (first | (with_reducible first | exact HB.out | apply below_alloc | apply pw_below_drewN | apply below_drew1) | exact HB.out))); (case aF => exact (fun k_ hk => Kd.fresh' (Kd.N_lt (by (with_reducible repeat (first | apply Kd.N_alloc | apply Kd.N_drewN | apply Kd.N_drew)); exact HO_9.out)) k_ hk)); (case aO => exact ((Kd.N_nil _ _ _ _ (fun k_ => some k_ ≠ (.slice Ao47 t314.length co47 : Value).ownBlock)))); (case aS => exact (below_size (by repeat (first | (with_reducible first | exact HB.out | apply below_alloc | apply pw_below_drewN | apply below_drew1) | exact HB.out)))); (case aL => have := LMc57.out; omega); intro v335 w64 ho hb hg hat; rw [← Ny334.out] at ho; have n0_ := Aside0.mk (Kd.N_afterv (Kd.N_apart_nil (by (with_reducible repeat (first | apply Kd.N_alloc | apply Kd.N_drewN | apply Kd.N_drew)); exact HO_9.out)) hg hat); have n1_ := Aside0.mk (Kd.N_afterv (Kd.N_apart_nil (by (with_reducible repeat (first | apply Kd.N_alloc | apply Kd.N_drewN | apply Kd.N_drew)); exact HO333.out)) hg hat); have n2_ := Aside0.mk (hb); have n3_ := Aside0.mk (ho); clear HO_9; clear HO333; clear HB; have HO_9 := n0_; have HO333 := n1_; have HB := n2_; have HO336 := n3_; clear n0_ n1_ n2_ n3_; clear ho hb hg hat) | ((with_reducible refine gate_callee (f := 16) rfl ?_); refine goesL_ (some 104) rfl rfl Try.func16 (by kernel_rfl) rfl #[.slice A1 l1.length c1, .int .i64 (wrap64 (a2 + x15_2))] rfl (by (try simp only [List.map_toArray, List.map_cons, List.map_nil]); first | done | rfl | (simp only [List.length_drop, List.length_take]; rfl)) ?_; (with_reducible refine (peristylelaw27_seen.calls k2 (fun k_ => k_ < w.heap.size) _ _ l1 (wrap64 (a2 + x15_2)) t337 _ ?side1 A58.out).mono ?_); (case side1 => exact Kd.V_mk HC1.out (Kd.F_below (Kd.C_F k28_heap HR1.out) (by repeat (first | (with_reducible first | exact HB.out | apply below_alloc | apply pw_below_drewN | apply below_drew1) | exact HB.out)))); rintro e w66 ⟨v338, rfl, ho0, hb⟩; refine ⟨_, rfl, ?_⟩; have n0_ := Aside0.mk (Kd.N_elder' (by (with_reducible repeat (first | apply Kd.N_alloc | apply Kd.N_drewN | apply Kd.N_drew)); exact HO_9.out) (Kd.N_base ho0) hb); have n1_ := Aside0.mk (Kd.N_elder' (by (with_reducible repeat (first | apply Kd.N_alloc | apply Kd.N_drewN | apply Kd.N_drew)); exact HO333.out) (Kd.N_base ho0) hb); have n2_ := Aside0.mk (Kd.N_elder' (by (with_reducible repeat (first | apply Kd.N_alloc | apply Kd.N_drewN | apply Kd.N_drew)); exact HO336.out) (Kd.N_base ho0) hb); have n3_ := Aside0.mk (Kd.N_lower (Kd.N_mono (ok' := fun k_ => some k_ ≠ (.slice Ao47 t314.length co47 : Value).ownBlock ∧ some k_ ≠ (.slice Ao65 t331.length co65 : Value).ownBlock ∧ some k_ ≠ (v335 : Value).ownBlock) ho0 (fun k_ hk_ => ⟨Or.elim hk_ (fun hs_ => fun e_ => Nat.not_le.2 hs_ (Kd.N_base HO_9.out k_ e_.symm)) (fun hn_ => (Kd.fresh' (Kd.N_lt (by (with_reducible repeat (first | apply Kd.N_alloc | apply Kd.N_drewN | apply Kd.N_drew)); exact HO_9.out)) k_ hn_)), Or.elim hk_ (fun hs_ => fun e_ => Nat.not_le.2 hs_ (Kd.N_base HO333.out k_ e_.symm)) (fun hn_ => (Kd.fresh' (Kd.N_lt (by (with_reducible repeat (first | apply Kd.N_alloc | apply Kd.N_drewN | apply Kd.N_drew)); exact HO333.out)) k_ hn_)), Or.elim hk_ (fun hs_ => fun e_ => Nat.not_le.2 hs_ (Kd.N_base HO336.out k_ e_.symm)) (fun hn_ => (Kd.fresh' (Kd.N_lt (by (with_reducible repeat (first | apply Kd.N_alloc | apply Kd.N_drewN | apply Kd.N_drew)); exact HO336.out)) k_ hn_))⟩)) (below_size (by repeat (first | (with_reducible first | exact HB.out | apply below_alloc | apply pw_below_drewN | apply below_drew1) | exact HB.out)))); have n4_ := Aside0.mk (below_step (by repeat (first | (with_reducible first | exact HB.out | apply below_alloc | apply pw_below_drewN | apply below_drew1) | exact HB.out)) hb); clear HO_9; clear HO333; clear HO336; clear HB; have HO_9 := n0_; have HO333 := n1_; have HO336 := n2_; have HO339 := n3_; have HB := n4_; clear n0_ n1_ n2_ n3_ n4_; (try clear hb); (try clear hb2); (try clear hk); (try clear hi); (try clear ho0); obtain ⟨Ao68, co68, eo68⟩ := Kd.N_slice HO339.out; subst eo68) | ((with_reducible refine gate_builtin (b := .append) (xs := #[.tmp 99, .tmp 104]) rfl ?_); at_builtin; refine Kd.N_append_rows (Kd.slice 98 k98) (w0 := w) w.heap.size rfl (.tmp 99) (.tmp 104) 31 26 (.slice none 0 0) 24 rfl Try.underlying31 info26 rfl (by decide) (by omega) v335 y334 t337 _ _ _ (fun k_ => some k_ ≠ (.slice Ao47 t314.length co47 : Value).ownBlock) (fun k_ => ((fun k_ => some k_ ≠ (.slice Ao47 t314.length co47 : Value).ownBlock)) k_ ∧ some k_ ≠ (v335 : Value).ownBlock) rfl rfl ?aO ?aR (fun _ hk => hk) ?aF ?aB ?aS ?aL ?_; (case aR => exact (by skip; exact Kd.N_F (Kd.N_mono (ok' := (fun k_ => ((fun k_ => some k_ ≠ (.slice Ao47 t314.length co47 : Value).ownBlock)) k_ ∧ some k_ ≠ (v335 : Value).ownBlock)) (HO339.out) (fun k_ hk => ⟨hk.1, hk.2.2⟩)))); (case aB => exact (by repeat (first | (with_reducible first | exact HB.out | apply below_alloc | apply pw_below_drewN | apply below_drew1) | exact HB.out))); (case aF => exact (fun k_ hk => Kd.fresh' (Kd.N_lt (by (with_reducible repeat (first | apply Kd.N_alloc | apply Kd.N_drewN | apply Kd.N_drew)); exact HO_9.out)) k_ hk)); (case aO => exact (by (with_reducible repeat (first | apply Kd.N_alloc | apply Kd.N_drewN | apply Kd.N_drew)); exact Kd.N_mono HO336.out (fun _ hk => hk.1))); (case aS => exact (below_size (by repeat (first | (with_reducible first | exact HB.out | apply below_alloc | apply pw_below_drewN | apply below_drew1) | exact HB.out)))); (case aL => have := LMc59.out; omega); intro v341 w67 ho hb hg hat; rw [← Ny340.out] at ho; have n0_ := Aside0.mk (Kd.N_afterv (ok := (fun k_ => some k_ ≠ (.slice Ao65 t331.length co65 : Value).ownBlock ∧ some k_ ≠ (.slice Ao68 t337.length co68 : Value).ownBlock)) (by (with_reducible repeat (first | apply Kd.N_alloc | apply Kd.N_drewN | apply Kd.N_drew)); exact Kd.N_mono HO_9.out (fun _ hk => ⟨⟨hk.1.1.2, hk.2⟩, hk.1.2⟩)) hg hat); have n1_ := Aside0.mk (Kd.N_afterv (ok := (fun k_ => some k_ ≠ (.slice Ao47 t314.length co47 : Value).ownBlock ∧ some k_ ≠ (.slice Ao68 t337.length co68 : Value).ownBlock)) (by (with_reducible repeat (first | apply Kd.N_alloc | apply Kd.N_drewN | apply Kd.N_drew)); exact Kd.N_mono HO333.out (fun _ hk => ⟨⟨hk.1.1, hk.2⟩, hk.1.2⟩)) hg hat); have n2_ := Aside0.mk (Kd.N_afterv (ok := (fun k_ => some k_ ≠ (.slice Ao47 t314.length co47 : Value).ownBlock ∧ some k_ ≠ (.slice Ao65 t331.length co65 : Value).ownBlock)) (by (with_reducible repeat (first | apply Kd.N_alloc | apply Kd.N_drewN | apply Kd.N_drew)); exact Kd.N_mono HO339.out (fun _ hk => ⟨⟨hk.1, hk.2.1⟩, hk.2.2⟩)) hg hat); have n3_ := Aside0.mk (hb); have n4_ := Aside0.mk (ho); clear HO_9; clear HO333; clear HO339; clear HB; clear HO336; have HO_9 := n0_; have HO333 := n1_; have HO339 := n2_; have HB := n3_; have HO342 := n4_; clear n0_ n1_ n2_ n3_ n4_; clear ho hb hg hat) | ((with_reducible refine gate_callee (f := 16) rfl ?_); refine goesL_ (some 110) rfl rfl Try.func16 (by kernel_rfl) rfl #[.slice Ao47 t314.length co47, .int .i64 (wrap64 (a2 + x15_2))] rfl (by (try simp only [List.map_toArray, List.map_cons, List.map_nil]); first | done | rfl | (simp only [List.length_drop, List.length_take]; rfl)) ?_; (with_reducible refine (peristylelaw27_seen.calls k2 (fun k_ => ((some k_ ≠ (.slice Ao65 t331.length co65 : Value).ownBlock ∧ some k_ ≠ (.slice Ao68 t337.length co68 : Value).ownBlock) ∧ some k_ ≠ (v341 : Value).ownBlock)) _ _ t314 (wrap64 (a2 + x15_2)) t343 _ ?side1 A60.out).mono ?_); (case side1 => exact Kd.N_V (HO_9.out)); rintro e w69 ⟨v344, rfl, ho0, hb⟩; refine ⟨_, rfl, ?_⟩; have n0_ := Aside0.mk (Kd.N_elder' (by (with_reducible repeat (first | apply Kd.N_alloc | apply Kd.N_drewN | apply Kd.N_drew)); exact HO_9.out) (Kd.N_base ho0) hb); have n1_ := Aside0.mk (Kd.N_elder' (by (with_reducible repeat (first | apply Kd.N_alloc | apply Kd.N_drewN | apply Kd.N_drew)); exact HO333.out) (Kd.N_base ho0) hb); have n2_ := Aside0.mk (Kd.N_elder' (by (with_reducible repeat (first | apply Kd.N_alloc | apply Kd.N_drewN | apply Kd.N_drew)); exact HO339.out) (Kd.N_base ho0) hb); have n3_ := Aside0.mk (Kd.N_elder' (by (with_reducible repeat (first | apply Kd.N_alloc | apply Kd.N_drewN | apply Kd.N_drew)); exact HO342.out) (Kd.N_base ho0) hb); have n4_ := Aside0.mk (Kd.N_lower (Kd.N_mono (ok' := fun k_ => some k_ ≠ (.slice Ao65 t331.length co65 : Value).ownBlock ∧ some k_ ≠ (.slice Ao68 t337.length co68 : Value).ownBlock ∧ some k_ ≠ (v341 : Value).ownBlock) ho0 (fun k_ hk_ => ⟨Or.elim hk_ (fun hs_ => hs_.1.1) (fun hn_ => (Kd.fresh' (Kd.N_lt (by (with_reducible repeat (first | apply Kd.N_alloc | apply Kd.N_drewN | apply Kd.N_drew)); exact HO333.out)) k_ hn_)), Or.elim hk_ (fun hs_ => hs_.1.2) (fun hn_ => (Kd.fresh' (Kd.N_lt (by (with_reducible repeat (first | apply Kd.N_alloc | apply Kd.N_drewN | apply Kd.N_drew)); exact HO339.out)) k_ hn_)), Or.elim hk_ (fun hs_ => hs_.2) (fun hn_ => (Kd.fresh' (Kd.N_lt (by (with_reducible repeat (first | apply Kd.N_alloc | apply Kd.N_drewN | apply Kd.N_drew)); exact HO342.out)) k_ hn_))⟩)) (below_size (by repeat (first | (with_reducible first | exact HB.out | apply below_alloc | apply pw_below_drewN | apply below_drew1) | exact HB.out)))); have n5_ := Aside0.mk (below_step (by repeat (first | (with_reducible first | exact HB.out | apply below_alloc | apply pw_below_drewN | apply below_drew1) | exact HB.out)) hb); clear HO_9; clear HO333; clear HO339; clear HO342; clear HB; have HO_9 := n0_; have HO333 := n1_; have HO339 := n2_; have HO342 := n3_; have HO345 := n4_; have HB := n5_; clear n0_ n1_ n2_ n3_ n4_ n5_; (try clear hb); (try clear hb2); (try clear hk); (try clear hi); (try clear ho0); obtain ⟨Ao70, co70, eo70⟩ := Kd.N_slice HO345.out; subst eo70; obtain ⟨Ao71, co71, eo71⟩ := Kd.N_slice HO342.out; subst eo71) | ((with_reducible refine gate_callee (f := 17) rfl ?_); refine goesL_ (some 112) rfl rfl Try.func17 (by kernel_rfl) rfl #[.slice Ao70 t343.length co70, .slice Ao71 y340.length co71] rfl (by (try simp only [List.map_toArray, List.map_cons, List.map_nil]); first | done | rfl | (simp only [List.length_drop, List.length_take]; rfl)) ?_; (with_reducible refine (peristyleref06_SameRows.calls k2 _ _ t343 _ _ y340 true _ ?side1 ?side2 ?side3 ?side4 A61.out).mono ?_); (case side1 => repeat (first | exact (Kd.N_reads' HO345.out).2.2 | (with_reducible refine Kd.C_alloc ?_ _) | (with_reducible refine Kd.C_drewN ?_ _) | (with_reducible refine Kd.C_drew ?_))); (case side2 => exact (Kd.N_reads' HO345.out).2.1); (case side3 => repeat (first | exact (Kd.N_reads' HO342.out).2.2 | (with_reducible refine Kd.C_alloc ?_ _) | (with_reducible refine Kd.C_drewN ?_ _) | (with_reducible refine Kd.C_drew ?_))); (case side4 => exact (Kd.N_reads' HO342.out).2.1); rintro e w' ⟨rfl, ⟨nd, rfl⟩⟩; refine ⟨_, rfl, ?_⟩))
                go_roundg k2
                case measure => have := HK1.out; have := HK2.out; omega
                case rel => exact ⟨(wrap64 (x15_2 + 1)), (by first | rfl | (simp; done) | (simp [*]; done)), H', ⟨by have := HK1.out; have := HK2.out; omega⟩, ⟨by (with_reducible repeat (first | apply Kd.N_alloc | apply Kd.N_drewN | apply Kd.N_drew)); exact Kd.N_mono HO_9.out (fun _ hk => trivial)⟩, ⟨by repeat (first | (with_reducible first | exact HB.out | apply below_alloc | apply pw_below_drewN | apply below_drew1) | exact HB.out)⟩⟩
               ·
                replace c62 := Bool.eq_false_iff.mpr c62
                subst c62
                have H1 : (none) = some r := by rw [if_neg (show ¬ (false = true) by decide)] at H; exact H
                clear H
                have H := H1
                clear H1
                exact absurd H (by simp)
              ·
               rw [if_neg c59] at H
               exact absurd H (by simp)
             ·
              rw [if_neg c57] at H
              exact absurd H (by simp)
            ·
             rw [if_neg c55] at H
             have c55b0 : decide (x15_2 < 16) = false := decide_eq_false c55
             clear c55
             replace H := Option.bind_eq_some_iff.mp H
             obtain ⟨t347, A720, H⟩ := H
             replace H : (some t347) = some r := H
             have A72 := Aside0.mk A720
             clear A720
             obtain rfl := Option.some.inj H
             go_wp2_with (first | ((with_reducible refine gate_callee (f := 10) rfl ?_); refine goesL_ (some 114) rfl rfl Try.func10 (by kernel_rfl) rfl #[] rfl (by (try simp only [List.map_toArray, List.map_cons, List.map_nil]); first | done | rfl | (simp only [List.length_drop, List.length_take]; rfl)) ?_; (with_reducible refine (peristylelaw27_awake.calls k2  t347 _ A72.out).mono ?_); rintro e w73 ⟨rfl, hb⟩; refine ⟨_, rfl, ?_⟩; have n0_ := Aside0.mk (Kd.N_below (by (with_reducible repeat (first | apply Kd.N_alloc | apply Kd.N_drewN | apply Kd.N_drew)); exact HO_9.out) hb); have n1_ := Aside0.mk (below_step (by repeat (first | (with_reducible first | exact HB.out | apply below_alloc | apply pw_below_drewN | apply below_drew1) | exact HB.out)) hb); clear HO_9; clear HB; have HO_9 := n0_; have HB := n1_; clear n0_ n1_; (try clear hb); (try clear hb2); (try clear hk); (try clear hi)))
             go_ret
             exact ⟨by first | rfl | (simp [errW_none, errW_some] <;> rfl) | (simp [*, errW_none, errW_some] <;> rfl), by repeat (first | (with_reducible first | exact HB.out | apply below_alloc | apply pw_below_drewN | apply below_drew1) | exact HB.out)⟩
         ·
          replace c45 := Bool.eq_false_iff.mpr c45
          subst c45
          have H1 : (none) = some r := by rw [if_neg (show ¬ (false = true) by decide)] at H; exact H
          clear H
          have H := H1
          clear H1
          exact absurd H (by simp)
        ·
         rw [if_neg c43] at H
         exact absurd H (by simp)
  ·
   replace c7 := Bool.eq_false_iff.mpr c7
   subst c7
   have H1 : ((peristylelaw27_awake.f k).bind fun t348 => (some t348)) = some r := by rw [if_neg (show ¬ (false = true) by decide)] at H; exact H
   clear H
   have H := H1
   clear H1
   replace H := Option.bind_eq_some_iff.mp H
   obtain ⟨t348, A740, H⟩ := H
   replace H : (some t348) = some r := H
   have A74 := Aside0.mk A740
   clear A740
   obtain rfl := Option.some.inj H
   go_enter Try.func3, Try.ntmps3
   go_wp2_with (first | ((with_reducible refine gate_callee (f := 9) rfl ?_); refine goesL_ (some 18) rfl rfl Try.func9 (by kernel_rfl) rfl #[.slice A0 l0.length c0, .int .i64 30] rfl (by (try simp only [List.map_toArray, List.map_cons, List.map_nil]); first | done | rfl | (simp only [List.length_drop, List.length_take]; rfl)) ?_; (with_reducible refine (peristyleref22_Light.calls k _ _ l0 30 true _ ?side1 ?side2 A4.out).mono ?_); (case side1 => repeat (first | exact HR0.out | (with_reducible refine Kd.C_alloc ?_ _) | (with_reducible refine Kd.C_drewN ?_ _) | (with_reducible refine Kd.C_drew ?_))); (case side2 => exact HC0.out); rintro e w' ⟨rfl, ⟨nd, rfl⟩⟩; refine ⟨_, rfl, ?_⟩) | (go_at_call 9; (with_reducible refine (peristyleref22_Light.calls k _ _ l1 30 false _ ?side1 ?side2 A6.out).mono ?_); (case side1 => repeat (first | exact HR1.out | (with_reducible refine Kd.C_alloc ?_ _) | (with_reducible refine Kd.C_drewN ?_ _) | (with_reducible refine Kd.C_drew ?_))); (case side2 => exact HC1.out); rintro e w' ⟨rfl, ⟨nd, rfl⟩⟩) | ((with_reducible refine gate_callee (f := 10) rfl ?_); refine goesL_ (some 33) rfl rfl Try.func10 (by kernel_rfl) rfl #[] rfl (by (try simp only [List.map_toArray, List.map_cons, List.map_nil]); first | done | rfl | (simp only [List.length_drop, List.length_take]; rfl)) ?_; (with_reducible refine (peristylelaw27_awake.calls k  t348 _ A74.out).mono ?_); rintro e w75 ⟨rfl, hb⟩; refine ⟨_, rfl, ?_⟩; have n0_ := Aside0.mk (below_step (by repeat (first | (with_reducible first | exact HB.out | apply below_alloc | apply pw_below_drewN | apply below_drew1) | exact HB.out)) hb); clear HB; have HB := n0_; clear n0_; (try clear hb); (try clear hb2); (try clear hk); (try clear hi)))
   go_ret
   exact ⟨by first | rfl | (simp [errW_none, errW_some] <;> rfl) | (simp [*, errW_none, errW_some] <;> rfl), by repeat (first | (with_reducible first | exact HB.out | apply below_alloc | apply pw_below_drewN | apply below_drew1) | exact HB.out)⟩
 ·
  replace c5 := Bool.eq_false_iff.mpr c5
  subst c5
  have H1 : ((peristylelaw27_awake.f k).bind fun t349 => (some t349)) = some r := by rw [if_neg (show ¬ (false = true) by decide)] at H; exact H
  clear H
  have H := H1
  clear H1
  replace H := Option.bind_eq_some_iff.mp H
  obtain ⟨t349, A760, H⟩ := H
  replace H : (some t349) = some r := H
  have A76 := Aside0.mk A760
  clear A760
  obtain rfl := Option.some.inj H
  go_enter Try.func3, Try.ntmps3
  go_wp2_with (first | ((with_reducible refine gate_callee (f := 9) rfl ?_); refine goesL_ (some 18) rfl rfl Try.func9 (by kernel_rfl) rfl #[.slice A0 l0.length c0, .int .i64 30] rfl (by (try simp only [List.map_toArray, List.map_cons, List.map_nil]); first | done | rfl | (simp only [List.length_drop, List.length_take]; rfl)) ?_; (with_reducible refine (peristyleref22_Light.calls k _ _ l0 30 false _ ?side1 ?side2 A4.out).mono ?_); (case side1 => repeat (first | exact HR0.out | (with_reducible refine Kd.C_alloc ?_ _) | (with_reducible refine Kd.C_drewN ?_ _) | (with_reducible refine Kd.C_drew ?_))); (case side2 => exact HC0.out); rintro e w' ⟨rfl, ⟨nd, rfl⟩⟩; refine ⟨_, rfl, ?_⟩) | ((with_reducible refine gate_callee (f := 10) rfl ?_); refine goesL_ (some 33) rfl rfl Try.func10 (by kernel_rfl) rfl #[] rfl (by (try simp only [List.map_toArray, List.map_cons, List.map_nil]); first | done | rfl | (simp only [List.length_drop, List.length_take]; rfl)) ?_; (with_reducible refine (peristylelaw27_awake.calls k  t349 _ A76.out).mono ?_); rintro e w77 ⟨rfl, hb⟩; refine ⟨_, rfl, ?_⟩; have n0_ := Aside0.mk (below_step (by repeat (first | (with_reducible first | exact HB.out | apply below_alloc | apply pw_below_drewN | apply below_drew1) | exact HB.out)) hb); clear HB; have HB := n0_; clear n0_; (try clear hb); (try clear hb2); (try clear hk); (try clear hi)))
  go_ret
  exact ⟨by first | rfl | (simp [errW_none, errW_some] <;> rfl) | (simp [*, errW_none, errW_some] <;> rfl), by repeat (first | (with_reducible first | exact HB.out | apply below_alloc | apply pw_below_drewN | apply below_drew1) | exact HB.out)⟩

/-- THE ONE PURE STATEMENT of peristylelaw27_MoverKeeps: yours. -/
def peristylelaw27_MoverKeeps.Pure : Prop := ∀ (l0 : List (S28)) (l1 : List (S28)) (a2 : Int), l0.length ≤ maxLen → (∀ x ∈ l0, (x.f0.length ≤ maxLen ∧ ∀ x_ ∈ x.f0, ((Lit.int .i64 x_.f0).wf = true) ∧ ((Lit.int .i64 x_.f1).wf = true) ∧ (x_.f2.size ≤ maxLen)) ∧ ((Lit.int .i64 x.f1).wf = true) ∧ ((Lit.int .i64 x.f2).wf = true)) → l1.length ≤ maxLen → (∀ x ∈ l1, (x.f0.length ≤ maxLen ∧ ∀ x_ ∈ x.f0, ((Lit.int .i64 x_.f0).wf = true) ∧ ((Lit.int .i64 x_.f1).wf = true) ∧ (x_.f2.size ≤ maxLen)) ∧ ((Lit.int .i64 x.f1).wf = true) ∧ ((Lit.int .i64 x.f2).wf = true)) → (Lit.int .i64 a2).wf = true → ∃ k, peristylelaw27_MoverKeeps.f k l0 l1 a2 = some true
theorem peristylelaw27_MoverKeeps.walk (P : peristylelaw27_MoverKeeps.Pure) (a0 : Option Addr) (cap0 : Nat) (l0 : List (S28)) (a1 : Option Addr) (cap1 : Nat) (l1 : List (S28)) (a2 : Int) (w : World) (r0 : Kd.C k28 w a0 l0.length l0) (q0 : l0.length ≤ cap0) (m0 : l0.length ≤ maxLen) (g0 : ∀ x ∈ l0, (x.f0.length ≤ maxLen ∧ ∀ x_ ∈ x.f0, ((Lit.int .i64 x_.f0).wf = true) ∧ ((Lit.int .i64 x_.f1).wf = true) ∧ (x_.f2.size ≤ maxLen)) ∧ ((Lit.int .i64 x.f1).wf = true) ∧ ((Lit.int .i64 x.f2).wf = true)) (r1 : Kd.C k28 w a1 l1.length l1) (q1 : l1.length ≤ cap1) (m1 : l1.length ≤ maxLen) (g1 : ∀ x ∈ l1, (x.f0.length ≤ maxLen ∧ ∀ x_ ∈ x.f0, ((Lit.int .i64 x_.f0).wf = true) ∧ ((Lit.int .i64 x_.f1).wf = true) ∧ (x_.f2.size ≤ maxLen)) ∧ ((Lit.int .i64 x.f1).wf = true) ∧ ((Lit.int .i64 x.f2).wf = true)) (w2 : (Lit.int .i64 a2).wf = true) :
  Calls Try.prog 3 #[.slice a0 l0.length cap0, .slice a1 l1.length cap1, .int .i64 a2] w fun e w' => e = .returned (.bool true) ∧ Below w.heap.size w w' := by
 obtain ⟨k, h⟩ := P l0 l1 a2 m0 g0 m1 g1 w2
 refine (peristylelaw27_MoverKeeps.calls k _ _ l0 _ _ l1 a2 true w r0 q0 r1 q1 h).mono ?_
 rintro e w' ⟨rfl, hd⟩
 exact ⟨rfl, hd⟩

end Go.Proofs.Ytgjclhhjigflkac.M
