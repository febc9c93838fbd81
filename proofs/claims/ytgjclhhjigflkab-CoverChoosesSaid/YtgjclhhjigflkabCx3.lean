-- written by mkprint.py, a program of this session, over the kit's printer
import Derived.Test.YtgjclhhjigflkabCx0
import Derived.Test.YtgjclhhjigflkabCx1
import Derived.Test.YtgjclhhjigflkabCx2
namespace Go.Proofs.Ytgjclhhjigflkab.C
open Go.RowKit Go.Proofs.YtgjclhhjigflkabW.PrintWords Go.Proofs.YtgjclhhjigflkabW.PrintLast Go.Proofs.YtgjclhhjigflkabW.PrintMore
attribute [local go_sem] max2_int min2_int max_two min_two max_three min_three max_four min_four   -- for this text's walks alone
set_option linter.unusedVariables false
set_option linter.unusedSimpArgs false

/-! ### peristyleref25_Create: function 114 -/
mutual
def peristyleref25_Create.j0 : Nat → List (S63) → ByteArray → List (S177) → Bool → Option ((List (S63)) × Int)
 | 0, _, _, _, _ => none
 | k + 1, x0, x1, x2, x23 => if x23 = true then (some (([] : List (S63)), 1)) else ((peristyleref25_Find.f k x0 x1).bind fun t154 => (if t154 ≥ 0 then (some (([] : List (S63)), 251)) else (if (x0.length : Int) ≥ 8 then (some (([] : List (S63)), 4)) else (peristyleref25_Create.l0 k x0 x1 x2 0 (⟨#[115, 117, 112, 101, 114]⟩ : ByteArray) ([] : List Int) 0))))
def peristyleref25_Create.l0 : Nat → List (S63) → ByteArray → List (S177) → Int → ByteArray → List Int → Int → Option ((List (S63)) × Int)
 | 0, _, _, _, _, _, _, _ => none
 | k + 1, x0, x1, x2, x9, x156000, x156001, x156002 => if x9 < (x2.length : Int) then (if x156001.length < 17592186044416 then (peristyleref25_Create.l0 k x0 x1 x2 (wrap64 (x9 + 1)) x156000 (x156001 ++ [x9]) x156002) else (none)) else (if ([] : List (S63)).length + x0.length < 2199023255552 then ((some (([] : List (S63)) ++ x0 : List (S63))).bind fun y159 => (if y159.length < 2199023255552 then (some ((y159 ++ [(⟨x1, x2, (([(⟨x156000, x156001, x156002⟩ : S138)] : List (S138)))⟩ : S63)]), 0)) else (none))) else (none))
end
def peristyleref25_Create.f (k : Nat) (l0 : List (S63)) (a1 : ByteArray) (l2 : List (S177)) : Option ((List (S63)) × Int) := (peristyleref25_May.f k l0).bind fun t151 => (if t151 = true then ((peristyleref25_Name.f k a1).bind fun t152 => (if t152 = true then ((peristyleref25_Columns.f k l2).bind fun t153 => (peristyleref25_Create.j0 k l0 a1 l2 (!t153))) else (peristyleref25_Create.j0 k l0 a1 l2 true))) else (peristyleref25_Create.j0 k l0 a1 l2 true))
theorem peristyleref25_Create.mono_l : ∀ k, (∀ y0 y1 y2 y3, LeO (peristyleref25_Create.j0 k y0 y1 y2 y3) (peristyleref25_Create.j0 (k + 1) y0 y1 y2 y3)) ∧ (∀ y0 y1 y2 y3 y4 y5 y6, LeO (peristyleref25_Create.l0 k y0 y1 y2 y3 y4 y5 y6) (peristyleref25_Create.l0 (k + 1) y0 y1 y2 y3 y4 y5 y6))
 | 0 => ⟨fun _ _ _ _ r h => by simp [peristyleref25_Create.j0] at h, fun _ _ _ _ _ _ _ r h => by simp [peristyleref25_Create.l0] at h⟩
 | k + 1 => by
  obtain ⟨ih0, ih1⟩ := peristyleref25_Create.mono_l k
  refine ⟨?_, ?_⟩
  ·
   intro y0 y1 y2 y3
   unfold peristyleref25_Create.j0
   repeat' first
   | (with_reducible exact ih0 _ _ _ _)
   | (with_reducible exact ih1 _ _ _ _ _ _ _)
   | (with_reducible exact peristyleref25_Columns.mono _ _)
   | (with_reducible exact peristyleref25_Find.mono _ _ _)
   | (with_reducible exact peristyleref25_May.mono _ _)
   | (with_reducible exact peristyleref25_Name.mono _ _)
   | (with_reducible exact LeO.refl _)
   | (with_reducible exact LeO.none _)
   | (with_reducible refine LeO.ite ?_ ?_)
   | (with_reducible refine LeO.bind ?_ (fun _ => ?_))
   | exact ih0 _ _ _ _
   | exact ih1 _ _ _ _ _ _ _
   | exact peristyleref25_Columns.mono _ _
   | exact peristyleref25_Find.mono _ _ _
   | exact peristyleref25_May.mono _ _
   | exact peristyleref25_Name.mono _ _
   | exact LeO.none _
   | refine LeO.ite ?_ ?_
   | refine LeO.bind ?_ (fun _ => ?_)
  ·
   intro y0 y1 y2 y3 y4 y5 y6
   unfold peristyleref25_Create.l0
   repeat' first
   | (with_reducible exact ih0 _ _ _ _)
   | (with_reducible exact ih1 _ _ _ _ _ _ _)
   | (with_reducible exact peristyleref25_Columns.mono _ _)
   | (with_reducible exact peristyleref25_Find.mono _ _ _)
   | (with_reducible exact peristyleref25_May.mono _ _)
   | (with_reducible exact peristyleref25_Name.mono _ _)
   | (with_reducible exact LeO.refl _)
   | (with_reducible exact LeO.none _)
   | (with_reducible refine LeO.ite ?_ ?_)
   | (with_reducible refine LeO.bind ?_ (fun _ => ?_))
   | exact ih0 _ _ _ _
   | exact ih1 _ _ _ _ _ _ _
   | exact peristyleref25_Columns.mono _ _
   | exact peristyleref25_Find.mono _ _ _
   | exact peristyleref25_May.mono _ _
   | exact peristyleref25_Name.mono _ _
   | exact LeO.none _
   | refine LeO.ite ?_ ?_
   | refine LeO.bind ?_ (fun _ => ?_)
theorem peristyleref25_Create.mono : ∀ a0 a1 a2 k, LeO (peristyleref25_Create.f k a0 a1 a2) (peristyleref25_Create.f (k + 1) a0 a1 a2) := by
 intro a0 a1 a2 k
 obtain ⟨ih0, ih1⟩ := peristyleref25_Create.mono_l k
 unfold peristyleref25_Create.f
 repeat' first
   | (with_reducible exact ih0 _ _ _ _)
   | (with_reducible exact ih1 _ _ _ _ _ _ _)
   | (with_reducible exact peristyleref25_Columns.mono _ _)
   | (with_reducible exact peristyleref25_Find.mono _ _ _)
   | (with_reducible exact peristyleref25_May.mono _ _)
   | (with_reducible exact peristyleref25_Name.mono _ _)
   | (with_reducible exact LeO.refl _)
   | (with_reducible exact LeO.none _)
   | (with_reducible refine LeO.ite ?_ ?_)
   | (with_reducible refine LeO.bind ?_ (fun _ => ?_))
   | exact ih0 _ _ _ _
   | exact ih1 _ _ _ _ _ _ _
   | exact peristyleref25_Columns.mono _ _
   | exact peristyleref25_Find.mono _ _ _
   | exact peristyleref25_May.mono _ _
   | exact peristyleref25_Name.mono _ _
   | exact LeO.none _
   | refine LeO.ite ?_ ?_
   | refine LeO.bind ?_ (fun _ => ?_)
set_option maxHeartbeats 8000000 in
set_option maxRecDepth 100000 in
theorem peristyleref25_Create.calls (k : Nat) (P0_ : Nat → Prop) (A0 : Option Addr) (c0 : Nat) (l0 : List (S63)) (a1 : ByteArray) (P2_ : Nat → Prop) (A2 : Option Addr) (c2 : Nat) (l2 : List (S177)) (r1 : List (S63)) (r2 : Int) (w : World) (hs0 : Kd.V k63 63 w w.heap.size (fun k_ => P0_ k_) (.slice A0 l0.length c0) l0) (hs2 : Kd.V k177 177 w w.heap.size (fun k_ => P2_ k_) (.slice A2 l2.length c2) l2) (h : peristyleref25_Create.f k l0 a1 l2 = some (r1, r2)) :
  Calls Try.prog 114 #[.slice A0 l0.length c0, .string a1, .slice A2 l2.length c2] w fun e w' => ∃ v0_ : Value, e = .returned (.tuple #[v0_, .int .i64 r2]) ∧ Kd.N k63 63 w' w.heap.size (fun k_ => ((P0_ k_ ∨ P2_ k_) ∨ w.heap.size ≤ k_)) v0_ r1 ∧ Below w.heap.size w w' := by
 have hu138 := Try.underlying138
 have hu63 := Try.underlying63
 have HO0 := Aside0.mk (show Kd.V k63 63 w w.heap.size (fun k_ => ((P0_ k_ ∨ P2_ k_) ∨ w.heap.size ≤ k_)) (.slice A0 l0.length c0) l0 from Kd.V_mono hs0 (fun k_ hk => .inl (.inl hk)))
 have HO2 := Aside0.mk (show Kd.V k177 177 w w.heap.size (fun k_ => ((P0_ k_ ∨ P2_ k_) ∨ w.heap.size ≤ k_)) (.slice A2 l2.length c2) l2 from Kd.V_mono hs2 (fun k_ hk => .inl (.inr hk)))
 have HB := Aside0.mk (Below.refl w.heap.size w)
 have H : ((peristyleref25_May.f k l0).bind fun t151 => (if t151 = true then ((peristyleref25_Name.f k a1).bind fun t152 => (if t152 = true then ((peristyleref25_Columns.f k l2).bind fun t153 => (peristyleref25_Create.j0 k l0 a1 l2 (!t153))) else (peristyleref25_Create.j0 k l0 a1 l2 true))) else (peristyleref25_Create.j0 k l0 a1 l2 true))) = some (r1, r2) := h
 clear h
 have HC4 := Aside0.mk H
 clear H
 go_enter Try.func114, Try.ntmps114
 go_upto_region 1 with fail
 go_cut [23] (fun v23 wc => ∃ (kq : Nat) (x23_3 : Bool), v23 = .bool x23_3 ∧ Aside0 (peristyleref25_Create.j0 kq l0 a1 l2 x23_3 = some (r1, r2)) ∧ Aside0 (kq ≤ k) ∧ Aside0 (Kd.V k63 63 wc w.heap.size (fun k_ => ((P0_ k_ ∨ P2_ k_) ∨ w.heap.size ≤ k_)) (.slice A0 l0.length c0) l0) ∧ Aside0 (Kd.V k177 177 wc w.heap.size (fun k_ => ((P0_ k_ ∨ P2_ k_) ∨ w.heap.size ≤ k_)) (.slice A2 l2.length c2) l2) ∧ Aside0 (Below w.heap.size w wc))
 case first =>
  have H := HC4.out
  clear HC4
  replace H := Option.bind_eq_some_iff.mp H
  obtain ⟨t151, A50, H⟩ := H
  try dsimp only at H
  have A5 := Aside0.mk A50
  clear A50
  by_cases c6 : t151 = true
  ·
   subst c6
   have H1 : ((peristyleref25_Name.f k a1).bind fun t152 => (if t152 = true then ((peristyleref25_Columns.f k l2).bind fun t153 => (peristyleref25_Create.j0 k l0 a1 l2 (!t153))) else (peristyleref25_Create.j0 k l0 a1 l2 true))) = some (r1, r2) := by rw [if_pos rfl] at H; exact H
   clear H
   have H := H1
   clear H1
   replace H := Option.bind_eq_some_iff.mp H
   obtain ⟨t152, A70, H⟩ := H
   try dsimp only at H
   have A7 := Aside0.mk A70
   clear A70
   by_cases c8 : t152 = true
   ·
    subst c8
    have H1 : ((peristyleref25_Columns.f k l2).bind fun t153 => (peristyleref25_Create.j0 k l0 a1 l2 (!t153))) = some (r1, r2) := by rw [if_pos rfl] at H; exact H
    clear H
    have H := H1
    clear H1
    replace H := Option.bind_eq_some_iff.mp H
    obtain ⟨t153, A90, H⟩ := H
    try dsimp only at H
    have A9 := Aside0.mk A90
    clear A90
    have H' := Aside0.mk H
    clear H
    go_wp2_with (first | ((with_reducible refine gate_callee (f := 35) rfl ?_); refine goesL_ (some 12) rfl rfl Try.func35 (by kernel_rfl) rfl #[.slice A0 l0.length c0] rfl (by (try simp only [List.map_toArray, List.map_cons, List.map_nil]); rfl) ?_; (with_reducible refine (peristyleref25_May.calls k _ _ l0 true _ ?side1 ?side2 A5.out).mono ?_); (case side1 => repeat (exact (Kd.V_reads' HO0.out).2.2)); (case side2 => exact (Kd.V_reads' HO0.out).2.1); rintro e w10 ⟨rfl, hb⟩; refine ⟨_, rfl, ?_⟩; have n0_ := Aside0.mk (Kd.V_below HO0.out hb); have n1_ := Aside0.mk (Kd.V_below HO2.out hb); have n2_ := Aside0.mk (below_step HB.out hb); clear HO0 HO2 HB; have HO0 := n0_; have HO2 := n1_; have HB := n2_; clear n0_ n1_ n2_; (try clear hb)) | (go_at_call 129; (with_reducible refine (peristyleref25_Name.calls k a1 true _ A7.out).mono ?_); rintro e w' ⟨rfl, ⟨nd, rfl⟩⟩) | (go_at_call 130; (with_reducible refine (peristyleref25_Columns.calls k _ _ l2 t153 _ ?side1 ?side2 A9.out).mono ?_); (case side1 => repeat (exact (Kd.V_reads' HO2.out).2.2)); (case side2 => exact (Kd.V_reads' HO2.out).2.1); rintro e w' ⟨rfl, ⟨nd, rfl⟩⟩))
    go_meet
    case rel => exact ⟨_, (!t153), (by rfl), H', ⟨by omega⟩, ⟨by (with_reducible repeat apply Kd.V_drewN); exact HO0.out⟩, ⟨by (with_reducible repeat apply Kd.V_drewN); exact HO2.out⟩, ⟨by repeat ((with_reducible first | exact HB.out | apply pw_below_drewN))⟩⟩
   ·
    replace c8 := Bool.eq_false_iff.mpr c8
    subst c8
    have H1 : (peristyleref25_Create.j0 k l0 a1 l2 true) = some (r1, r2) := by rw [if_neg (show ¬ (false = true) by decide)] at H; exact H
    clear H
    have H := H1
    clear H1
    have H' := Aside0.mk H
    clear H
    go_wp2_with (first | ((with_reducible refine gate_callee (f := 35) rfl ?_); refine goesL_ (some 12) rfl rfl Try.func35 (by kernel_rfl) rfl #[.slice A0 l0.length c0] rfl (by (try simp only [List.map_toArray, List.map_cons, List.map_nil]); rfl) ?_; (with_reducible refine (peristyleref25_May.calls k _ _ l0 true _ ?side1 ?side2 A5.out).mono ?_); (case side1 => repeat (exact (Kd.V_reads' HO0.out).2.2)); (case side2 => exact (Kd.V_reads' HO0.out).2.1); rintro e w11 ⟨rfl, hb⟩; refine ⟨_, rfl, ?_⟩; have n0_ := Aside0.mk (Kd.V_below HO0.out hb); have n1_ := Aside0.mk (Kd.V_below HO2.out hb); have n2_ := Aside0.mk (below_step HB.out hb); clear HO0 HO2 HB; have HO0 := n0_; have HO2 := n1_; have HB := n2_; clear n0_ n1_ n2_; (try clear hb)) | (go_at_call 129; (with_reducible refine (peristyleref25_Name.calls k a1 false _ A7.out).mono ?_); rintro e w' ⟨rfl, ⟨nd, rfl⟩⟩))
    go_meet
    case rel => exact ⟨_, (true), (by rfl), H', ⟨by omega⟩, ⟨by (with_reducible repeat apply Kd.V_drewN); exact HO0.out⟩, ⟨by (with_reducible repeat apply Kd.V_drewN); exact HO2.out⟩, ⟨by repeat ((with_reducible first | exact HB.out | apply pw_below_drewN))⟩⟩
  ·
   replace c6 := Bool.eq_false_iff.mpr c6
   subst c6
   have H1 : (peristyleref25_Create.j0 k l0 a1 l2 true) = some (r1, r2) := by rw [if_neg (show ¬ (false = true) by decide)] at H; exact H
   clear H
   have H := H1
   clear H1
   have H' := Aside0.mk H
   clear H
   go_wp2_with (((with_reducible refine gate_callee (f := 35) rfl ?_); refine goesL_ (some 12) rfl rfl Try.func35 (by kernel_rfl) rfl #[.slice A0 l0.length c0] rfl (by (try simp only [List.map_toArray, List.map_cons, List.map_nil]); rfl) ?_; (with_reducible refine (peristyleref25_May.calls k _ _ l0 false _ ?side1 ?side2 A5.out).mono ?_); (case side1 => repeat (exact (Kd.V_reads' HO0.out).2.2)); (case side2 => exact (Kd.V_reads' HO0.out).2.1); rintro e w12 ⟨rfl, hb⟩; refine ⟨_, rfl, ?_⟩; have n0_ := Aside0.mk (Kd.V_below HO0.out hb); have n1_ := Aside0.mk (Kd.V_below HO2.out hb); have n2_ := Aside0.mk (below_step HB.out hb); clear HO0 HO2 HB; have HO0 := n0_; have HO2 := n1_; have HB := n2_; clear n0_ n1_ n2_; (try clear hb)))
   go_meet
   case rel => exact ⟨_, (true), (by rfl), H', ⟨by omega⟩, ⟨HO0.out⟩, ⟨HO2.out⟩, ⟨HB.out⟩⟩
 case rest =>
  clear HC4
  obtain ⟨kq, x23_3, rfl, HA, HJ3, HO_0, HO_2, HB⟩ := hcut
  cases kq with
  | zero => exact absurd HA.out (by simp [peristyleref25_Create.j0])
  | succ kj3 =>
   have H := HA.out
   clear HA
   simp only [peristyleref25_Create.j0] at H
   by_cases c13 : x23_3 = true
   ·
    subst c13
    have H1 : (some (([] : List (S63)), 1)) = some (r1, r2) := by rw [if_pos rfl] at H; exact H
    clear H
    have H := H1
    clear H1
    simp only [Option.some.injEq, Prod.mk.injEq] at H
    obtain ⟨rfl, rfl⟩ := H
    go_wp2
    go_ret2
    exact ⟨_, by rfl, by exact Kd.N_nil _ _ _ _ _, by repeat exact HB.out⟩
   ·
    replace c13 := Bool.eq_false_iff.mpr c13
    subst c13
    have H1 : ((peristyleref25_Find.f kj3 l0 a1).bind fun t154 => (if t154 ≥ 0 then (some (([] : List (S63)), 251)) else (if (l0.length : Int) ≥ 8 then (some (([] : List (S63)), 4)) else (peristyleref25_Create.l0 kj3 l0 a1 l2 0 (⟨#[115, 117, 112, 101, 114]⟩ : ByteArray) ([] : List Int) 0)))) = some (r1, r2) := by rw [if_neg (show ¬ (false = true) by decide)] at H; exact H
    clear H
    have H := H1
    clear H1
    replace H := Option.bind_eq_some_iff.mp H
    obtain ⟨t154, A140, H⟩ := H
    try dsimp only at H
    have A14 := Aside0.mk A140
    clear A140
    by_cases c15 : t154 ≥ 0
    ·
     rw [if_pos c15] at H
     have c15b0 : decide (0 ≤ t154) = true := decide_eq_true c15
     clear c15
     simp only [Option.some.injEq, Prod.mk.injEq] at H
     obtain ⟨rfl, rfl⟩ := H
     go_wp2_with (((with_reducible refine gate_callee (f := 146) rfl ?_); refine goesL_ (some 26) rfl rfl Try.func146 (by kernel_rfl) rfl #[.slice A0 l0.length c0, .string a1] rfl (by (try simp only [List.map_toArray, List.map_cons, List.map_nil]); rfl) ?_; (with_reducible refine (peristyleref25_Find.calls kj3 _ _ l0 a1 t154 _ ?side1 ?side2 A14.out).mono ?_); (case side1 => repeat (exact (Kd.V_reads' HO_0.out).2.2)); (case side2 => exact (Kd.V_reads' HO_0.out).2.1); rintro e w' ⟨rfl, ⟨nd, rfl⟩⟩; refine ⟨_, rfl, ?_⟩))
     go_ret2
     exact ⟨_, by rfl, by exact Kd.N_nil _ _ _ _ _, by repeat ((with_reducible first | exact HB.out | apply pw_below_drewN))⟩
    ·
     rw [if_neg c15] at H
     have c15b0 : decide (0 ≤ t154) = false := decide_eq_false c15
     clear c15
     by_cases c16 : (l0.length : Int) ≥ 8
     ·
      rw [if_pos c16] at H
      have c16b0 : decide (8 ≤ (l0.length : Int)) = true := decide_eq_true c16
      have c16b1 : decide (8 ≤ l0.length) = true := decide_eq_true (by omega)
      clear c16
      simp only [Option.some.injEq, Prod.mk.injEq] at H
      obtain ⟨rfl, rfl⟩ := H
      go_wp2_with (((with_reducible refine gate_callee (f := 146) rfl ?_); refine goesL_ (some 26) rfl rfl Try.func146 (by kernel_rfl) rfl #[.slice A0 l0.length c0, .string a1] rfl (by (try simp only [List.map_toArray, List.map_cons, List.map_nil]); rfl) ?_; (with_reducible refine (peristyleref25_Find.calls kj3 _ _ l0 a1 t154 _ ?side1 ?side2 A14.out).mono ?_); (case side1 => repeat (exact (Kd.V_reads' HO_0.out).2.2)); (case side2 => exact (Kd.V_reads' HO_0.out).2.1); rintro e w' ⟨rfl, ⟨nd, rfl⟩⟩; refine ⟨_, rfl, ?_⟩))
      go_ret2
      exact ⟨_, by rfl, by exact Kd.N_nil _ _ _ _ _, by repeat ((with_reducible first | exact HB.out | apply pw_below_drewN))⟩
     ·
      rw [if_neg c16] at H
      have c16b0 : decide (8 ≤ (l0.length : Int)) = false := decide_eq_false c16
      have c16b1 : decide (8 ≤ l0.length) = false := decide_eq_false (by omega)
      clear c16
      have H' := Aside0.mk H
      clear H
      go_wp2_with (first | ((with_reducible refine gate_callee (f := 146) rfl ?_); refine goesL_ (some 26) rfl rfl Try.func146 (by kernel_rfl) rfl #[.slice A0 l0.length c0, .string a1] rfl (by (try simp only [List.map_toArray, List.map_cons, List.map_nil]); rfl) ?_; (with_reducible refine (peristyleref25_Find.calls kj3 _ _ l0 a1 t154 _ ?side1 ?side2 A14.out).mono ?_); (case side1 => repeat (exact (Kd.V_reads' HO_0.out).2.2)); (case side2 => exact (Kd.V_reads' HO_0.out).2.1); rintro e w' ⟨rfl, ⟨nd, rfl⟩⟩; refine ⟨_, rfl, ?_⟩; (try (rw [drewN_self wc]; generalize hq_ : World.drewN wc _ = wc; have n0_ : Aside0 (Kd.V k63 63 wc w.heap.size (fun k_ => ((P0_ k_ ∨ P2_ k_) ∨ w.heap.size ≤ k_)) (.slice A0 l0.length c0) l0) := ⟨by rw [← hq_]; exact (by (with_reducible repeat apply Kd.V_drewN); exact HO_0.out)⟩; have n1_ : Aside0 (Kd.V k177 177 wc w.heap.size (fun k_ => ((P0_ k_ ∨ P2_ k_) ∨ w.heap.size ≤ k_)) (.slice A2 l2.length c2) l2) := ⟨by rw [← hq_]; exact (by (with_reducible repeat apply Kd.V_drewN); exact HO_2.out)⟩; have n2_ : Aside0 (Below w.heap.size w wc) := ⟨by rw [← hq_]; exact (by repeat ((with_reducible first | exact HB.out | apply pw_below_drewN)))⟩; clear HO_0 HO_2 HB hq_; have HO_0 := n0_; have HO_2 := n1_; have HB := n2_; clear n0_ n1_ n2_))) | ((with_reducible refine gate_dst (N := 8) rfl ?_); refine box_event ?hg (N := 8) ?hd (cs := #[.string (⟨#[]⟩ : ByteArray), .slice none 0 0, .int .i64 0]) (t := 138) ?hr ?_; (case hd => rfl); (case hg => rfl); (case hr => (go_simp; done)); intro gb155 hg w17 hbox hb; have n0_ := Aside0.mk (Kd.V_below (Kd.V_elderB HO_0.out gb155 (Nat.le_of_eq hg.symm)) hb); have n1_ := Aside0.mk (Kd.V_below (Kd.V_elderB HO_2.out gb155 (Nat.le_of_eq hg.symm)) hb); have n2_ := Aside0.mk (below_step HB.out hb); have n3_ := Aside0.mk (hbox); have n4_ := Aside0.mk ((by rw [hg]; exact (below_size HB.out) : w.heap.size ≤ gb155)); have n5_ := Aside0.mk ((by rw [hg]; exact (below_size HB.out) : w.heap.size ≤ gb155)); clear HO_0 HO_2 HB; have HO_0 := n0_; have HO_2 := n1_; have HB := n2_; have BK155 := n3_; have GW155 := n4_; have GE155 := n5_; clear n0_ n1_ n2_ n3_ n4_ n5_ hb hbox hg; have hcz18_0 : w17.cell? ⟨gb155, 0, none⟩ = some (.string (⟨#[]⟩ : ByteArray)) := (blk_cell BK155.out 0).trans rfl; have hcz18_1 : w17.cell? ⟨gb155, 1, none⟩ = some (.slice none 0 0) := (blk_cell BK155.out 1).trans rfl; have hcz18_2 : w17.cell? ⟨gb155, 2, none⟩ = some (.int .i64 0) := (blk_cell BK155.out 2).trans rfl; have hfz18_0 := blk_frozen BK155.out 0; have hfz18_1 := blk_frozen BK155.out 1; have hfz18_2 := blk_frozen BK155.out 2))
      go_loopg [9] kj3 (fun kq v9 w' => ∃ (x9_2 : Int) (x156001_2 : List Int) (u156001 : Value), v9 = .int .i64 x9_2 ∧ Aside0 (peristyleref25_Create.l0 kq l0 a1 l2 x9_2 (⟨#[115, 117, 112, 101, 114]⟩ : ByteArray) x156001_2 0 = some (r1, r2)) ∧ Aside0 (kq ≤ kj3) ∧ Aside0 (Kd.V k63 63 w' w.heap.size (fun k_ => ((P0_ k_ ∨ P2_ k_) ∨ w.heap.size ≤ k_) ∧ some k_ ≠ (u156001 : Value).ownBlock ∧ k_ ≠ gb155) (.slice A0 l0.length c0) l0) ∧ Aside0 (Kd.V k177 177 w' w.heap.size (fun k_ => ((P0_ k_ ∨ P2_ k_) ∨ w.heap.size ≤ k_) ∧ some k_ ≠ (u156001 : Value).ownBlock ∧ k_ ≠ gb155) (.slice A2 l2.length c2) l2) ∧ Aside0 (Kd.R (Kd.int .i64) 3 w' w.heap.size (fun k_ => (w.heap.size ≤ k_)) u156001 x156001_2) ∧ Aside0 (w'.heap[gb155]? = some (.cells #[.string (⟨#[115, 117, 112, 101, 114]⟩ : ByteArray), u156001, .int .i64 0] 138 (0, 0))) ∧ Aside0 (Below w.heap.size w w'))
      case atStart => exact ⟨(0), (([] : List Int)), (.slice none 0 0), (by rfl), H', ⟨Nat.le_refl _⟩, ⟨by exact Kd.V_mono (Kd.V_far (p := ⟨gb155, 2, none⟩) (Kd.V_far (p := ⟨gb155, 1, none⟩) (Kd.V_far (p := ⟨gb155, 0, none⟩) (Kd.V_mono HO_0.out (fun k_ hk => (⟨hk, hk.2⟩ : _ ∧ k_ ≠ gb155))) (fun _ hk => hk.2) (.string (⟨#[115, 117, 112, 101, 114]⟩ : ByteArray))) (fun _ hk => hk.2) (.slice none 0 0)) (fun _ hk => hk.2) (.int .i64 0)) (fun _ hk => ⟨hk.1.1, ⟨(by simp [Value.ownBlock]), hk.1.2⟩⟩)⟩, ⟨by exact Kd.V_mono (Kd.V_far (p := ⟨gb155, 2, none⟩) (Kd.V_far (p := ⟨gb155, 1, none⟩) (Kd.V_far (p := ⟨gb155, 0, none⟩) (Kd.V_mono HO_2.out (fun k_ hk => (⟨hk, hk.2⟩ : _ ∧ k_ ≠ gb155))) (fun _ hk => hk.2) (.string (⟨#[115, 117, 112, 101, 114]⟩ : ByteArray))) (fun _ hk => hk.2) (.slice none 0 0)) (fun _ hk => hk.2) (.int .i64 0)) (fun _ hk => ⟨hk.1.1, ⟨(by simp [Value.ownBlock]), hk.1.2⟩⟩)⟩, ⟨by exact Kd.R_nil _ _ _ _ _⟩, ⟨by refine blk_put (cs := #[.string (⟨#[115, 117, 112, 101, 114]⟩ : ByteArray), .slice none 0 0, .int .i64 0]) ?_ 2 _ rfl; refine blk_put (cs := #[.string (⟨#[115, 117, 112, 101, 114]⟩ : ByteArray), .slice none 0 0, .int .i64 0]) ?_ 1 _ rfl; refine blk_put (cs := #[.string (⟨#[]⟩ : ByteArray), .slice none 0 0, .int .i64 0]) ?_ 0 _ rfl; exact BK155.out⟩, ⟨by repeat ((with_reducible first | exact HB.out | refine below_set ?_ GE155.out))⟩⟩
      case round =>
       clear H'
       try clear c15b0
       try clear c16b0
       try clear c16b1
       try clear hcz18_0
       try clear hcz18_1
       try clear hcz18_2
       try clear hfz18_0
       try clear hfz18_1
       try clear hfz18_2
       obtain ⟨x9_2, x156001_2, u156001, rfl, HA, HK2, HO_0, HO_2, HO_156001, BK155, HB⟩ := hrel
       cases gk with
       | zero => exact absurd HA.out (by simp [peristyleref25_Create.l0])
       | succ k2 =>
        have H := HA.out
        clear HA
        simp only [peristyleref25_Create.l0] at H
        by_cases c19 : x9_2 < (l2.length : Int)
        ·
         rw [if_pos c19] at H
         have c19b0 : decide (x9_2 < (l2.length : Int)) = true := decide_eq_true c19
         clear c19
         by_cases c20 : x156001_2.length < 17592186044416
         ·
          rw [if_pos c20] at H
          have LMc20 := Aside0.mk c20
          clear c20
          obtain ⟨y156, hy156⟩ : ∃ y_ : List Int, y_ = (x156001_2 ++ [x9_2]) := ⟨_, rfl⟩
          replace H : (peristyleref25_Create.l0 k2 l0 a1 l2 (wrap64 (x9_2 + 1)) (⟨#[115, 117, 112, 101, 114]⟩ : ByteArray) y156 0) = some (r1, r2) := by (rw [hy156]; with_reducible exact H)
          have Ny156 := Aside0.mk hy156
          clear hy156
          have H' := Aside0.mk H
          clear H
          have hcz21_0 : wr.cell? ⟨gb155, 0, none⟩ = some (.string (⟨#[115, 117, 112, 101, 114]⟩ : ByteArray)) := (blk_cell BK155.out 0).trans rfl
          have hcz21_1 : wr.cell? ⟨gb155, 1, none⟩ = some (u156001) := (blk_cell BK155.out 1).trans rfl
          have hcz21_2 : wr.cell? ⟨gb155, 2, none⟩ = some (.int .i64 0) := (blk_cell BK155.out 2).trans rfl
          have hfz21_0 := blk_frozen BK155.out 0
          have hfz21_1 := blk_frozen BK155.out 1
          have hfz21_2 := blk_frozen BK155.out 2
          go_wp2_with (((with_reducible refine gate_builtin (b := .append) (xs := #[.tmp 39, .tmp 41]) rfl ?_); at_builtin; refine Kd.R_append (Kd.int .i64) (w0 := w) w.heap.size rfl (.tmp 39) (.tmp 41) 33 3 (.int .i64 0) 8 rfl Try.underlying33 info3 rfl (by decide) (by omega) u156001 x156001_2 x9_2 [.int .i64 x9_2] (fun k_ => (w.heap.size ≤ k_)) (fun _ => False) rfl rfl ?aP (fun _ hk => hk.elim) ?aF ?aO ?aB ?aS ?aL ?_; (case aP => exact rfl); (case aB => exact HB.out); (case aF => exact (fun k_ hk => (Nat.le_trans (below_size HB.out) hk))); (case aO => exact HO_156001.out); (case aS => exact (below_size HB.out)); (case aL => have := LMc20.out; omega); intro v157 w22 ho hb hg hat; rw [← Ny156.out] at ho; have n0_ := Aside0.mk (Kd.V_afterv (ok := (fun k_ => ((P0_ k_ ∨ P2_ k_) ∨ w.heap.size ≤ k_) ∧ k_ ≠ gb155)) (by exact Kd.V_mono HO_0.out (fun _ hk => ⟨⟨hk.1, hk.2.2⟩, hk.2.1⟩)) hg hat); have n1_ := Aside0.mk (Kd.V_afterv (ok := (fun k_ => ((P0_ k_ ∨ P2_ k_) ∨ w.heap.size ≤ k_) ∧ k_ ≠ gb155)) (by exact Kd.V_mono HO_2.out (fun _ hk => ⟨⟨hk.1, hk.2.2⟩, hk.2.1⟩)) hg hat); have n2_ := Aside0.mk (blk_grown (g := gb155) (o := .cells #[.string (⟨#[115, 117, 112, 101, 114]⟩ : ByteArray), u156001, .int .i64 0] 138 (0, 0)) BK155.out hg (Kd.R_ne HO_156001.out BK155.out (by decide))); have n3_ := Aside0.mk (hb); have n4_ := Aside0.mk (ho); clear HO_0 HO_2 BK155 HB HO_156001; have HO_0 := n0_; have HO_2 := n1_; have BK155 := n2_; have HB := n3_; have HO158 := n4_; clear n0_ n1_ n2_ n3_ n4_ ho hb hg hat; obtain ⟨Ao23, co23, eo23⟩ := Kd.R_slice HO158.out; subst eo23; have hcz24_0 : w22.cell? ⟨gb155, 0, none⟩ = some (.string (⟨#[115, 117, 112, 101, 114]⟩ : ByteArray)) := (blk_cell BK155.out 0).trans rfl; have hcz24_1 : w22.cell? ⟨gb155, 1, none⟩ = some (u156001) := (blk_cell BK155.out 1).trans rfl; have hcz24_2 : w22.cell? ⟨gb155, 2, none⟩ = some (.int .i64 0) := (blk_cell BK155.out 2).trans rfl; have hfz24_0 := blk_frozen BK155.out 0; have hfz24_1 := blk_frozen BK155.out 1; have hfz24_2 := blk_frozen BK155.out 2))
          go_roundg k2
          case measure => have := HJ3.out; have := HK2.out; omega
          case rel => exact ⟨(wrap64 (x9_2 + 1)), (y156), (.slice Ao23 y156.length co23), (by rfl), H', ⟨by have := HJ3.out; have := HK2.out; omega⟩, ⟨by exact Kd.V_mono (Kd.V_far (p := ⟨gb155, 1, none⟩) (Kd.V_mono HO_0.out (fun k_ hk => (⟨hk, hk.1.2⟩ : _ ∧ k_ ≠ gb155))) (fun _ hk => hk.2) (.slice Ao23 y156.length co23)) (fun _ hk => ⟨hk.1.1.1, ⟨hk.1.2, hk.1.1.2⟩⟩)⟩, ⟨by exact Kd.V_mono (Kd.V_far (p := ⟨gb155, 1, none⟩) (Kd.V_mono HO_2.out (fun k_ hk => (⟨hk, hk.1.2⟩ : _ ∧ k_ ≠ gb155))) (fun _ hk => hk.2) (.slice Ao23 y156.length co23)) (fun _ hk => ⟨hk.1.1.1, ⟨hk.1.2, hk.1.1.2⟩⟩)⟩, ⟨by exact Kd.R_mono (Kd.R_far (p := ⟨gb155, 1, none⟩) (Kd.R_types HO158.out BK155.out (by decide)) (fun _ hk => hk.2) (.slice Ao23 y156.length co23)) (fun _ hk => hk.1)⟩, ⟨by refine blk_put (cs := #[.string (⟨#[115, 117, 112, 101, 114]⟩ : ByteArray), u156001, .int .i64 0]) ?_ 1 _ rfl; exact BK155.out⟩, ⟨by repeat ((with_reducible first | exact HB.out | refine below_set ?_ GE155.out))⟩⟩
         ·
          rw [if_neg c20] at H
          exact absurd H (by simp)
        ·
         rw [if_neg c19] at H
         have c19b0 : decide (x9_2 < (l2.length : Int)) = false := decide_eq_false c19
         clear c19
         by_cases c25 : ([] : List (S63)).length + l0.length < 2199023255552
         ·
          rw [if_pos c25] at H
          have LMc25 := Aside0.mk c25
          clear c25
          obtain ⟨y159, hy159⟩ : ∃ y_ : List (S63), y_ = (([] : List (S63)) ++ l0) := ⟨_, rfl⟩
          replace H : (if y159.length < 2199023255552 then (some ((y159 ++ [(⟨a1, l2, (([(⟨(⟨#[115, 117, 112, 101, 114]⟩ : ByteArray), x156001_2, 0⟩ : S138)] : List (S138)))⟩ : S63)]), 0)) else (none)) = some (r1, r2) := by (have H2_ := (Option.bind_some _ _).symm.trans H; rw [hy159]; with_reducible exact H2_)
          have Ny159 := Aside0.mk hy159
          clear hy159
          obtain ⟨y162, hy162⟩ : ∃ y_ : List (S138), y_ = (([(⟨(⟨#[115, 117, 112, 101, 114]⟩ : ByteArray), x156001_2, 0⟩ : S138)] : List (S138))) := ⟨_, rfl⟩
          replace H : (if y159.length < 2199023255552 then (some ((y159 ++ [(⟨a1, l2, y162⟩ : S63)]), 0)) else (none)) = some (r1, r2) := by (rw [hy162]; with_reducible exact H)
          have Ny162 := Aside0.mk hy162
          clear hy162
          by_cases c26 : y159.length < 2199023255552
          ·
           rw [if_pos c26] at H
           have LMc26 := Aside0.mk c26
           clear c26
           obtain ⟨y165, hy165⟩ : ∃ y_ : List (S63), y_ = (y159 ++ [(⟨a1, l2, y162⟩ : S63)]) := ⟨_, rfl⟩
           replace H : (some (y165, 0)) = some (r1, r2) := by (rw [hy165]; with_reducible exact H)
           have Ny165 := Aside0.mk hy165
           clear hy165
           simp only [Option.some.injEq, Prod.mk.injEq] at H
           obtain ⟨rfl, rfl⟩ := H
           go_wp2_with (first | ((with_reducible refine gate_builtin (b := .append) (xs := #[.tmp 44, .tmp 45]) rfl ?_); at_builtin; refine Kd.N_append_rows k63 (w0 := w) w.heap.size rfl (.tmp 44) (.tmp 45) 74 63 (.agg #[(.string ⟨#[]⟩), (.slice none 0 0), (.slice none 0 0)]) 64 rfl Try.underlying74 info63 rfl (by decide) (by omega) (.slice none 0 0) ([] : List (S63)) l0 _ _ _ (fun k_ => ((P0_ k_ ∨ P2_ k_) ∨ w.heap.size ≤ k_) ∧ some k_ ≠ (u156001 : Value).ownBlock ∧ k_ ≠ gb155) (fun k_ => ((fun k_ => ((P0_ k_ ∨ P2_ k_) ∨ w.heap.size ≤ k_) ∧ some k_ ≠ (u156001 : Value).ownBlock ∧ k_ ≠ gb155)) k_ ∧ some k_ ≠ (.slice none 0 0 : Value).ownBlock) rfl rfl ?aO ?aR (fun _ hk => hk) ?aF ?aB ?aS ?aL ?_; (case aR => exact (by exact Kd.V_F (Kd.V_mono (ok' := (fun k_ => ((fun k_ => ((P0_ k_ ∨ P2_ k_) ∨ w.heap.size ≤ k_) ∧ some k_ ≠ (u156001 : Value).ownBlock ∧ k_ ≠ gb155)) k_ ∧ some k_ ≠ (.slice none 0 0 : Value).ownBlock)) (HO_0.out) (fun k_ hk => ⟨⟨hk.1, ⟨hk.2.1, hk.2.2⟩⟩, (by simp [Value.ownBlock])⟩)))); (case aB => exact HB.out); (case aF => exact (fun k_ hk => ⟨(.inr (Nat.le_trans (below_size HB.out) hk)), Kd.fresh' (Kd.R_lt HO_156001.out) k_ hk, Kd.freshB (g := gb155) (o := .cells #[.string (⟨#[115, 117, 112, 101, 114]⟩ : ByteArray), u156001, .int .i64 0] 138 (0, 0)) BK155.out k_ hk⟩)); (case aO => exact ((Kd.N_nil _ _ _ _ (fun k_ => ((P0_ k_ ∨ P2_ k_) ∨ w.heap.size ≤ k_) ∧ some k_ ≠ (u156001 : Value).ownBlock ∧ k_ ≠ gb155)))); (case aS => exact (below_size HB.out)); (case aL => have := LMc25.out; omega); intro v160 w27 ho hb hg hat; rw [← Ny159.out] at ho; have n0_ := Aside0.mk (Kd.V_afterv (Kd.V_apart_nil HO_0.out) hg hat); have n1_ := Aside0.mk (Kd.V_afterv (Kd.V_apart_nil HO_2.out) hg hat); have n2_ := Aside0.mk (Kd.R_grown HO_156001.out hg (fun _ _ => by simp [Value.ownBlock])); have n3_ := Aside0.mk (blk_grown (g := gb155) (o := .cells #[.string (⟨#[115, 117, 112, 101, 114]⟩ : ByteArray), u156001, .int .i64 0] 138 (0, 0)) BK155.out hg (by simp [Value.ownBlock])); have n4_ := Aside0.mk (hb); have n5_ := Aside0.mk (ho); clear HO_0 HO_2 HO_156001 BK155 HB; have HO_0 := n0_; have HO_2 := n1_; have HO_156001 := n2_; have BK155 := n3_; have HB := n4_; have HO161 := n5_; clear n0_ n1_ n2_ n3_ n4_ n5_ ho hb hg hat; have hcz28_0 : w27.cell? ⟨gb155, 0, none⟩ = some (.string (⟨#[115, 117, 112, 101, 114]⟩ : ByteArray)) := (blk_cell BK155.out 0).trans rfl; have hcz28_1 : w27.cell? ⟨gb155, 1, none⟩ = some (u156001) := (blk_cell BK155.out 1).trans rfl; have hcz28_2 : w27.cell? ⟨gb155, 2, none⟩ = some (.int .i64 0) := (blk_cell BK155.out 2).trans rfl; have hfz28_0 := blk_frozen BK155.out 0; have hfz28_1 := blk_frozen BK155.out 1; have hfz28_2 := blk_frozen BK155.out 2; obtain ⟨Ao29, co29, eo29⟩ := Kd.R_slice HO_156001.out; subst eo29) | ((with_reducible refine gate_dst (N := 51) rfl ?_); refine Kd.N_lit k138 _ 138 ?hg (N' := 51) ?hd (xs := ([(⟨(⟨#[115, 117, 112, 101, 114]⟩ : ByteArray), x156001_2, 0⟩ : S138)] : List (S138))) (inner := [.string (⟨#[115, 117, 112, 101, 114]⟩ : ByteArray), .slice Ao29 x156001_2.length co29, .int .i64 0]) (ok := (fun k_ => ((P0_ k_ ∨ P2_ k_) ∨ w.heap.size ≤ k_) ∧ some k_ ≠ (v160 : Value).ownBlock ∧ k_ ≠ gb155)) (okp := (fun k_ => ((P0_ k_ ∨ P2_ k_) ∨ w.heap.size ≤ k_) ∧ some k_ ≠ (v160 : Value).ownBlock ∧ k_ ≠ gb155)) ?hr ?hp (fun _ hk => hk) ((show ∀ k_, w27.heap.size ≤ k_ → (fun k_ => ((P0_ k_ ∨ P2_ k_) ∨ w.heap.size ≤ k_) ∧ some k_ ≠ (v160 : Value).ownBlock ∧ k_ ≠ gb155) k_ from fun k_ hk => ⟨(.inr (Nat.le_trans (below_size HB.out) hk)), Kd.fresh' (Kd.N_lt HO161.out) k_ hk, Kd.freshB (g := gb155) (o := .cells #[.string (⟨#[115, 117, 112, 101, 114]⟩ : ByteArray), .slice Ao29 x156001_2.length co29, .int .i64 0] 138 (0, 0)) BK155.out k_ hk⟩) _ (Nat.le_refl _)) (Below.refl _ _) (Nat.le_refl _) (by simp) ?_; (case hd => rfl); (case hg => rfl); (case hr => (go_simp; done)); (case hp => exact (Reps.c3 (show Kd.FK k138 _ _ (⟨(⟨#[115, 117, 112, 101, 114]⟩ : ByteArray), x156001_2, 0⟩ : S138) [.string (⟨#[115, 117, 112, 101, 114]⟩ : ByteArray), .slice Ao29 x156001_2.length co29, .int .i64 0] from (k138_mkF _ _ (⟨(⟨#[115, 117, 112, 101, 114]⟩ : ByteArray), x156001_2, 0⟩ : S138) (Kd.R_reads' (Kd.R_mono (ok' := (fun k_ => ((P0_ k_ ∨ P2_ k_) ∨ w.heap.size ≤ k_) ∧ some k_ ≠ (v160 : Value).ownBlock ∧ k_ ≠ gb155)) (Kd.R_types (Kd.R_apart' (HO_156001.out) (Kd.N_typed HO161.out) (by decide)) BK155.out (by decide)) (fun k_ hk => ⟨(.inr (hk.1.1)), ⟨hk.1.2, hk.2⟩⟩))).2.1 (Kd.R_F (Kd.R_mono (ok' := (fun k_ => ((P0_ k_ ∨ P2_ k_) ∨ w.heap.size ≤ k_) ∧ some k_ ≠ (v160 : Value).ownBlock ∧ k_ ≠ gb155)) (Kd.R_types (Kd.R_apart' (HO_156001.out) (Kd.N_typed HO161.out) (by decide)) BK155.out (by decide)) (fun k_ hk => ⟨(.inr (hk.1.1)), ⟨hk.1.2, hk.2⟩⟩))))) (Reps.none _ _))); intro v163 w30 ho31 hb hg_ hnew_; clear hg_ hnew_; (rw [← Ny162.out] at ho31); have n0_ := Aside0.mk (Kd.V_elder' HO_0.out (Kd.N_base ho31) hb); have n1_ := Aside0.mk (Kd.V_elder' HO_2.out (Kd.N_base ho31) hb); have n2_ := Aside0.mk (Kd.N_elder' HO161.out (Kd.N_base ho31) hb); have n3_ := Aside0.mk (Kd.N_lower ho31 (below_size HB.out)); have n4_ := Aside0.mk (blk_below (g := gb155) (o := .cells #[.string (⟨#[115, 117, 112, 101, 114]⟩ : ByteArray), .slice Ao29 x156001_2.length co29, .int .i64 0] 138 (0, 0)) BK155.out hb); have n5_ := Aside0.mk (below_step HB.out hb); clear HO_0 HO_2 HO161 BK155 HB HO_156001; have HO_0 := n0_; have HO_2 := n1_; have HO161 := n2_; have HO164 := n3_; have BK155 := n4_; have HB := n5_; clear n0_ n1_ n2_ n3_ n4_ n5_ hb ho31; obtain ⟨Ao32, co32, eo32⟩ := Kd.N_slice HO164.out; subst eo32) | ((with_reducible refine gate_builtin (b := .append) (xs := #[.tmp 47, .tmp 53]) rfl ?_); at_builtin; refine Kd.N_append k63 (w0 := w) w.heap.size rfl (.tmp 47) (.tmp 53) 74 63 (.agg #[(.string ⟨#[]⟩), (.slice none 0 0), (.slice none 0 0)]) 64 rfl Try.underlying74 info63 rfl (by decide) (by omega) v160 y159 (⟨a1, l2, y162⟩ : S63) [.string a1, .slice A2 l2.length c2, .slice Ao32 y162.length co32] (fun k_ => ((P0_ k_ ∨ P2_ k_) ∨ w.heap.size ≤ k_) ∧ k_ ≠ gb155) (fun k_ => ((fun k_ => ((P0_ k_ ∨ P2_ k_) ∨ w.heap.size ≤ k_) ∧ k_ ≠ gb155)) k_ ∧ some k_ ≠ (v160 : Value).ownBlock) rfl rfl ?aP (fun _ hk => hk) ?aF ?aO ?aB ?aS ?aL ?_; (case aP => exact (k63_mkF _ _ (⟨a1, l2, y162⟩ : S63) (Kd.V_reads' (Kd.V_mono (ok' := (fun k_ => ((fun k_ => ((P0_ k_ ∨ P2_ k_) ∨ w.heap.size ≤ k_) ∧ k_ ≠ gb155)) k_ ∧ some k_ ≠ (v160 : Value).ownBlock)) (HO_2.out) (fun k_ hk => ⟨⟨hk.1.1.1, hk.1.1.2.2⟩, hk.1.2⟩))).2.1 (Kd.V_F (e := 0) (base := 0) (Kd.V_mono (e := 0) (base := 0) (ok' := (fun k_ => ((fun k_ => ((P0_ k_ ∨ P2_ k_) ∨ w.heap.size ≤ k_) ∧ k_ ≠ gb155)) k_ ∧ some k_ ≠ (v160 : Value).ownBlock)) (HO_2.out) (fun k_ hk => ⟨⟨hk.1.1.1, hk.1.1.2.2⟩, hk.1.2⟩))) (Kd.N_reads' (Kd.N_mono (ok' := (fun k_ => ((fun k_ => ((P0_ k_ ∨ P2_ k_) ∨ w.heap.size ≤ k_) ∧ k_ ≠ gb155)) k_ ∧ some k_ ≠ (v160 : Value).ownBlock)) (HO164.out) (fun k_ hk => ⟨⟨hk.1, hk.2.2⟩, hk.2.1⟩))).2.1 (Kd.N_F (Kd.N_mono (ok' := (fun k_ => ((fun k_ => ((P0_ k_ ∨ P2_ k_) ∨ w.heap.size ≤ k_) ∧ k_ ≠ gb155)) k_ ∧ some k_ ≠ (v160 : Value).ownBlock)) (HO164.out) (fun k_ hk => ⟨⟨hk.1, hk.2.2⟩, hk.2.1⟩))))); (case aB => exact HB.out); (case aF => exact (fun k_ hk => ⟨(.inr (Nat.le_trans (below_size HB.out) hk)), Kd.freshB (g := gb155) (o := .cells #[.string (⟨#[115, 117, 112, 101, 114]⟩ : ByteArray), .slice Ao29 x156001_2.length co29, .int .i64 0] 138 (0, 0)) BK155.out k_ hk⟩)); (case aO => exact (by exact Kd.N_mono HO161.out (fun _ hk => ⟨hk.1.1, hk.1.2.2⟩))); (case aS => exact (below_size HB.out)); (case aL => have := LMc26.out; omega); intro v166 w33 ho hb hg hat; rw [← Ny165.out] at ho; have n0_ := Aside0.mk (Kd.V_afterv (ok := (fun k_ => ((P0_ k_ ∨ P2_ k_) ∨ w.heap.size ≤ k_) ∧ some k_ ≠ (.slice Ao32 y162.length co32 : Value).ownBlock ∧ k_ ≠ gb155)) (by exact Kd.V_mono HO_0.out (fun _ hk => ⟨⟨hk.1.1.1, ⟨hk.2, hk.1.1.2.2⟩⟩, hk.1.2⟩)) hg hat); have n1_ := Aside0.mk (Kd.V_afterv (ok := (fun k_ => ((P0_ k_ ∨ P2_ k_) ∨ w.heap.size ≤ k_) ∧ some k_ ≠ (.slice Ao32 y162.length co32 : Value).ownBlock ∧ k_ ≠ gb155)) (by exact Kd.V_mono HO_2.out (fun _ hk => ⟨⟨hk.1.1.1, ⟨hk.2, hk.1.1.2.2⟩⟩, hk.1.2⟩)) hg hat); have n2_ := Aside0.mk (blk_grown (g := gb155) (o := .cells #[.string (⟨#[115, 117, 112, 101, 114]⟩ : ByteArray), .slice Ao29 x156001_2.length co29, .int .i64 0] 138 (0, 0)) BK155.out hg (Kd.N_ne HO161.out BK155.out (by decide))); have n3_ := Aside0.mk (hb); have n4_ := Aside0.mk (ho); clear HO_0 HO_2 BK155 HB HO161 HO164; have HO_0 := n0_; have HO_2 := n1_; have BK155 := n2_; have HB := n3_; have HO167 := n4_; clear n0_ n1_ n2_ n3_ n4_ ho hb hg hat))
           go_ret2
           exact ⟨_, by rfl, by exact Kd.N_mono HO167.out (fun _ hk => hk.1), by repeat exact HB.out⟩
          ·
           rw [if_neg c26] at H
           exact absurd H (by simp)
         ·
          rw [if_neg c25] at H
          exact absurd H (by simp)

/-! ### peristyleref25_projection: function 147 -/
def peristyleref25_projection.l0 : Nat → ByteArray → Int → ByteArray → List (S177) → List (S138) → Option (Int)
 | 0, _, _, _, _, _ => none
 | k + 1, x1, x5, x169000, x169001, x169002 => if x5 < (x169002.length : Int) then (if 0 ≤ x5 then (if ((rd_T138 x169002 x5).f0).toList = x1.toList then (some x5) else (peristyleref25_projection.l0 k x1 (wrap64 (x5 + 1)) x169000 x169001 x169002)) else (none)) else (some (-1))
def peristyleref25_projection.f (k : Nat) (a0_0 : ByteArray) (l0_1 : List (S177)) (l0_2 : List (S138)) (a1 : ByteArray) : Option (Int) := peristyleref25_projection.l0 k a1 0 a0_0 l0_1 l0_2
theorem peristyleref25_projection.mono_l : ∀ k, (∀ y0 y1 y2 y3 y4, LeO (peristyleref25_projection.l0 k y0 y1 y2 y3 y4) (peristyleref25_projection.l0 (k + 1) y0 y1 y2 y3 y4))
 | 0 => fun _ _ _ _ _ r h => by simp [peristyleref25_projection.l0] at h
 | k + 1 => by
  have ih0 := peristyleref25_projection.mono_l k
  ·
   intro y0 y1 y2 y3 y4
   unfold peristyleref25_projection.l0
   repeat' first
   | (with_reducible exact ih0 _ _ _ _ _)
   | (with_reducible exact LeO.refl _)
   | (with_reducible exact LeO.none _)
   | (with_reducible refine LeO.ite ?_ ?_)
   | (with_reducible refine LeO.bind ?_ (fun _ => ?_))
   | exact ih0 _ _ _ _ _
   | exact LeO.none _
   | refine LeO.ite ?_ ?_
   | refine LeO.bind ?_ (fun _ => ?_)
theorem peristyleref25_projection.mono : ∀ a0 a1 a2 a3 k, LeO (peristyleref25_projection.f k a0 a1 a2 a3) (peristyleref25_projection.f (k + 1) a0 a1 a2 a3) := by
 intro a0 a1 a2 a3 k
 have ih0 := peristyleref25_projection.mono_l k
 unfold peristyleref25_projection.f
 repeat' first
   | (with_reducible exact ih0 _ _ _ _ _)
   | (with_reducible exact LeO.refl _)
   | (with_reducible exact LeO.none _)
   | (with_reducible refine LeO.ite ?_ ?_)
   | (with_reducible refine LeO.bind ?_ (fun _ => ?_))
   | exact ih0 _ _ _ _ _
   | exact LeO.none _
   | refine LeO.ite ?_ ?_
   | refine LeO.bind ?_ (fun _ => ?_)
set_option maxHeartbeats 8000000 in
set_option maxRecDepth 100000 in
theorem peristyleref25_projection.calls (k : Nat) (a0_0 : ByteArray) (A0_1 : Option Addr) (c0_1 : Nat) (l0_1 : List (S177)) (A0_2 : Option Addr) (c0_2 : Nat) (l0_2 : List (S138)) (a1 : ByteArray) (r : Int) (w : World) (hr0_1 : Kd.C k177 w A0_1 l0_1.length l0_1) (hc0_1 : l0_1.length ≤ c0_1) (hr0_2 : Kd.C k138 w A0_2 l0_2.length l0_2) (hc0_2 : l0_2.length ≤ c0_2) (h : peristyleref25_projection.f k a0_0 l0_1 l0_2 a1 = some r) :
  Calls Try.prog 147 #[.agg #[.string a0_0, .slice A0_1 l0_1.length c0_1, .slice A0_2 l0_2.length c0_2], .string a1] w fun e w' => e = .returned (.int .i64 r) ∧ Below w.heap.size w w' := by
 have hu63 := Try.underlying63
 have HR0_1 := Aside0.mk hr0_1
 have HC0_1 := Aside0.mk hc0_1
 clear hr0_1 hc0_1
 have HR0_2 := Aside0.mk hr0_2
 have HC0_2 := Aside0.mk hc0_2
 clear hr0_2 hc0_2
 have HB := Aside0.mk (Below.refl w.heap.size w)
 have H : (peristyleref25_projection.l0 k a1 0 a0_0 l0_1 l0_2) = some r := h
 clear h
 have H' := Aside0.mk H
 clear H
 go_enter Try.func147, Try.ntmps147
 go_wp2_with (((with_reducible refine gate_dst (N := 2) rfl ?_); refine box_event ?hg (N := 2) ?hd (cs := #[.string a0_0, .slice A0_1 l0_1.length c0_1, .slice A0_2 l0_2.length c0_2]) (t := 63) ?hr ?_; (case hd => rfl); (case hg => rfl); (case hr => (go_simp; done)); intro gb168 hg w3 hbox hb; have n0_ := Aside0.mk (below_step HB.out hb); have n1_ := Aside0.mk (hbox); have n2_ := Aside0.mk ((by rw [hg]; exact (below_size HB.out) : w.heap.size ≤ gb168)); have n3_ := Aside0.mk ((by rw [hg]; exact (below_size HB.out) : w.heap.size ≤ gb168)); clear HB; have HB := n0_; have BK168 := n1_; have GW168 := n2_; have GE168 := n3_; clear n0_ n1_ n2_ n3_ hb hbox hg))
 go_loopg [5] k (fun kq v5 w' => ∃ (x5_1 : Int), v5 = .int .i64 x5_1 ∧ Aside0 (peristyleref25_projection.l0 kq a1 x5_1 a0_0 l0_1 l0_2 = some r) ∧ Aside0 (kq ≤ k) ∧ Aside0 (w'.heap[gb168]? = some (.cells #[.string a0_0, (.slice A0_1 l0_1.length c0_1), (.slice A0_2 l0_2.length c0_2)] 63 (0, 0))) ∧ Aside0 (Below w.heap.size w w'))
 case atStart => exact ⟨(0), (by rfl), H', ⟨Nat.le_refl _⟩, ⟨BK168.out⟩, ⟨HB.out⟩⟩
 case round =>
  clear H'
  obtain ⟨x5_1, rfl, HA, HK1, BK168, HB⟩ := hrel
  cases gk with
  | zero => exact absurd HA.out (by simp [peristyleref25_projection.l0])
  | succ k1 =>
   have H := HA.out
   clear HA
   simp only [peristyleref25_projection.l0] at H
   by_cases c4 : x5_1 < (l0_2.length : Int)
   ·
    rw [if_pos c4] at H
    have c4b0 : decide (x5_1 < (l0_2.length : Int)) = true := decide_eq_true c4
    clear c4
    by_cases c5 : 0 ≤ x5_1
    ·
     rw [if_pos c5] at H
     have c5b0 : decide (0 ≤ x5_1) = true := decide_eq_true c5
     clear c5
     by_cases c6 : ((rd_T138 l0_2 x5_1).f0).toList = a1.toList
     ·
      rw [if_pos c6] at H
      have c6b0 : (((rd_T138 l0_2 x5_1).f0).toList == a1.toList) = true := beq_iff_eq.mpr c6
      have c6b1 : (((rd_T138 l0_2 x5_1).f0).toList != a1.toList) = false := bne_eq_false_iff_eq.mpr c6
      clear c6
      obtain rfl := Option.some.inj H
      have hcz7_0 : wr.cell? ⟨gb168, 0, none⟩ = some (.string a0_0) := (blk_cell BK168.out 0).trans rfl
      have hcz7_1 : wr.cell? ⟨gb168, 1, none⟩ = some (.slice A0_1 l0_1.length c0_1) := (blk_cell BK168.out 1).trans rfl
      have hcz7_2 : wr.cell? ⟨gb168, 2, none⟩ = some (.slice A0_2 l0_2.length c0_2) := (blk_cell BK168.out 2).trans rfl
      have hfz7_0 := blk_frozen BK168.out 0
      have hfz7_1 := blk_frozen BK168.out 1
      have hfz7_2 := blk_frozen BK168.out 2
      have p169 : 0 ≤ (x5_1 : Int) := of_decide_eq_true (by (with_reducible assumption))
      have q169 : x5_1 < (l0_2.length : Int) := of_decide_eq_true (by (with_reducible assumption))
      obtain ⟨ad169, A169_1, c169_1, e169, hx169_0, hx169_1, hx169_2, hl169_1, hi169_1⟩ := at_T138 HR0_2.out x5_1 p169 q169
      cases e169
      replace hx169_0 := (HB.out.cell (World.block_lt_of_cell? w _ hx169_0)).trans hx169_0
      replace hx169_1 := (HB.out.cell (World.block_lt_of_cell? w _ hx169_1)).trans hx169_1
      replace hx169_2 := (HB.out.cell (World.block_lt_of_cell? w _ hx169_2)).trans hx169_2
      have HR169_1 := Aside0.mk hi169_1
      have HC169_1 := Aside0.mk hl169_1
      clear hi169_1 hl169_1
      replace p169 := eq_true p169
      replace q169 := eq_true q169
      go_wp2
      go_ret
      exact ⟨by rfl, by repeat exact HB.out⟩
     ·
      rw [if_neg c6] at H
      have c6b0 : (((rd_T138 l0_2 x5_1).f0).toList == a1.toList) = false := beq_eq_false_iff_ne.mpr c6
      have c6b1 : (((rd_T138 l0_2 x5_1).f0).toList != a1.toList) = true := bne_iff_ne.mpr c6
      have H' := Aside0.mk H
      clear H
      have hcz8_0 : wr.cell? ⟨gb168, 0, none⟩ = some (.string a0_0) := (blk_cell BK168.out 0).trans rfl
      have hcz8_1 : wr.cell? ⟨gb168, 1, none⟩ = some (.slice A0_1 l0_1.length c0_1) := (blk_cell BK168.out 1).trans rfl
      have hcz8_2 : wr.cell? ⟨gb168, 2, none⟩ = some (.slice A0_2 l0_2.length c0_2) := (blk_cell BK168.out 2).trans rfl
      have hfz8_0 := blk_frozen BK168.out 0
      have hfz8_1 := blk_frozen BK168.out 1
      have hfz8_2 := blk_frozen BK168.out 2
      have p169 : 0 ≤ (x5_1 : Int) := of_decide_eq_true (by (with_reducible assumption))
      have q169 : x5_1 < (l0_2.length : Int) := of_decide_eq_true (by (with_reducible assumption))
      obtain ⟨ad169, A169_1, c169_1, e169, hx169_0, hx169_1, hx169_2, hl169_1, hi169_1⟩ := at_T138 HR0_2.out x5_1 p169 q169
      cases e169
      replace hx169_0 := (HB.out.cell (World.block_lt_of_cell? w _ hx169_0)).trans hx169_0
      replace hx169_1 := (HB.out.cell (World.block_lt_of_cell? w _ hx169_1)).trans hx169_1
      replace hx169_2 := (HB.out.cell (World.block_lt_of_cell? w _ hx169_2)).trans hx169_2
      have HR169_1 := Aside0.mk hi169_1
      have HC169_1 := Aside0.mk hl169_1
      clear hi169_1 hl169_1
      replace p169 := eq_true p169
      replace q169 := eq_true q169
      go_wp2
      go_roundg k1
      case measure => have := HK1.out; omega
      case rel => exact ⟨(wrap64 (x5_1 + 1)), (by rfl), H', ⟨by have := HK1.out; omega⟩, ⟨BK168.out⟩, ⟨HB.out⟩⟩
    ·
     rw [if_neg c5] at H
     exact absurd H (by simp)
   ·
    rw [if_neg c4] at H
    have c4b0 : decide (x5_1 < (l0_2.length : Int)) = false := decide_eq_false c4
    clear c4
    obtain rfl := Option.some.inj H
    have hcz9_0 : wr.cell? ⟨gb168, 0, none⟩ = some (.string a0_0) := (blk_cell BK168.out 0).trans rfl
    have hcz9_1 : wr.cell? ⟨gb168, 1, none⟩ = some (.slice A0_1 l0_1.length c0_1) := (blk_cell BK168.out 1).trans rfl
    have hcz9_2 : wr.cell? ⟨gb168, 2, none⟩ = some (.slice A0_2 l0_2.length c0_2) := (blk_cell BK168.out 2).trans rfl
    have hfz9_0 := blk_frozen BK168.out 0
    have hfz9_1 := blk_frozen BK168.out 1
    have hfz9_2 := blk_frozen BK168.out 2
    go_wp2
    go_ret
    exact ⟨by rfl, by repeat exact HB.out⟩

/-! ### peristyleref25_with: function 148 -/
def peristyleref25_with.f (l0 : List (S63)) (a1 : Int) (l2 : List (S138)) : Option ((List (S63))) := if ([] : List (S63)).length + l0.length < 2199023255552 then ((some (([] : List (S63)) ++ l0 : List (S63))).bind fun y170 => (if 0 ≤ a1 then (if a1 < (l0.length : Int) then (if a1 < (y170.length : Int) then (some (y170.set (a1 : Int).toNat (⟨(rd_T63 l0 a1).f0, (rd_T63 l0 a1).f1, l2⟩ : S63))) else (none)) else (none)) else (none))) else (none)
def peristyleref25_with.T3 : Bool × List (List Nat × List Nat) := (true, [([], []), ([], []), ([], []), ([], []), ([2, 3], [2, 3]), ([4], [4]), ([5], [5]), ([], []), ([], []), ([7, 8], [7, 8]), ([9], [9]), ([10], [10]), ([], []), ([6, 11, 12], [6, 11, 12]), ([0, 1, 0, 1, 2, 3, 4, 5, 6, 7, 8, 9, 10, 11, 12, 13], [0, 1]), ([14, 13, 0, 1, 2, 3, 4, 5, 6, 7, 8, 9, 10, 11, 12, 13], [13, 14])])
def peristyleref25_with.B3 : List Nat := [0, 0, 0, 0, 12, 28, 60, 0, 0, 384, 896, 1920, 0, 8188, 16383, 32767]
theorem peristyleref25_with.tab3 : rtab .any (opsOf Try.f148 3) = peristyleref25_with.T3 := by kernel_rfl
theorem peristyleref25_with.bits3 : waitsOk peristyleref25_with.T3.2 peristyleref25_with.B3 = true := by kernel_rfl
set_option maxHeartbeats 8000000 in
set_option maxRecDepth 100000 in
theorem peristyleref25_with.calls (P0_ : Nat → Prop) (A0 : Option Addr) (c0 : Nat) (l0 : List (S63)) (a1 : Int) (P2_ : Nat → Prop) (A2 : Option Addr) (c2 : Nat) (l2 : List (S138)) (r : List (S63)) (w : World) (hs0 : Kd.V k63 63 w w.heap.size (fun k_ => P0_ k_) (.slice A0 l0.length c0) l0) (hs2 : Kd.V k138 138 w w.heap.size (fun k_ => P2_ k_) (.slice A2 l2.length c2) l2) (h : peristyleref25_with.f l0 a1 l2 = some r) :
  Calls Try.prog 148 #[.slice A0 l0.length c0, .int .i64 a1, .slice A2 l2.length c2] w fun e w' => ∃ v0_ : Value, e = .returned (v0_) ∧ Kd.N k63 63 w' w.heap.size (fun k_ => ((P0_ k_ ∨ P2_ k_) ∨ w.heap.size ≤ k_)) v0_ r ∧ Below w.heap.size w w' := by
 have hu63 := Try.underlying63
 have HO0 := Aside0.mk (show Kd.V k63 63 w w.heap.size (fun k_ => ((P0_ k_ ∨ P2_ k_) ∨ w.heap.size ≤ k_)) (.slice A0 l0.length c0) l0 from Kd.V_mono hs0 (fun k_ hk => .inl (.inl hk)))
 have HO2 := Aside0.mk (show Kd.V k138 138 w w.heap.size (fun k_ => ((P0_ k_ ∨ P2_ k_) ∨ w.heap.size ≤ k_)) (.slice A2 l2.length c2) l2 from Kd.V_mono hs2 (fun k_ hk => .inl (.inr hk)))
 have HB := Aside0.mk (Below.refl w.heap.size w)
 have H : (if ([] : List (S63)).length + l0.length < 2199023255552 then ((some (([] : List (S63)) ++ l0 : List (S63))).bind fun y170 => (if 0 ≤ a1 then (if a1 < (l0.length : Int) then (if a1 < (y170.length : Int) then (some (y170.set (a1 : Int).toNat (⟨(rd_T63 l0 a1).f0, (rd_T63 l0 a1).f1, l2⟩ : S63))) else (none)) else (none)) else (none))) else (none)) = some r := h
 clear h
 by_cases c4 : ([] : List (S63)).length + l0.length < 2199023255552
 ·
  rw [if_pos c4] at H
  have LMc4 := Aside0.mk c4
  clear c4
  obtain ⟨y170, hy170⟩ : ∃ y_ : List (S63), y_ = (([] : List (S63)) ++ l0) := ⟨_, rfl⟩
  replace H : (if 0 ≤ a1 then (if a1 < (l0.length : Int) then (if a1 < (y170.length : Int) then (some (y170.set (a1 : Int).toNat (⟨(rd_T63 l0 a1).f0, (rd_T63 l0 a1).f1, l2⟩ : S63))) else (none)) else (none)) else (none)) = some r := by (have H2_ := (Option.bind_some _ _).symm.trans H; rw [hy170]; with_reducible exact H2_)
  have Ny170 := Aside0.mk hy170
  clear hy170
  by_cases c5 : 0 ≤ a1
  ·
   rw [if_pos c5] at H
   have c5b0 : decide (0 ≤ a1) = true := decide_eq_true c5
   clear c5
   by_cases c6 : a1 < (l0.length : Int)
   ·
    rw [if_pos c6] at H
    have c6b0 : decide (a1 < (l0.length : Int)) = true := decide_eq_true c6
    clear c6
    by_cases c7 : a1 < (y170.length : Int)
    ·
     rw [if_pos c7] at H
     have c7b0 : decide (a1 < (y170.length : Int)) = true := decide_eq_true c7
     clear c7
     obtain ⟨y175, hy175⟩ : ∃ y_ : List (S63), y_ = (y170.set (a1 : Int).toNat (⟨(rd_T63 l0 a1).f0, (rd_T63 l0 a1).f1, l2⟩ : S63)) := ⟨_, rfl⟩
     replace H : (some y175) = some r := by (rw [hy175]; with_reducible exact H)
     have Ny175 := Aside0.mk hy175
     clear hy175
     obtain rfl := Option.some.inj H
     go_enter Try.func148, Try.ntmps148
     try go_wp2_with (((with_reducible refine gate_builtin (b := .append) (xs := #[.tmp 8, .tmp 9]) rfl ?_); at_builtin; refine Kd.N_append_rows k63 (w0 := w) w.heap.size rfl (.tmp 8) (.tmp 9) 74 63 (.agg #[(.string ⟨#[]⟩), (.slice none 0 0), (.slice none 0 0)]) 64 rfl Try.underlying74 info63 rfl (by decide) (by omega) (.slice none 0 0) ([] : List (S63)) l0 _ _ _ (fun k_ => ((P0_ k_ ∨ P2_ k_) ∨ w.heap.size ≤ k_)) (fun k_ => ((fun k_ => ((P0_ k_ ∨ P2_ k_) ∨ w.heap.size ≤ k_))) k_ ∧ some k_ ≠ (.slice none 0 0 : Value).ownBlock) rfl rfl ?aO ?aR (fun _ hk => hk) ?aF ?aB ?aS ?aL ?_; (case aR => exact (by exact Kd.V_F (Kd.V_mono (ok' := (fun k_ => ((fun k_ => ((P0_ k_ ∨ P2_ k_) ∨ w.heap.size ≤ k_))) k_ ∧ some k_ ≠ (.slice none 0 0 : Value).ownBlock)) (HO0.out) (fun k_ hk => ⟨hk, (by simp [Value.ownBlock])⟩)))); (case aB => exact HB.out); (case aF => exact (fun k_ hk => (.inr (Nat.le_trans (below_size HB.out) hk)))); (case aO => exact ((Kd.N_nil _ _ _ _ (fun k_ => ((P0_ k_ ∨ P2_ k_) ∨ w.heap.size ≤ k_))))); (case aS => exact (below_size HB.out)); (case aL => have := LMc4.out; omega); intro v171 w9 ho hb hg hat; rw [← Ny170.out] at ho; have n0_ := Aside0.mk (Kd.V_afterv (Kd.V_apart_nil HO0.out) hg hat); have n1_ := Aside0.mk (Kd.V_afterv (Kd.V_apart_nil HO2.out) hg hat); have n2_ := Aside0.mk (hb); have n3_ := Aside0.mk (ho); clear HO0 HO2 HB; have HO0 := n0_; have HO2 := n1_; have HB := n2_; have HO172 := n3_; clear n0_ n1_ n2_ n3_ ho hb hg hat))
     have n0_ := Aside0.mk (Kd.V_drew HO0.out)
     have n1_ := Aside0.mk (Kd.V_drew HO2.out)
     have n2_ := Aside0.mk (Kd.N_drew HO172.out)
     have n3_ := Aside0.mk (below_drew1 HB.out)
     clear HO0
     clear HO2
     clear HO172
     clear HB
     have HO0 := n0_
     have HO2 := n1_
     have HO172 := n2_
     have HB := n3_
     clear n0_ n1_ n2_ n3_
     have p173 : 0 ≤ (a1 : Int) := of_decide_eq_true (by (with_reducible assumption))
     have q173 : a1 < (l0.length : Int) := of_decide_eq_true (by (with_reducible assumption))
     obtain ⟨ad173, A173_1, c173_1, A173_2, c173_2, e173, hx173_0, hx173_1, hx173_2, hl173_1, hi173_1, hl173_2, hi173_2⟩ := at_T63 (Kd.V_reads' HO0.out).2.2 a1 p173 q173
     cases e173
     obtain ⟨ce173, hce173, hMe173, hcc173⟩ := Kd.V_get HO0.out z63 a1 p173 q173
     obtain ⟨ua173_1, uc173_1, ua173_2, uc173_2, rfl, ul173_1, ge173_1, ul173_2, ge173_2⟩ := k63_openF hMe173
     have hv173_1 := hcc173 1 _ rfl
     rw [add_field _ _ 1 (by omega)] at hv173_1
     replace hv173_1 := Option.some.inj (hv173_1.symm.trans hx173_1)
     injection hv173_1 with hva_ hvn_ hvc_
     rw [hva_] at ge173_1
     rw [hvc_] at ul173_1
     have HL173_1 := Aside0.mk (show Kd.V k177 177 _ w.heap.size _ _ ((rd_T63 l0 a1).f1) from Kd.V_mk ul173_1 ge173_1)
     clear hva_ hvn_ hvc_ ge173_1 ul173_1
     have hv173_2 := hcc173 2 _ rfl
     rw [add_field _ _ 2 (by omega)] at hv173_2
     replace hv173_2 := Option.some.inj (hv173_2.symm.trans hx173_2)
     injection hv173_2 with hva_ hvn_ hvc_
     rw [hva_] at ge173_2
     rw [hvc_] at ul173_2
     have HL173_2 := Aside0.mk (show Kd.V k138 138 _ w.heap.size _ _ ((rd_T63 l0 a1).f2) from Kd.V_mk ul173_2 ge173_2)
     clear hva_ hvn_ hvc_ ge173_2 ul173_2
     clear hcc173 hce173
     have HR173_1 := Aside0.mk hi173_1
     have HC173_1 := Aside0.mk hl173_1
     clear hi173_1 hl173_1
     have HR173_2 := Aside0.mk hi173_2
     have HC173_2 := Aside0.mk hl173_2
     clear hi173_2 hl173_2
     replace p173 := eq_true p173
     replace q173 := eq_true q173
     have p174 : 0 ≤ (a1 : Int) := of_decide_eq_true (by (with_reducible assumption))
     have q174 : a1 < (l0.length : Int) := of_decide_eq_true (by (with_reducible assumption))
     obtain ⟨ad174, A174_1, c174_1, A174_2, c174_2, e174, hx174_0, hx174_1, hx174_2, hl174_1, hi174_1, hl174_2, hi174_2⟩ := at_T63 (Kd.V_reads' HO0.out).2.2 a1 p174 q174
     obtain rfl : ad173 = ad174 := (by injection e174)
     obtain ⟨ce174, hce174, hMe174, hcc174⟩ := Kd.V_get HO0.out z63 a1 p174 q174
     obtain ⟨ua174_1, uc174_1, ua174_2, uc174_2, rfl, ul174_1, ge174_1, ul174_2, ge174_2⟩ := k63_openF hMe174
     have hv174_1 := hcc174 1 _ rfl
     rw [add_field _ _ 1 (by omega)] at hv174_1
     replace hv174_1 := Option.some.inj (hv174_1.symm.trans hx174_1)
     injection hv174_1 with hva_ hvn_ hvc_
     rw [hva_] at ge174_1
     rw [hvc_] at ul174_1
     have HL174_1 := Aside0.mk (show Kd.V k177 177 _ w.heap.size _ _ ((rd_T63 l0 a1).f1) from Kd.V_mk ul174_1 ge174_1)
     clear hva_ hvn_ hvc_ ge174_1 ul174_1
     have hv174_2 := hcc174 2 _ rfl
     rw [add_field _ _ 2 (by omega)] at hv174_2
     replace hv174_2 := Option.some.inj (hv174_2.symm.trans hx174_2)
     injection hv174_2 with hva_ hvn_ hvc_
     rw [hva_] at ge174_2
     rw [hvc_] at ul174_2
     have HL174_2 := Aside0.mk (show Kd.V k138 138 _ w.heap.size _ _ ((rd_T63 l0 a1).f2) from Kd.V_mk ul174_2 ge174_2)
     clear hva_ hvn_ hvc_ ge174_2 ul174_2
     clear hcc174 hce174
     have HR174_1 := Aside0.mk hi174_1
     have HC174_1 := Aside0.mk hl174_1
     clear hi174_1 hl174_1
     have HR174_2 := Aside0.mk hi174_2
     have HC174_2 := Aside0.mk hl174_2
     clear hi174_2 hl174_2
     replace p174 := eq_true p174
     replace q174 := eq_true q174
     have ea_ := Option.some.inj (hx173_1.symm.trans hx174_1)
     injection ea_ with ea_ en_ ec_
     subst ea_
     subst ec_
     clear en_
     have ea_ := Option.some.inj (hx173_2.symm.trans hx174_2)
     injection ea_ with ea_ en_ ec_
     subst ea_
     subst ec_
     clear en_
     have p8 : 0 ≤ (a1 : Int) := of_decide_eq_true (by (with_reducible assumption))
     have q8 : (a1 : Int) < ((y170.length : Int) : Int) := of_decide_eq_true (by (with_reducible assumption))
     obtain ⟨go8, co8, eo8, gb8, gl8, cl8, HG8⟩ := Kd.N_form HO172.out (by omega)
     (cases eo8)
     have GB8 := Aside0.mk gb8
     have GG8 := Aside0.mk HG8
     clear gb8 gl8 HG8
     obtain ⟨ce8, hcl8, hM8, hcc8, hfr8⟩ := Kd.N_elem HO172.out z63 (a1 : Int) p8 q8
     obtain ⟨ua8_1, uc8_1, ua8_2, uc8_2, rfl, ul8_1, ge8_1, ul8_2, ge8_2⟩ := k63_openF hM8
     have hx8_0 : World.cell? _ ⟨go8, (a1 : Int).toNat * 3, none⟩ = some (.string ((rd_T63 y170 a1).f0)) := hcc8 0 _ rfl
     have hx8_1 : World.cell? _ ⟨go8, (a1 : Int).toNat * 3 + 1, none⟩ = some (.slice ua8_1 ((rd_T63 y170 a1).f1).length uc8_1) := hcc8 1 _ rfl
     have hx8_2 : World.cell? _ ⟨go8, (a1 : Int).toNat * 3 + 2, none⟩ = some (.slice ua8_2 ((rd_T63 y170 a1).f2).length uc8_2) := hcc8 2 _ rfl
     have hf8_0 : World.frozen? _ ⟨go8, (a1 : Int).toNat * 3, none⟩ = false := hfr8 0
     have hf8_1 : World.frozen? _ ⟨go8, (a1 : Int).toNat * 3 + 1, none⟩ = false := hfr8 1
     have hf8_2 : World.frozen? _ ⟨go8, (a1 : Int).toNat * 3 + 2, none⟩ = false := hfr8 2
     clear hcl8 hcc8 hfr8 hM8
     replace p8 := eq_true p8
     replace q8 := eq_true q8
     have HX11 := Aside0.mk (show Kd.N k63 63 _ w.heap.size (fun k_ => ((P0_ k_ ∨ P2_ k_) ∨ w.heap.size ≤ k_)) (.slice (some ⟨go8, 0, none⟩) y170.length co8) y170 from (Kd.N_mono (HO172.out) (fun k_ hk => hk)))
     obtain ⟨ce11, hcl11, hM11, hcc11, hfr11⟩ := Kd.N_elem HX11.out z63 (a1 : Int) (of_decide_eq_true (by (with_reducible assumption))) (by have h_ : (a1 : Int) < ((y170.length : Int) : Int) := of_decide_eq_true (by (with_reducible assumption)); exact h_)
     obtain ⟨ua11_1, uc11_1, ua11_2, uc11_2, rfl, ul11_1, ge11_1, ul11_2, ge11_2⟩ := k63_openF hM11
     have HP11 := (Kd.N_seg HX11.out (a1 : Int) (of_decide_eq_true (by (with_reducible assumption))) (by have h_ : (a1 : Int) < ((y170.length : Int) : Int) := of_decide_eq_true (by (with_reducible assumption)); exact h_) (seg := [.string ((rd_T63 l0 a1).f0), .slice A173_1 ((rd_T63 l0 a1).f1).length c173_1, .slice A2 l2.length c2]) (j := 0) hcl11 hcc11 (show 3 ≤ 3 from by decide) (x' := (⟨(rd_T63 l0 a1).f0, (rd_T63 l0 a1).f1, l2⟩ : S63)) (k63_mkF _ _ (⟨(rd_T63 l0 a1).f0, (rd_T63 l0 a1).f1, l2⟩ : S63) (Kd.V_reads' (Kd.V_mono (ok' := (fun k_ => ((fun k_ => ((P0_ k_ ∨ P2_ k_) ∨ w.heap.size ≤ k_))) k_ ∧ k_ ≠ go8)) (HL174_1.out) (fun k_ hk => ⟨hk.1, fun e_ => (hk.2) (by rw [e_]; rfl)⟩))).2.1 (Kd.V_F (e := 0) (base := 0) (Kd.V_mono (e := 0) (base := 0) (ok' := (fun k_ => ((fun k_ => ((P0_ k_ ∨ P2_ k_) ∨ w.heap.size ≤ k_))) k_ ∧ k_ ≠ go8)) (HL174_1.out) (fun k_ hk => ⟨hk.1, fun e_ => (hk.2) (by rw [e_]; rfl)⟩))) (Kd.V_reads' (Kd.V_mono (ok' := (fun k_ => ((fun k_ => ((P0_ k_ ∨ P2_ k_) ∨ w.heap.size ≤ k_))) k_ ∧ k_ ≠ go8)) (HO2.out) (fun k_ hk => ⟨hk.1, fun e_ => (hk.2) (by rw [e_]; rfl)⟩))).2.1 (Kd.V_F (e := 0) (base := 0) (Kd.V_mono (e := 0) (base := 0) (ok' := (fun k_ => ((fun k_ => ((P0_ k_ ∨ P2_ k_) ∨ w.heap.size ≤ k_))) k_ ∧ k_ ≠ go8)) (HO2.out) (fun k_ hk => ⟨hk.1, fun e_ => (hk.2) (by rw [e_]; rfl)⟩)))) (fun _ hk => hk)).1
     rw [← Ny175.out] at HP11
     have HQ11 := Aside0.mk HP11
     clear hcl11 hcc11 hfr11 hM11 HP11
     refine start_ (n := 16) (S := fun w' => w'.cell? (ad173.add ((a1).toNat * 3)) = some (.string ((rd_T63 l0 a1).f0)) ∧ w'.cell? ⟨(ad173.add ((a1).toNat * 3)).block, (ad173.add ((a1).toNat * 3)).off + 1, none⟩ = some (.slice A173_1 ((rd_T63 l0 a1).f1).length c173_1) ∧ w'.cell? ⟨(ad173.add ((a1).toNat * 3)).block, (ad173.add ((a1).toNat * 3)).off + 2, none⟩ = some (.slice A173_2 ((rd_T63 l0 a1).f2).length c173_2) ∧ w'.cell? (ad173.add ((a1).toNat * 3)) = some (.string ((rd_T63 l0 a1).f0)) ∧ w'.cell? ⟨(ad173.add ((a1).toNat * 3)).block, (ad173.add ((a1).toNat * 3)).off + 1, none⟩ = some (.slice A173_1 ((rd_T63 l0 a1).f1).length c173_1) ∧ w'.cell? ⟨(ad173.add ((a1).toNat * 3)).block, (ad173.add ((a1).toNat * 3)).off + 2, none⟩ = some (.slice A173_2 ((rd_T63 l0 a1).f2).length c173_2)) (ds := [15]) #[Z,Z,Z,Z,Z,Z,Z,Z,Z,Z,Z,Z,Z,Z,Z,Z] (by kernel_rfl) rfl rfl ⟨hx173_0, hx173_1, hx173_2, hx174_0, hx174_1, hx174_2⟩ (fun hHeld => ?_); refine with_tabW peristyleref25_with.tab3 peristyleref25_with.bits3 (fun HT_ HW_ => ?_)
     generalize w9.drew = w10 at HO0 HO2 HO172 HB GG8 HL173_1 HL173_2 HL174_1 HL174_2 HQ11 HR173_1 HR173_2 HR174_1 HR174_2 hf8_0 hf8_1 hf8_2 hx173_0 hx173_1 hx173_2 hx174_0 hx174_1 hx174_2 hx8_0 hx8_1 hx8_2 hHeld ⊢
     refine pure_ (i := 0) (N := some 11) (v := ?_) (a' := ?_) #[Y,Z,Z,Z,Z,Z,Z,Z,Z,Z,Z,Z,Z,Z,Z,Z] rfl rfl (any_of HT_.out (by kernel_rfl)) (fun _ _ _ h => h) (Or.inl ⟨by rfl, ?_⟩) ?_ ?_
     rotate_left
     ·
      intro w'
      go_simp
      with_reducible rfl
     rotate_left
     ·
      simp only [Act.put, List.setIfInBounds_toArray, List.set_cons_zero, List.set_cons_succ, i64_w, i32_w]
      rfl
     refine pure_ (i := 1) (N := some 12) (v := ?_) (a' := ?_) #[Y,Y,Z,Z,Z,Z,Z,Z,Z,Z,Z,Z,Z,Z,Z,Z] rfl rfl (any_of HT_.out (by kernel_rfl)) (fun _ _ _ h => h) (Or.inl ⟨by rfl, ?_⟩) ?_ ?_
     rotate_left
     ·
      intro w'
      go_simp
      with_reducible rfl
     rotate_left
     ·
      simp only [Act.put, List.setIfInBounds_toArray, List.set_cons_zero, List.set_cons_succ, i64_w, i32_w]
      rfl
     refine pure_ (i := 2) (N := some 13) (v := ?_) (a' := ?_) #[Y,Y,Y,Z,Z,Z,Z,Z,Z,Z,Z,Z,Z,Z,Z,Z] rfl rfl (any_of HT_.out (by kernel_rfl)) (fun _ _ _ h => h) (Or.inl ⟨by rfl, ?_⟩) ?_ ?_
     rotate_left
     ·
      intro w'
      go_simp
      with_reducible rfl
     rotate_left
     ·
      simp only [Act.put, List.setIfInBounds_toArray, List.set_cons_zero, List.set_cons_succ, i64_w, i32_w]
      rfl
     refine pure_ (i := 3) (N := some 14) (v := ?_) (a' := ?_) #[Y,Y,Y,Y,Z,Z,Z,Z,Z,Z,Z,Z,Z,Z,Z,Z] rfl rfl (any_of HT_.out (by kernel_rfl)) (fun _ _ _ h => h) (Or.inl ⟨by rfl, ?_⟩) ?_ ?_
     rotate_left
     ·
      intro w'
      go_simp
      with_reducible rfl
     rotate_left
     ·
      simp only [Act.put, List.setIfInBounds_toArray, List.set_cons_zero, List.set_cons_succ, i64_w, i32_w]
      rfl
     refine pure_ (i := 4) (N := some 15) (v := ?_) (a' := ?_) #[Y,Y,Y,Y,Y,Z,Z,Z,Z,Z,Z,Z,Z,Z,Z,Z] rfl rfl (any_of HT_.out (by kernel_rfl)) (fun _ _ _ h => h) (Or.inl ⟨by rfl, ?_⟩) ?_ ?_
     rotate_left
     ·
      intro w'
      go_simp
      with_reducible rfl
     rotate_left
     ·
      simp only [Act.put, List.setIfInBounds_toArray, List.set_cons_zero, List.set_cons_succ, i64_w, i32_w]
      rfl
     refine pure_ (i := 5) (N := some 16) (v := ?_) (a' := ?_) #[Y,Y,Y,Y,Y,Y,Z,Z,Z,Z,Z,Z,Z,Z,Z,Z] rfl rfl (any_of HT_.out (by kernel_rfl)) (fun _ _ _ h => h) (Or.inl ⟨by rfl, ?_⟩) ?_ ?_
     rotate_left
     ·
      intro w'
      go_simp
      with_reducible rfl
     rotate_left
     ·
      simp only [Act.put, List.setIfInBounds_toArray, List.set_cons_zero, List.set_cons_succ, i64_w, i32_w]
      rfl
     refine pure_ (i := 7) (N := some 18) (v := ?_) (a' := ?_) #[Y,Y,Y,Y,Y,Y,Z,Y,Z,Z,Z,Z,Z,Z,Z,Z] rfl rfl (any_of HT_.out (by kernel_rfl)) (fun _ _ _ h => h) (Or.inl ⟨by rfl, ?_⟩) ?_ ?_
     rotate_left
     ·
      intro w'
      go_simp
      with_reducible rfl
     rotate_left
     ·
      simp only [Act.put, List.setIfInBounds_toArray, List.set_cons_zero, List.set_cons_succ, i64_w, i32_w]
      rfl
     refine pure_ (i := 8) (N := some 19) (v := ?_) (a' := ?_) #[Y,Y,Y,Y,Y,Y,Z,Y,Y,Z,Z,Z,Z,Z,Z,Z] rfl rfl (any_of HT_.out (by kernel_rfl)) (fun _ _ _ h => h) (Or.inl ⟨by rfl, ?_⟩) ?_ ?_
     rotate_left
     ·
      intro w'
      go_simp
      with_reducible rfl
     rotate_left
     ·
      simp only [Act.put, List.setIfInBounds_toArray, List.set_cons_zero, List.set_cons_succ, i64_w, i32_w]
      rfl
     refine pure_ (i := 9) (N := some 20) (v := ?_) (a' := ?_) #[Y,Y,Y,Y,Y,Y,Z,Y,Y,Y,Z,Z,Z,Z,Z,Z] rfl rfl (any_of HT_.out (by kernel_rfl)) (fun _ _ _ h => h) (Or.inl ⟨by rfl, ?_⟩) ?_ ?_
     rotate_left
     ·
      intro w'
      go_simp
      with_reducible rfl
     rotate_left
     ·
      simp only [Act.put, List.setIfInBounds_toArray, List.set_cons_zero, List.set_cons_succ, i64_w, i32_w]
      rfl
     refine pure_ (i := 10) (N := some 21) (v := ?_) (a' := ?_) #[Y,Y,Y,Y,Y,Y,Z,Y,Y,Y,Y,Z,Z,Z,Z,Z] rfl rfl (any_of HT_.out (by kernel_rfl)) (fun _ _ _ h => h) (Or.inl ⟨by rfl, ?_⟩) ?_ ?_
     rotate_left
     ·
      intro w'
      go_simp
      with_reducible rfl
     rotate_left
     ·
      simp only [Act.put, List.setIfInBounds_toArray, List.set_cons_zero, List.set_cons_succ, i64_w, i32_w]
      rfl
     refine pure_ (i := 12) (N := some 23) (v := ?_) (a' := ?_) #[Y,Y,Y,Y,Y,Y,Z,Y,Y,Y,Y,Z,Y,Z,Z,Z] rfl rfl (any_of HT_.out (by kernel_rfl)) (fun _ _ _ h => h) (Or.inl ⟨by rfl, ?_⟩) ?_ ?_
     rotate_left
     ·
      intro w'
      go_simp
      with_reducible rfl
     rotate_left
     ·
      simp only [Act.put, List.setIfInBounds_toArray, List.set_cons_zero, List.set_cons_succ, i64_w, i32_w]
      rfl
     refine take_ (i := 6) (N := some 17) (v := ?_) (a' := ?_) #[Y,Y,Y,Y,Y,Y,Y,Y,Y,Y,Y,Z,Y,Z,Z,Z] rfl rfl (take_ofW HT_.out HW_.out (by kernel_rfl)) (fun _ _ _ h => h) (Or.inl ⟨by rfl, ?_⟩) hHeld ?_ ?_
     rotate_left
     ·
      rintro w' ⟨s0, s1, s2, s3, s4, s5⟩
      go_simp
      with_reducible rfl
     rotate_left
     ·
      simp only [Act.put, List.setIfInBounds_toArray, List.set_cons_zero, List.set_cons_succ, i64_w, i32_w]
      rfl
     refine take_ (i := 11) (N := some 22) (v := ?_) (a' := ?_) #[Y,Y,Y,Y,Y,Y,Y,Y,Y,Y,Y,Y,Y,Z,Z,Z] rfl rfl (take_ofW HT_.out HW_.out (by kernel_rfl)) (fun _ _ _ h => h) (Or.inl ⟨by rfl, ?_⟩) hHeld ?_ ?_
     rotate_left
     ·
      rintro w' ⟨s0, s1, s2, s3, s4, s5⟩
      go_simp
      with_reducible rfl
     rotate_left
     ·
      simp only [Act.put, List.setIfInBounds_toArray, List.set_cons_zero, List.set_cons_succ, i64_w, i32_w]
      rfl
     refine pure_ (i := 13) (N := some 24) (v := ?_) (a' := ?_) #[Y,Y,Y,Y,Y,Y,Y,Y,Y,Y,Y,Y,Y,Y,Z,Z] rfl rfl (any_of HT_.out (by kernel_rfl)) (fun _ _ _ h => h) (Or.inl ⟨by rfl, ?_⟩) ?_ ?_
     rotate_left
     ·
      intro w'
      go_simp
      with_reducible rfl
     rotate_left
     ·
      simp only [Act.put, List.setIfInBounds_toArray, List.set_cons_zero, List.set_cons_succ, i64_w, i32_w]
      rfl
     refine pure_ (i := 14) (N := some 25) (v := ?_) (a' := ?_) #[Y,Y,Y,Y,Y,Y,Y,Y,Y,Y,Y,Y,Y,Y,Y,Z] rfl rfl (any_of HT_.out (by kernel_rfl)) (fun _ _ _ h => h) (Or.inl ⟨by rfl, ?_⟩) ?_ ?_
     rotate_left
     ·
      intro w'
      go_simp
      with_reducible rfl
     rotate_left
     ·
      simp only [Act.put, List.setIfInBounds_toArray, List.set_cons_zero, List.set_cons_succ, i64_w, i32_w]
      rfl
     refine last_ (i := 15) (N := none) #[Y,Y,Y,Y,Y,Y,Y,Y,Y,Y,Y,Y,Y,Y,Y,Y] rfl rfl (one_of HT_.out (by kernel_rfl)) (by decide) (fun K hK => ?_)
     refine skip_ (w1 := ?_) (by rfl) rfl ?_ ?_
     rotate_left
     ·
      go_simp
      rfl
     refine hK.out _ _ ?_
     clear hK K
     refine done_ (done_of HT_.out (by kernel_rfl)) ?_
     try go_wp2
     go_ret
     exact ⟨_, by rfl, by exact HQ11.out, by repeat ((with_reducible first | exact HB.out | refine below_set ?_ GB8.out))⟩
    ·
     rw [if_neg c7] at H
     exact absurd H (by simp)
   ·
    rw [if_neg c6] at H
    exact absurd H (by simp)
  ·
   rw [if_neg c5] at H
   exact absurd H (by simp)
 ·
  rw [if_neg c4] at H
  exact absurd H (by simp)

/-! ### peristyleref25_Add: function 115 -/
def peristyleref25_Add.f (k : Nat) (l0 : List (S63)) (a1 : ByteArray) (a2_0 : ByteArray) (l2_1 : List Int) (a2_2 : Int) : Option ((List (S63)) × Int) := (peristyleref25_May.f k l0).bind fun t177 => (if t177 = true then ((peristyleref25_Find.f k l0 a1).bind fun t178 => (if t178 < 0 then (some (([] : List (S63)), 3)) else (if 0 ≤ t178 then (if t178 < (l0.length : Int) then ((peristyleref25_Projection.f k a2_0 l2_1 a2_2 (((rd_T63 l0 t178).f1).length : Int)).bind fun t180 => (if t180 = true then ((peristyleref25_projection.f k ((rd_T63 l0 t178).f0) ((rd_T63 l0 t178).f1) ((rd_T63 l0 t178).f2) a2_0).bind fun t182 => (if t182 ≥ 0 then (some (([] : List (S63)), 251)) else (if (((rd_T63 l0 t178).f2).length : Int) ≥ 6 then (some (([] : List (S63)), 4)) else (if ([] : List (S138)).length + ((rd_T63 l0 t178).f2).length < 2932031007402 then ((some (([] : List (S138)) ++ ((rd_T63 l0 t178).f2) : List (S138))).bind fun y185 => (if y185.length < 2932031007402 then ((peristyleref25_with.f l0 t178 (y185 ++ [(⟨a2_0, l2_1, a2_2⟩ : S138)])).bind fun t191 => (some (t191, 0))) else (none))) else (none))))) else (some (([] : List (S63)), 1)))) else (none)) else (none)))) else (some (([] : List (S63)), 1)))
theorem peristyleref25_Add.mono : ∀ a0 a1 a2 a3 a4 k, LeO (peristyleref25_Add.f k a0 a1 a2 a3 a4) (peristyleref25_Add.f (k + 1) a0 a1 a2 a3 a4) := by
 intro a0 a1 a2 a3 a4 k
 unfold peristyleref25_Add.f
 repeat' first
   | (with_reducible exact peristyleref25_Find.mono _ _ _)
   | (with_reducible exact peristyleref25_May.mono _ _)
   | (with_reducible exact peristyleref25_Projection.mono _ _ _ _ _)
   | (with_reducible exact peristyleref25_projection.mono _ _ _ _ _)
   | (with_reducible exact LeO.refl _)
   | (with_reducible exact LeO.none _)
   | (with_reducible refine LeO.ite ?_ ?_)
   | (with_reducible refine LeO.bind ?_ (fun _ => ?_))
   | exact peristyleref25_Find.mono _ _ _
   | exact peristyleref25_May.mono _ _
   | exact peristyleref25_Projection.mono _ _ _ _ _
   | exact peristyleref25_projection.mono _ _ _ _ _
   | exact LeO.none _
   | refine LeO.ite ?_ ?_
   | refine LeO.bind ?_ (fun _ => ?_)
def peristyleref25_Add.T6 : Bool × List (List Nat × List Nat) := (true, [([], []), ([], []), ([], []), ([1, 2], [1, 2]), ([3], [3]), ([4], [4]), ([5], [5]), ([0, 6], [0, 6]), ([7], [7])])
def peristyleref25_Add.B6 : List Nat := [0, 0, 0, 6, 14, 30, 62, 127, 255]
theorem peristyleref25_Add.tab6 : rtab .any (opsOf Try.f115 6) = peristyleref25_Add.T6 := by kernel_rfl
theorem peristyleref25_Add.bits6 : waitsOk peristyleref25_Add.T6.2 peristyleref25_Add.B6 = true := by kernel_rfl
def peristyleref25_Add.T8 : Bool × List (List Nat × List Nat) := (true, [([], []), ([], []), ([0, 1], [0, 1]), ([2], [2]), ([], []), ([4], [4]), ([3, 5], [3, 5]), ([6], [6])])
def peristyleref25_Add.B8 : List Nat := [0, 0, 3, 7, 0, 16, 63, 127]
theorem peristyleref25_Add.tab8 : rtab .any (opsOf Try.f115 8) = peristyleref25_Add.T8 := by kernel_rfl
theorem peristyleref25_Add.bits8 : waitsOk peristyleref25_Add.T8.2 peristyleref25_Add.B8 = true := by kernel_rfl
set_option maxHeartbeats 8000000 in
set_option maxRecDepth 100000 in
theorem peristyleref25_Add.calls (k : Nat) (P0_ : Nat → Prop) (A0 : Option Addr) (c0 : Nat) (l0 : List (S63)) (a1 : ByteArray) (a2_0 : ByteArray) (P2_1_ : Nat → Prop) (A2_1 : Option Addr) (c2_1 : Nat) (l2_1 : List Int) (a2_2 : Int) (r1 : List (S63)) (r2 : Int) (w : World) (hs0 : Kd.V k63 63 w w.heap.size (fun k_ => P0_ k_) (.slice A0 l0.length c0) l0) (hs2_1 : Kd.V (Kd.int .i64) 3 w w.heap.size (fun k_ => P2_1_ k_) (.slice A2_1 l2_1.length c2_1) l2_1) (h : peristyleref25_Add.f k l0 a1 a2_0 l2_1 a2_2 = some (r1, r2)) :
  Calls Try.prog 115 #[.slice A0 l0.length c0, .string a1, .agg #[.string a2_0, .slice A2_1 l2_1.length c2_1, .int .i64 a2_2]] w fun e w' => ∃ v0_ : Value, e = .returned (.tuple #[v0_, .int .i64 r2]) ∧ Kd.N k63 63 w' w.heap.size (fun k_ => ((P0_ k_ ∨ P2_1_ k_) ∨ w.heap.size ≤ k_)) v0_ r1 ∧ Below w.heap.size w w' := by
 have hu138 := Try.underlying138
 have hu63 := Try.underlying63
 have HO0 := Aside0.mk (show Kd.V k63 63 w w.heap.size (fun k_ => ((P0_ k_ ∨ P2_1_ k_) ∨ w.heap.size ≤ k_)) (.slice A0 l0.length c0) l0 from Kd.V_mono hs0 (fun k_ hk => .inl (.inl hk)))
 have HO2_1 := Aside0.mk (show Kd.V (Kd.int .i64) 3 w w.heap.size (fun k_ => ((P0_ k_ ∨ P2_1_ k_) ∨ w.heap.size ≤ k_)) (.slice A2_1 l2_1.length c2_1) l2_1 from Kd.V_mono hs2_1 (fun k_ hk => .inl (.inr hk)))
 have HB := Aside0.mk (Below.refl w.heap.size w)
 have H : ((peristyleref25_May.f k l0).bind fun t177 => (if t177 = true then ((peristyleref25_Find.f k l0 a1).bind fun t178 => (if t178 < 0 then (some (([] : List (S63)), 3)) else (if 0 ≤ t178 then (if t178 < (l0.length : Int) then ((peristyleref25_Projection.f k a2_0 l2_1 a2_2 (((rd_T63 l0 t178).f1).length : Int)).bind fun t180 => (if t180 = true then ((peristyleref25_projection.f k ((rd_T63 l0 t178).f0) ((rd_T63 l0 t178).f1) ((rd_T63 l0 t178).f2) a2_0).bind fun t182 => (if t182 ≥ 0 then (some (([] : List (S63)), 251)) else (if (((rd_T63 l0 t178).f2).length : Int) ≥ 6 then (some (([] : List (S63)), 4)) else (if ([] : List (S138)).length + ((rd_T63 l0 t178).f2).length < 2932031007402 then ((some (([] : List (S138)) ++ ((rd_T63 l0 t178).f2) : List (S138))).bind fun y185 => (if y185.length < 2932031007402 then ((peristyleref25_with.f l0 t178 (y185 ++ [(⟨a2_0, l2_1, a2_2⟩ : S138)])).bind fun t191 => (some (t191, 0))) else (none))) else (none))))) else (some (([] : List (S63)), 1)))) else (none)) else (none)))) else (some (([] : List (S63)), 1)))) = some (r1, r2) := h
 clear h
 replace H := Option.bind_eq_some_iff.mp H
 obtain ⟨t177, A40, H⟩ := H
 try dsimp only at H
 have A4 := Aside0.mk A40
 clear A40
 by_cases c5 : t177 = true
 ·
  subst c5
  have H1 : ((peristyleref25_Find.f k l0 a1).bind fun t178 => (if t178 < 0 then (some (([] : List (S63)), 3)) else (if 0 ≤ t178 then (if t178 < (l0.length : Int) then ((peristyleref25_Projection.f k a2_0 l2_1 a2_2 (((rd_T63 l0 t178).f1).length : Int)).bind fun t180 => (if t180 = true then ((peristyleref25_projection.f k ((rd_T63 l0 t178).f0) ((rd_T63 l0 t178).f1) ((rd_T63 l0 t178).f2) a2_0).bind fun t182 => (if t182 ≥ 0 then (some (([] : List (S63)), 251)) else (if (((rd_T63 l0 t178).f2).length : Int) ≥ 6 then (some (([] : List (S63)), 4)) else (if ([] : List (S138)).length + ((rd_T63 l0 t178).f2).length < 2932031007402 then ((some (([] : List (S138)) ++ ((rd_T63 l0 t178).f2) : List (S138))).bind fun y185 => (if y185.length < 2932031007402 then ((peristyleref25_with.f l0 t178 (y185 ++ [(⟨a2_0, l2_1, a2_2⟩ : S138)])).bind fun t191 => (some (t191, 0))) else (none))) else (none))))) else (some (([] : List (S63)), 1)))) else (none)) else (none)))) = some (r1, r2) := by rw [if_pos rfl] at H; exact H
  clear H
  have H := H1
  clear H1
  replace H := Option.bind_eq_some_iff.mp H
  obtain ⟨t178, A60, H⟩ := H
  try dsimp only at H
  have A6 := Aside0.mk A60
  clear A60
  by_cases c7 : t178 < 0
  ·
   rw [if_pos c7] at H
   have c7b0 : decide (t178 < 0) = true := decide_eq_true c7
   clear c7
   simp only [Option.some.injEq, Prod.mk.injEq] at H
   obtain ⟨rfl, rfl⟩ := H
   go_enter Try.func115, Try.ntmps115
   go_wp2_with (first | ((with_reducible refine gate_dst (N := 5) rfl ?_); refine box_event ?hg (N := 5) ?hd (cs := #[.string a2_0, .slice A2_1 l2_1.length c2_1, .int .i64 a2_2]) (t := 138) ?hr ?_; (case hd => rfl); (case hg => rfl); (case hr => (go_simp; done)); intro gb176 hg w8 hbox hb; have n0_ := Aside0.mk (Kd.V_below (Kd.V_elderB HO0.out gb176 (Nat.le_of_eq hg.symm)) hb); have n1_ := Aside0.mk (Kd.V_below (Kd.V_elderB HO2_1.out gb176 (Nat.le_of_eq hg.symm)) hb); have n2_ := Aside0.mk (below_step HB.out hb); have n3_ := Aside0.mk (hbox); have n4_ := Aside0.mk ((by rw [hg]; exact (below_size HB.out) : w.heap.size ≤ gb176)); have n5_ := Aside0.mk ((by rw [hg]; exact (below_size HB.out) : w.heap.size ≤ gb176)); clear HO0 HO2_1 HB; have HO0 := n0_; have HO2_1 := n1_; have HB := n2_; have BK176 := n3_; have GW176 := n4_; have GE176 := n5_; clear n0_ n1_ n2_ n3_ n4_ n5_ hb hbox hg) | ((with_reducible refine gate_callee (f := 35) rfl ?_); refine goesL_ (some 11) rfl rfl Try.func35 (by kernel_rfl) rfl #[.slice A0 l0.length c0] rfl (by (try simp only [List.map_toArray, List.map_cons, List.map_nil]); rfl) ?_; (with_reducible refine (peristyleref25_May.calls k _ _ l0 true _ ?side1 ?side2 A4.out).mono ?_); (case side1 => repeat (exact (Kd.V_reads' HO0.out).2.2)); (case side2 => exact (Kd.V_reads' HO0.out).2.1); rintro e w9 ⟨rfl, hb⟩; refine ⟨_, rfl, ?_⟩; have n0_ := Aside0.mk (Kd.V_below HO0.out hb); have n1_ := Aside0.mk (Kd.V_below HO2_1.out hb); have n2_ := Aside0.mk (blk_below (g := gb176) (o := .cells #[.string a2_0, .slice A2_1 l2_1.length c2_1, .int .i64 a2_2] 138 (0, 0)) BK176.out hb); have n3_ := Aside0.mk (below_step HB.out hb); clear HO0 HO2_1 BK176 HB; have HO0 := n0_; have HO2_1 := n1_; have BK176 := n2_; have HB := n3_; clear n0_ n1_ n2_ n3_; (try clear hb)) | ((with_reducible refine gate_callee (f := 146) rfl ?_); refine goesL_ (some 15) rfl rfl Try.func146 (by kernel_rfl) rfl #[.slice A0 l0.length c0, .string a1] rfl (by (try simp only [List.map_toArray, List.map_cons, List.map_nil]); rfl) ?_; (with_reducible refine (peristyleref25_Find.calls k _ _ l0 a1 t178 _ ?side1 ?side2 A6.out).mono ?_); (case side1 => repeat (exact (Kd.V_reads' HO0.out).2.2)); (case side2 => exact (Kd.V_reads' HO0.out).2.1); rintro e w' ⟨rfl, ⟨nd, rfl⟩⟩; refine ⟨_, rfl, ?_⟩))
   go_ret2
   exact ⟨_, by rfl, by exact Kd.N_nil _ _ _ _ _, by repeat ((with_reducible first | exact HB.out | apply pw_below_drewN))⟩
  ·
   rw [if_neg c7] at H
   have c7b0 : decide (t178 < 0) = false := decide_eq_false c7
   clear c7
   by_cases c10 : 0 ≤ t178
   ·
    rw [if_pos c10] at H
    have c10b0 : decide (0 ≤ t178) = true := decide_eq_true c10
    clear c10
    by_cases c11 : t178 < (l0.length : Int)
    ·
     rw [if_pos c11] at H
     have c11b0 : decide (t178 < (l0.length : Int)) = true := decide_eq_true c11
     clear c11
     replace H := Option.bind_eq_some_iff.mp H
     obtain ⟨t180, A120, H⟩ := H
     try dsimp only at H
     have A12 := Aside0.mk A120
     clear A120
     by_cases c13 : t180 = true
     ·
      subst c13
      have H1 : ((peristyleref25_projection.f k ((rd_T63 l0 t178).f0) ((rd_T63 l0 t178).f1) ((rd_T63 l0 t178).f2) a2_0).bind fun t182 => (if t182 ≥ 0 then (some (([] : List (S63)), 251)) else (if (((rd_T63 l0 t178).f2).length : Int) ≥ 6 then (some (([] : List (S63)), 4)) else (if ([] : List (S138)).length + ((rd_T63 l0 t178).f2).length < 2932031007402 then ((some (([] : List (S138)) ++ ((rd_T63 l0 t178).f2) : List (S138))).bind fun y185 => (if y185.length < 2932031007402 then ((peristyleref25_with.f l0 t178 (y185 ++ [(⟨a2_0, l2_1, a2_2⟩ : S138)])).bind fun t191 => (some (t191, 0))) else (none))) else (none))))) = some (r1, r2) := by rw [if_pos rfl] at H; exact H
      clear H
      have H := H1
      clear H1
      replace H := Option.bind_eq_some_iff.mp H
      obtain ⟨t182, A140, H⟩ := H
      try dsimp only at H
      have A14 := Aside0.mk A140
      clear A140
      by_cases c15 : t182 ≥ 0
      ·
       rw [if_pos c15] at H
       have c15b0 : decide (0 ≤ t182) = true := decide_eq_true c15
       clear c15
       simp only [Option.some.injEq, Prod.mk.injEq] at H
       obtain ⟨rfl, rfl⟩ := H
       go_enter Try.func115, Try.ntmps115
       try go_wp2_with (first | ((with_reducible refine gate_dst (N := 5) rfl ?_); refine box_event ?hg (N := 5) ?hd (cs := #[.string a2_0, .slice A2_1 l2_1.length c2_1, .int .i64 a2_2]) (t := 138) ?hr ?_; (case hd => rfl); (case hg => rfl); (case hr => (go_simp; done)); intro gb176 hg w16 hbox hb; have n0_ := Aside0.mk (Kd.V_below (Kd.V_elderB HO0.out gb176 (Nat.le_of_eq hg.symm)) hb); have n1_ := Aside0.mk (Kd.V_below (Kd.V_elderB HO2_1.out gb176 (Nat.le_of_eq hg.symm)) hb); have n2_ := Aside0.mk (below_step HB.out hb); have n3_ := Aside0.mk (hbox); have n4_ := Aside0.mk ((by rw [hg]; exact (below_size HB.out) : w.heap.size ≤ gb176)); have n5_ := Aside0.mk ((by rw [hg]; exact (below_size HB.out) : w.heap.size ≤ gb176)); clear HO0 HO2_1 HB; have HO0 := n0_; have HO2_1 := n1_; have HB := n2_; have BK176 := n3_; have GW176 := n4_; have GE176 := n5_; clear n0_ n1_ n2_ n3_ n4_ n5_ hb hbox hg) | ((with_reducible refine gate_callee (f := 35) rfl ?_); refine goesL_ (some 11) rfl rfl Try.func35 (by kernel_rfl) rfl #[.slice A0 l0.length c0] rfl (by (try simp only [List.map_toArray, List.map_cons, List.map_nil]); rfl) ?_; (with_reducible refine (peristyleref25_May.calls k _ _ l0 true _ ?side1 ?side2 A4.out).mono ?_); (case side1 => repeat (exact (Kd.V_reads' HO0.out).2.2)); (case side2 => exact (Kd.V_reads' HO0.out).2.1); rintro e w17 ⟨rfl, hb⟩; refine ⟨_, rfl, ?_⟩; have n0_ := Aside0.mk (Kd.V_below HO0.out hb); have n1_ := Aside0.mk (Kd.V_below HO2_1.out hb); have n2_ := Aside0.mk (blk_below (g := gb176) (o := .cells #[.string a2_0, .slice A2_1 l2_1.length c2_1, .int .i64 a2_2] 138 (0, 0)) BK176.out hb); have n3_ := Aside0.mk (below_step HB.out hb); clear HO0 HO2_1 BK176 HB; have HO0 := n0_; have HO2_1 := n1_; have BK176 := n2_; have HB := n3_; clear n0_ n1_ n2_ n3_; (try clear hb)) | ((with_reducible refine gate_callee (f := 146) rfl ?_); refine goesL_ (some 15) rfl rfl Try.func146 (by kernel_rfl) rfl #[.slice A0 l0.length c0, .string a1] rfl (by (try simp only [List.map_toArray, List.map_cons, List.map_nil]); rfl) ?_; (with_reducible refine (peristyleref25_Find.calls k _ _ l0 a1 t178 _ ?side1 ?side2 A6.out).mono ?_); (case side1 => repeat (exact (Kd.V_reads' HO0.out).2.2)); (case side2 => exact (Kd.V_reads' HO0.out).2.1); rintro e w' ⟨rfl, ⟨nd, rfl⟩⟩; refine ⟨_, rfl, ?_⟩))
       (try (rw [drewN_self w17]; generalize hq_ : World.drewN w17 _ = w17; have n0_ : Aside0 (Kd.V k63 63 w17 w.heap.size (fun k_ => ((P0_ k_ ∨ P2_1_ k_) ∨ w.heap.size ≤ k_) ∧ k_ ≠ gb176) (.slice A0 l0.length c0) l0) := ⟨by rw [← hq_]; exact (by (with_reducible repeat apply Kd.V_drewN); exact HO0.out)⟩; have n1_ : Aside0 (Kd.V (Kd.int .i64) 3 w17 w.heap.size (fun k_ => ((P0_ k_ ∨ P2_1_ k_) ∨ w.heap.size ≤ k_) ∧ k_ ≠ gb176) (.slice A2_1 l2_1.length c2_1) l2_1) := ⟨by rw [← hq_]; exact (by (with_reducible repeat apply Kd.V_drewN); exact HO2_1.out)⟩; have n2_ : Aside0 (w17.heap[gb176]? = some (.cells #[.string a2_0, .slice A2_1 l2_1.length c2_1, .int .i64 a2_2] 138 (0, 0))) := ⟨by rw [← hq_]; exact (by (with_reducible repeat (refine blk_drewN ?_ _)); exact BK176.out)⟩; have n3_ : Aside0 (Below w.heap.size w w17) := ⟨by rw [← hq_]; exact (by repeat ((with_reducible first | exact HB.out | apply pw_below_drewN)))⟩; clear HO0 HO2_1 BK176 HB hq_; have HO0 := n0_; have HO2_1 := n1_; have BK176 := n2_; have HB := n3_; clear n0_ n1_ n2_ n3_))
       have n0_ := Aside0.mk (Kd.V_drew HO0.out)
       have n1_ := Aside0.mk (Kd.V_drew HO2_1.out)
       have n2_ := Aside0.mk (blk_drew BK176.out)
       have n3_ := Aside0.mk (below_drew1 HB.out)
       clear HO0
       clear HO2_1
       clear BK176
       clear HB
       have HO0 := n0_
       have HO2_1 := n1_
       have BK176 := n2_
       have HB := n3_
       clear n0_ n1_ n2_ n3_
       have p179 : 0 ≤ (t178 : Int) := of_decide_eq_true (by (with_reducible assumption))
       have q179 : t178 < (l0.length : Int) := of_decide_eq_true (by (with_reducible assumption))
       obtain ⟨ad179, A179_1, c179_1, A179_2, c179_2, e179, hx179_0, hx179_1, hx179_2, hl179_1, hi179_1, hl179_2, hi179_2⟩ := at_T63 (Kd.V_reads' HO0.out).2.2 t178 p179 q179
       cases e179
       obtain ⟨ce179, hce179, hMe179, hcc179⟩ := Kd.V_get HO0.out z63 t178 p179 q179
       obtain ⟨ua179_1, uc179_1, ua179_2, uc179_2, rfl, ul179_1, ge179_1, ul179_2, ge179_2⟩ := k63_openF hMe179
       have hv179_1 := hcc179 1 _ rfl
       rw [add_field _ _ 1 (by omega)] at hv179_1
       replace hv179_1 := Option.some.inj (hv179_1.symm.trans hx179_1)
       injection hv179_1 with hva_ hvn_ hvc_
       rw [hva_] at ge179_1
       rw [hvc_] at ul179_1
       have HL179_1 := Aside0.mk (show Kd.V k177 177 _ w.heap.size _ _ ((rd_T63 l0 t178).f1) from Kd.V_mk ul179_1 ge179_1)
       clear hva_ hvn_ hvc_ ge179_1 ul179_1
       have hv179_2 := hcc179 2 _ rfl
       rw [add_field _ _ 2 (by omega)] at hv179_2
       replace hv179_2 := Option.some.inj (hv179_2.symm.trans hx179_2)
       injection hv179_2 with hva_ hvn_ hvc_
       rw [hva_] at ge179_2
       rw [hvc_] at ul179_2
       have HL179_2 := Aside0.mk (show Kd.V k138 138 _ w.heap.size _ _ ((rd_T63 l0 t178).f2) from Kd.V_mk ul179_2 ge179_2)
       clear hva_ hvn_ hvc_ ge179_2 ul179_2
       clear hcc179 hce179
       have HR179_1 := Aside0.mk hi179_1
       have HC179_1 := Aside0.mk hl179_1
       clear hi179_1 hl179_1
       have HR179_2 := Aside0.mk hi179_2
       have HC179_2 := Aside0.mk hl179_2
       clear hi179_2 hl179_2
       replace p179 := eq_true p179
       replace q179 := eq_true q179
       refine start_ (n := 9) (S := fun w' => w'.cell? ⟨gb176, 0, none⟩ = some (.string a2_0) ∧ w'.cell? ⟨gb176, 1, none⟩ = some (.slice A2_1 l2_1.length c2_1) ∧ w'.cell? ⟨gb176, 2, none⟩ = some (.int .i64 a2_2) ∧ w'.cell? (ad179.add ((t178).toNat * 3)) = some (.string ((rd_T63 l0 t178).f0)) ∧ w'.cell? ⟨(ad179.add ((t178).toNat * 3)).block, (ad179.add ((t178).toNat * 3)).off + 1, none⟩ = some (.slice A179_1 ((rd_T63 l0 t178).f1).length c179_1) ∧ w'.cell? ⟨(ad179.add ((t178).toNat * 3)).block, (ad179.add ((t178).toNat * 3)).off + 2, none⟩ = some (.slice A179_2 ((rd_T63 l0 t178).f2).length c179_2)) (ds := []) #[Z,Z,Z,Z,Z,Z,Z,Z,Z] (by kernel_rfl) rfl rfl ⟨(blk_cell BK176.out 0).trans rfl, (blk_cell BK176.out 1).trans rfl, (blk_cell BK176.out 2).trans rfl, hx179_0, hx179_1, hx179_2⟩ (fun hHeld => ?_); refine with_tabW peristyleref25_Add.tab6 peristyleref25_Add.bits6 (fun HT_ HW_ => ?_)
       generalize w17.drew = w18 at HO0 HO2_1 BK176 HB HL179_1 HL179_2 HR179_1 HR179_2 hx179_0 hx179_1 hx179_2 hHeld ⊢
       refine pure_ (i := 1) (N := some 19) (v := ?_) (a' := ?_) #[Z,Y,Z,Z,Z,Z,Z,Z,Z] rfl rfl (any_of HT_.out (by kernel_rfl)) (fun _ _ _ h => h) (Or.inl ⟨by rfl, ?_⟩) ?_ ?_
       rotate_left
       ·
        intro w'
        go_simp
        with_reducible rfl
       rotate_left
       ·
        simp only [Act.put, List.setIfInBounds_toArray, List.set_cons_zero, List.set_cons_succ, i64_w, i32_w]
        rfl
       refine pure_ (i := 2) (N := some 20) (v := ?_) (a' := ?_) #[Z,Y,Y,Z,Z,Z,Z,Z,Z] rfl rfl (any_of HT_.out (by kernel_rfl)) (fun _ _ _ h => h) (Or.inl ⟨by rfl, ?_⟩) ?_ ?_
       rotate_left
       ·
        intro w'
        go_simp
        with_reducible rfl
       rotate_left
       ·
        simp only [Act.put, List.setIfInBounds_toArray, List.set_cons_zero, List.set_cons_succ, i64_w, i32_w]
        rfl
       refine pure_ (i := 3) (N := some 21) (v := ?_) (a' := ?_) #[Z,Y,Y,Y,Z,Z,Z,Z,Z] rfl rfl (any_of HT_.out (by kernel_rfl)) (fun _ _ _ h => h) (Or.inl ⟨by rfl, ?_⟩) ?_ ?_
       rotate_left
       ·
        intro w'
        go_simp
        with_reducible rfl
       rotate_left
       ·
        simp only [Act.put, List.setIfInBounds_toArray, List.set_cons_zero, List.set_cons_succ, i64_w, i32_w]
        rfl
       refine pure_ (i := 4) (N := some 22) (v := ?_) (a' := ?_) #[Z,Y,Y,Y,Y,Z,Z,Z,Z] rfl rfl (any_of HT_.out (by kernel_rfl)) (fun _ _ _ h => h) (Or.inl ⟨by rfl, ?_⟩) ?_ ?_
       rotate_left
       ·
        intro w'
        go_simp
        with_reducible rfl
       rotate_left
       ·
        simp only [Act.put, List.setIfInBounds_toArray, List.set_cons_zero, List.set_cons_succ, i64_w, i32_w]
        rfl
       refine take_ (i := 0) (N := some 18) (v := ?_) (a' := ?_) #[Y,Y,Y,Y,Y,Z,Z,Z,Z] rfl rfl (take_ofW HT_.out HW_.out (by kernel_rfl)) (fun _ _ _ h => h) (Or.inl ⟨by rfl, ?_⟩) hHeld ?_ ?_
       rotate_left
       ·
        rintro w' ⟨s0, s1, s2, s3, s4, s5⟩
        go_simp
        with_reducible rfl
       rotate_left
       ·
        simp only [Act.put, List.setIfInBounds_toArray, List.set_cons_zero, List.set_cons_succ, i64_w, i32_w]
        rfl
       refine take_ (i := 5) (N := some 23) (v := ?_) (a' := ?_) #[Y,Y,Y,Y,Y,Y,Z,Z,Z] rfl rfl (take_ofW HT_.out HW_.out (by kernel_rfl)) (fun _ _ _ h => h) (Or.inl ⟨by rfl, ?_⟩) hHeld ?_ ?_
       rotate_left
       ·
        rintro w' ⟨s0, s1, s2, s3, s4, s5⟩
        go_simp
        with_reducible rfl
       rotate_left
       ·
        simp only [Act.put, List.setIfInBounds_toArray, List.set_cons_zero, List.set_cons_succ, i64_w, i32_w]
        rfl
       refine pure_ (i := 6) (N := some 24) (v := ?_) (a' := ?_) #[Y,Y,Y,Y,Y,Y,Y,Z,Z] rfl rfl (any_of HT_.out (by kernel_rfl)) (fun _ _ _ h => h) (Or.inl ⟨by rfl, ?_⟩) ?_ ?_
       rotate_left
       ·
        intro w'
        go_simp
        with_reducible rfl
       rotate_left
       ·
        simp only [Act.put, List.setIfInBounds_toArray, List.set_cons_zero, List.set_cons_succ, i64_w, i32_w]
        rfl
       refine one_ (i := 7) (N := some 25) #[Y,Y,Y,Y,Y,Y,Y,Y,Z] rfl rfl (one_of HT_.out (by kernel_rfl)) (by decide) (fun K hK => ?_)
       refine goes_ Try.func131 (by kernel_rfl) rfl #[.agg #[.string a2_0, .slice A2_1 l2_1.length c2_1, .int .i64 a2_2], .int .i64 (((rd_T63 l0 t178).f1).length : Int)] (by rfl) rfl rfl (by (try simp only [List.map_toArray, List.map_cons, List.map_nil]); rfl) ?_
       with_reducible refine (peristyleref25_Projection.calls k a2_0 _ _ l2_1 a2_2 (((rd_T63 l0 t178).f1).length : Int) true _ ?side1 ?side2 A12.out).mono ?_
       (case side1 => repeat (exact (Kd.V_reads' HO2_1.out).2.2))
       (case side2 => exact (Kd.V_reads' HO2_1.out).2.1)
       rintro e w19 ⟨rfl, hb⟩
       have HS3_ := (hb.cell (World.block_lt_of_cell? _ _ (hHeld.2.2.2.1))).trans (hHeld.2.2.2.1)
       have HS4_ := (hb.cell (World.block_lt_of_cell? _ _ (hHeld.2.2.2.2.1))).trans (hHeld.2.2.2.2.1)
       have HS5_ := (hb.cell (World.block_lt_of_cell? _ _ (hHeld.2.2.2.2.2))).trans (hHeld.2.2.2.2.2)
       refine ⟨_, rfl, ?_⟩
       have n0_ := Aside0.mk (Kd.V_below HO0.out hb)
       have n1_ := Aside0.mk (Kd.V_below HO2_1.out hb)
       have n2_ := Aside0.mk (Kd.V_below HL179_1.out hb)
       have n3_ := Aside0.mk (Kd.V_below HL179_2.out hb)
       have n4_ := Aside0.mk (blk_below (g := gb176) (o := .cells #[.string a2_0, .slice A2_1 l2_1.length c2_1, .int .i64 a2_2] 138 (0, 0)) BK176.out hb)
       have n5_ := Aside0.mk (Kd.C_below HR179_1.out hb)
       have n6_ := Aside0.mk (Kd.C_below HR179_2.out hb)
       have n7_ := Aside0.mk (below_step HB.out hb)
       clear HO0
       clear HO2_1
       clear HL179_1
       clear HL179_2
       clear BK176
       clear HR179_1
       clear HR179_2
       clear HB
       have HO0 := n0_
       have HO2_1 := n1_
       have HL179_1 := n2_
       have HL179_2 := n3_
       have BK176 := n4_
       have HR179_1 := n5_
       have HR179_2 := n6_
       have HB := n7_
       clear n0_ n1_ n2_ n3_ n4_ n5_ n6_ n7_
       (try clear hb)
       refine hK.out _ _ ⟨(blk_cell BK176.out 0).trans rfl, (blk_cell BK176.out 1).trans rfl, (blk_cell BK176.out 2).trans rfl, HS3_, HS4_, HS5_⟩ (fun hHeld => ?_)
       clear hK K
       refine norm_ (a' := ?_) ?_ ?_
       rotate_left
       ·
        show Act.put _ (some 25) _ = _
        simp only [Act.put, List.setIfInBounds_toArray, List.set_cons_zero, List.set_cons_succ, i64_w, i32_w]
        rfl
       refine pure_ (i := 8) (N := some 26) (v := ?_) (a' := ?_) #[Y,Y,Y,Y,Y,Y,Y,Y,Y] rfl rfl (any_of HT_.out (by kernel_rfl)) (fun _ _ _ h => h) (Or.inl ⟨by rfl, ?_⟩) ?_ ?_
       rotate_left
       ·
        intro w'
        go_simp
        with_reducible rfl
       rotate_left
       ·
        simp only [Act.put, List.setIfInBounds_toArray, List.set_cons_zero, List.set_cons_succ, i64_w, i32_w]
        rfl
       refine done_ (done_of HT_.out (by kernel_rfl)) ?_
       try go_wp2
       have n0_ := Aside0.mk (Kd.V_drew HO0.out)
       have n1_ := Aside0.mk (Kd.V_drew HO2_1.out)
       have n2_ := Aside0.mk (Kd.V_drew HL179_1.out)
       have n3_ := Aside0.mk (Kd.V_drew HL179_2.out)
       have n4_ := Aside0.mk (blk_drew BK176.out)
       have n5_ := Aside0.mk (Kd.C_drew HR179_1.out)
       have n6_ := Aside0.mk (Kd.C_drew HR179_2.out)
       have n7_ := Aside0.mk (below_drew1 HB.out)
       clear HO0
       clear HO2_1
       clear HL179_1
       clear HL179_2
       clear BK176
       clear HR179_1
       clear HR179_2
       clear HB
       have HO0 := n0_
       have HO2_1 := n1_
       have HL179_1 := n2_
       have HL179_2 := n3_
       have BK176 := n4_
       have HR179_1 := n5_
       have HR179_2 := n6_
       have HB := n7_
       clear n0_ n1_ n2_ n3_ n4_ n5_ n6_ n7_
       have p181 : 0 ≤ (t178 : Int) := of_decide_eq_true (by (with_reducible assumption))
       have q181 : t178 < (l0.length : Int) := of_decide_eq_true (by (with_reducible assumption))
       obtain ⟨ad181, A181_1, c181_1, A181_2, c181_2, e181, hx181_0, hx181_1, hx181_2, hl181_1, hi181_1, hl181_2, hi181_2⟩ := at_T63 (Kd.V_reads' HO0.out).2.2 t178 p181 q181
       obtain rfl : ad179 = ad181 := (by injection e181)
       obtain ⟨ce181, hce181, hMe181, hcc181⟩ := Kd.V_get HO0.out z63 t178 p181 q181
       obtain ⟨ua181_1, uc181_1, ua181_2, uc181_2, rfl, ul181_1, ge181_1, ul181_2, ge181_2⟩ := k63_openF hMe181
       have hv181_1 := hcc181 1 _ rfl
       rw [add_field _ _ 1 (by omega)] at hv181_1
       replace hv181_1 := Option.some.inj (hv181_1.symm.trans hx181_1)
       injection hv181_1 with hva_ hvn_ hvc_
       rw [hva_] at ge181_1
       rw [hvc_] at ul181_1
       have HL181_1 := Aside0.mk (show Kd.V k177 177 _ w.heap.size _ _ ((rd_T63 l0 t178).f1) from Kd.V_mk ul181_1 ge181_1)
       clear hva_ hvn_ hvc_ ge181_1 ul181_1
       have hv181_2 := hcc181 2 _ rfl
       rw [add_field _ _ 2 (by omega)] at hv181_2
       replace hv181_2 := Option.some.inj (hv181_2.symm.trans hx181_2)
       injection hv181_2 with hva_ hvn_ hvc_
       rw [hva_] at ge181_2
       rw [hvc_] at ul181_2
       have HL181_2 := Aside0.mk (show Kd.V k138 138 _ w.heap.size _ _ ((rd_T63 l0 t178).f2) from Kd.V_mk ul181_2 ge181_2)
       clear hva_ hvn_ hvc_ ge181_2 ul181_2
       clear hcc181 hce181
       have HR181_1 := Aside0.mk hi181_1
       have HC181_1 := Aside0.mk hl181_1
       clear hi181_1 hl181_1
       have HR181_2 := Aside0.mk hi181_2
       have HC181_2 := Aside0.mk hl181_2
       clear hi181_2 hl181_2
       replace p181 := eq_true p181
       replace q181 := eq_true q181
       refine start_ (n := 8) (S := fun w' => w'.cell? ⟨gb176, 0, none⟩ = some (.string a2_0) ∧ w'.cell? ⟨gb176, 1, none⟩ = some (.slice A2_1 l2_1.length c2_1) ∧ w'.cell? ⟨gb176, 2, none⟩ = some (.int .i64 a2_2) ∧ w'.cell? (ad179.add ((t178).toNat * 3)) = some (.string ((rd_T63 l0 t178).f0)) ∧ w'.cell? ⟨(ad179.add ((t178).toNat * 3)).block, (ad179.add ((t178).toNat * 3)).off + 1, none⟩ = some (.slice A181_1 ((rd_T63 l0 t178).f1).length c181_1) ∧ w'.cell? ⟨(ad179.add ((t178).toNat * 3)).block, (ad179.add ((t178).toNat * 3)).off + 2, none⟩ = some (.slice A181_2 ((rd_T63 l0 t178).f2).length c181_2)) (ds := []) #[Z,Z,Z,Z,Z,Z,Z,Z] (by kernel_rfl) rfl rfl ⟨(blk_cell BK176.out 0).trans rfl, (blk_cell BK176.out 1).trans rfl, (blk_cell BK176.out 2).trans rfl, hx181_0, hx181_1, hx181_2⟩ (fun hHeld => ?_); refine with_tabW peristyleref25_Add.tab8 peristyleref25_Add.bits8 (fun HT_ HW_ => ?_)
       generalize w19.drew = w20 at HO0 HO2_1 HL179_1 HL179_2 BK176 HR179_1 HR179_2 HB HL181_1 HL181_2 HR181_1 HR181_2 hx181_0 hx181_1 hx181_2 hHeld ⊢
       refine pure_ (i := 0) (N := some 27) (v := ?_) (a' := ?_) #[Y,Z,Z,Z,Z,Z,Z,Z] rfl rfl (any_of HT_.out (by kernel_rfl)) (fun _ _ _ h => h) (Or.inl ⟨by rfl, ?_⟩) ?_ ?_
       rotate_left
       ·
        intro w'
        go_simp
        with_reducible rfl
       rotate_left
       ·
        simp only [Act.put, List.setIfInBounds_toArray, List.set_cons_zero, List.set_cons_succ, i64_w, i32_w]
        rfl
       refine pure_ (i := 1) (N := some 28) (v := ?_) (a' := ?_) #[Y,Y,Z,Z,Z,Z,Z,Z] rfl rfl (any_of HT_.out (by kernel_rfl)) (fun _ _ _ h => h) (Or.inl ⟨by rfl, ?_⟩) ?_ ?_
       rotate_left
       ·
        intro w'
        go_simp
        with_reducible rfl
       rotate_left
       ·
        simp only [Act.put, List.setIfInBounds_toArray, List.set_cons_zero, List.set_cons_succ, i64_w, i32_w]
        rfl
       refine pure_ (i := 2) (N := some 29) (v := ?_) (a' := ?_) #[Y,Y,Y,Z,Z,Z,Z,Z] rfl rfl (any_of HT_.out (by kernel_rfl)) (fun _ _ _ h => h) (Or.inl ⟨by rfl, ?_⟩) ?_ ?_
       rotate_left
       ·
        intro w'
        go_simp
        with_reducible rfl
       rotate_left
       ·
        simp only [Act.put, List.setIfInBounds_toArray, List.set_cons_zero, List.set_cons_succ, i64_w, i32_w]
        rfl
       refine pure_ (i := 4) (N := some 31) (v := ?_) (a' := ?_) #[Y,Y,Y,Z,Y,Z,Z,Z] rfl rfl (any_of HT_.out (by kernel_rfl)) (fun _ _ _ h => h) (Or.inl ⟨by rfl, ?_⟩) ?_ ?_
       rotate_left
       ·
        intro w'
        go_simp
        with_reducible rfl
       rotate_left
       ·
        simp only [Act.put, List.setIfInBounds_toArray, List.set_cons_zero, List.set_cons_succ, i64_w, i32_w]
        rfl
       refine take_ (i := 3) (N := some 30) (v := ?_) (a' := ?_) #[Y,Y,Y,Y,Y,Z,Z,Z] rfl rfl (take_ofW HT_.out HW_.out (by kernel_rfl)) (fun _ _ _ h => h) (Or.inl ⟨by rfl, ?_⟩) hHeld ?_ ?_
       rotate_left
       ·
        rintro w' ⟨s0, s1, s2, s3, s4, s5⟩
        go_simp
        with_reducible rfl
       rotate_left
       ·
        simp only [Act.put, List.setIfInBounds_toArray, List.set_cons_zero, List.set_cons_succ, i64_w, i32_w]
        rfl
       refine take_ (i := 5) (N := some 32) (v := ?_) (a' := ?_) #[Y,Y,Y,Y,Y,Y,Z,Z] rfl rfl (take_ofW HT_.out HW_.out (by kernel_rfl)) (fun _ _ _ h => h) (Or.inl ⟨by rfl, ?_⟩) hHeld ?_ ?_
       rotate_left
       ·
        rintro w' ⟨s0, s1, s2, s3, s4, s5⟩
        go_simp
        with_reducible rfl
       rotate_left
       ·
        simp only [Act.put, List.setIfInBounds_toArray, List.set_cons_zero, List.set_cons_succ, i64_w, i32_w]
        rfl
       refine one_ (i := 6) (N := some 33) #[Y,Y,Y,Y,Y,Y,Y,Z] rfl rfl (one_of HT_.out (by kernel_rfl)) (by decide) (fun K hK => ?_)
       refine goes_ Try.func147 (by kernel_rfl) rfl #[.agg #[.string ((rd_T63 l0 t178).f0), .slice A181_1 ((rd_T63 l0 t178).f1).length c181_1, .slice A181_2 ((rd_T63 l0 t178).f2).length c181_2], .string a2_0] (by rfl) rfl rfl (by (try simp only [List.map_toArray, List.map_cons, List.map_nil]); rfl) ?_
       with_reducible refine (peristyleref25_projection.calls k ((rd_T63 l0 t178).f0) _ _ ((rd_T63 l0 t178).f1) _ _ ((rd_T63 l0 t178).f2) a2_0 t182 _ ?side1 ?side2 ?side3 ?side4 A14.out).mono ?_
       (case side1 => repeat exact HR181_1.out)
       (case side2 => exact HC181_1.out)
       (case side3 => repeat exact HR181_2.out)
       (case side4 => exact HC181_2.out)
       rintro e w21 ⟨rfl, hb⟩
       have HS3_ := (hb.cell (World.block_lt_of_cell? _ _ (hHeld.2.2.2.1))).trans (hHeld.2.2.2.1)
       have HS4_ := (hb.cell (World.block_lt_of_cell? _ _ (hHeld.2.2.2.2.1))).trans (hHeld.2.2.2.2.1)
       have HS5_ := (hb.cell (World.block_lt_of_cell? _ _ (hHeld.2.2.2.2.2))).trans (hHeld.2.2.2.2.2)
       refine ⟨_, rfl, ?_⟩
       have n0_ := Aside0.mk (Kd.V_below HO0.out hb)
       have n1_ := Aside0.mk (Kd.V_below HO2_1.out hb)
       have n2_ := Aside0.mk (Kd.V_below HL179_1.out hb)
       have n3_ := Aside0.mk (Kd.V_below HL179_2.out hb)
       have n4_ := Aside0.mk (Kd.V_below HL181_1.out hb)
       have n5_ := Aside0.mk (Kd.V_below HL181_2.out hb)
       have n6_ := Aside0.mk (blk_below (g := gb176) (o := .cells #[.string a2_0, .slice A2_1 l2_1.length c2_1, .int .i64 a2_2] 138 (0, 0)) BK176.out hb)
       have n7_ := Aside0.mk (Kd.C_below HR179_1.out hb)
       have n8_ := Aside0.mk (Kd.C_below HR179_2.out hb)
       have n9_ := Aside0.mk (Kd.C_below HR181_1.out hb)
       have n10_ := Aside0.mk (Kd.C_below HR181_2.out hb)
       have n11_ := Aside0.mk (below_step HB.out hb)
       clear HO0
       clear HO2_1
       clear HL179_1
       clear HL179_2
       clear HL181_1
       clear HL181_2
       clear BK176
       clear HR179_1
       clear HR179_2
       clear HR181_1
       clear HR181_2
       clear HB
       have HO0 := n0_
       have HO2_1 := n1_
       have HL179_1 := n2_
       have HL179_2 := n3_
       have HL181_1 := n4_
       have HL181_2 := n5_
       have BK176 := n6_
       have HR179_1 := n7_
       have HR179_2 := n8_
       have HR181_1 := n9_
       have HR181_2 := n10_
       have HB := n11_
       clear n0_ n1_ n2_ n3_ n4_ n5_ n6_ n7_ n8_ n9_ n10_ n11_
       (try clear hb)
       refine hK.out _ _ ⟨(blk_cell BK176.out 0).trans rfl, (blk_cell BK176.out 1).trans rfl, (blk_cell BK176.out 2).trans rfl, HS3_, HS4_, HS5_⟩ (fun hHeld => ?_)
       clear hK K
       refine norm_ (a' := ?_) ?_ ?_
       rotate_left
       ·
        show Act.put _ (some 33) _ = _
        simp only [Act.put, List.setIfInBounds_toArray, List.set_cons_zero, List.set_cons_succ, i64_w, i32_w]
        rfl
       refine pure_ (i := 7) (N := some 34) (v := ?_) (a' := ?_) #[Y,Y,Y,Y,Y,Y,Y,Y] rfl rfl (any_of HT_.out (by kernel_rfl)) (fun _ _ _ h => h) (Or.inl ⟨by rfl, ?_⟩) ?_ ?_
       rotate_left
       ·
        intro w'
        go_simp
        with_reducible rfl
       rotate_left
       ·
        simp only [Act.put, List.setIfInBounds_toArray, List.set_cons_zero, List.set_cons_succ, i64_w, i32_w]
        rfl
       refine done_ (done_of HT_.out (by kernel_rfl)) ?_
       try go_wp2
       go_ret2
       exact ⟨_, by rfl, by exact Kd.N_nil _ _ _ _ _, by repeat exact HB.out⟩
      ·
       rw [if_neg c15] at H
       have c15b0 : decide (0 ≤ t182) = false := decide_eq_false c15
       clear c15
       by_cases c22 : (((rd_T63 l0 t178).f2).length : Int) ≥ 6
       ·
        rw [if_pos c22] at H
        have c22b0 : decide (6 ≤ (((rd_T63 l0 t178).f2).length : Int)) = true := decide_eq_true c22
        have c22b1 : decide (6 ≤ ((rd_T63 l0 t178).f2).length) = true := decide_eq_true (by omega)
        clear c22
        simp only [Option.some.injEq, Prod.mk.injEq] at H
        obtain ⟨rfl, rfl⟩ := H
        go_enter Try.func115, Try.ntmps115
        try go_wp2_with (first | ((with_reducible refine gate_dst (N := 5) rfl ?_); refine box_event ?hg (N := 5) ?hd (cs := #[.string a2_0, .slice A2_1 l2_1.length c2_1, .int .i64 a2_2]) (t := 138) ?hr ?_; (case hd => rfl); (case hg => rfl); (case hr => (go_simp; done)); intro gb176 hg w23 hbox hb; have n0_ := Aside0.mk (Kd.V_below (Kd.V_elderB HO0.out gb176 (Nat.le_of_eq hg.symm)) hb); have n1_ := Aside0.mk (Kd.V_below (Kd.V_elderB HO2_1.out gb176 (Nat.le_of_eq hg.symm)) hb); have n2_ := Aside0.mk (below_step HB.out hb); have n3_ := Aside0.mk (hbox); have n4_ := Aside0.mk ((by rw [hg]; exact (below_size HB.out) : w.heap.size ≤ gb176)); have n5_ := Aside0.mk ((by rw [hg]; exact (below_size HB.out) : w.heap.size ≤ gb176)); clear HO0 HO2_1 HB; have HO0 := n0_; have HO2_1 := n1_; have HB := n2_; have BK176 := n3_; have GW176 := n4_; have GE176 := n5_; clear n0_ n1_ n2_ n3_ n4_ n5_ hb hbox hg) | ((with_reducible refine gate_callee (f := 35) rfl ?_); refine goesL_ (some 11) rfl rfl Try.func35 (by kernel_rfl) rfl #[.slice A0 l0.length c0] rfl (by (try simp only [List.map_toArray, List.map_cons, List.map_nil]); rfl) ?_; (with_reducible refine (peristyleref25_May.calls k _ _ l0 true _ ?side1 ?side2 A4.out).mono ?_); (case side1 => repeat (exact (Kd.V_reads' HO0.out).2.2)); (case side2 => exact (Kd.V_reads' HO0.out).2.1); rintro e w24 ⟨rfl, hb⟩; refine ⟨_, rfl, ?_⟩; have n0_ := Aside0.mk (Kd.V_below HO0.out hb); have n1_ := Aside0.mk (Kd.V_below HO2_1.out hb); have n2_ := Aside0.mk (blk_below (g := gb176) (o := .cells #[.string a2_0, .slice A2_1 l2_1.length c2_1, .int .i64 a2_2] 138 (0, 0)) BK176.out hb); have n3_ := Aside0.mk (below_step HB.out hb); clear HO0 HO2_1 BK176 HB; have HO0 := n0_; have HO2_1 := n1_; have BK176 := n2_; have HB := n3_; clear n0_ n1_ n2_ n3_; (try clear hb)) | ((with_reducible refine gate_callee (f := 146) rfl ?_); refine goesL_ (some 15) rfl rfl Try.func146 (by kernel_rfl) rfl #[.slice A0 l0.length c0, .string a1] rfl (by (try simp only [List.map_toArray, List.map_cons, List.map_nil]); rfl) ?_; (with_reducible refine (peristyleref25_Find.calls k _ _ l0 a1 t178 _ ?side1 ?side2 A6.out).mono ?_); (case side1 => repeat (exact (Kd.V_reads' HO0.out).2.2)); (case side2 => exact (Kd.V_reads' HO0.out).2.1); rintro e w' ⟨rfl, ⟨nd, rfl⟩⟩; refine ⟨_, rfl, ?_⟩))
        (try (rw [drewN_self w24]; generalize hq_ : World.drewN w24 _ = w24; have n0_ : Aside0 (Kd.V k63 63 w24 w.heap.size (fun k_ => ((P0_ k_ ∨ P2_1_ k_) ∨ w.heap.size ≤ k_) ∧ k_ ≠ gb176) (.slice A0 l0.length c0) l0) := ⟨by rw [← hq_]; exact (by (with_reducible repeat apply Kd.V_drewN); exact HO0.out)⟩; have n1_ : Aside0 (Kd.V (Kd.int .i64) 3 w24 w.heap.size (fun k_ => ((P0_ k_ ∨ P2_1_ k_) ∨ w.heap.size ≤ k_) ∧ k_ ≠ gb176) (.slice A2_1 l2_1.length c2_1) l2_1) := ⟨by rw [← hq_]; exact (by (with_reducible repeat apply Kd.V_drewN); exact HO2_1.out)⟩; have n2_ : Aside0 (w24.heap[gb176]? = some (.cells #[.string a2_0, .slice A2_1 l2_1.length c2_1, .int .i64 a2_2] 138 (0, 0))) := ⟨by rw [← hq_]; exact (by (with_reducible repeat (refine blk_drewN ?_ _)); exact BK176.out)⟩; have n3_ : Aside0 (Below w.heap.size w w24) := ⟨by rw [← hq_]; exact (by repeat ((with_reducible first | exact HB.out | apply pw_below_drewN)))⟩; clear HO0 HO2_1 BK176 HB hq_; have HO0 := n0_; have HO2_1 := n1_; have BK176 := n2_; have HB := n3_; clear n0_ n1_ n2_ n3_))
        have n0_ := Aside0.mk (Kd.V_drew HO0.out)
        have n1_ := Aside0.mk (Kd.V_drew HO2_1.out)
        have n2_ := Aside0.mk (blk_drew BK176.out)
        have n3_ := Aside0.mk (below_drew1 HB.out)
        clear HO0
        clear HO2_1
        clear BK176
        clear HB
        have HO0 := n0_
        have HO2_1 := n1_
        have BK176 := n2_
        have HB := n3_
        clear n0_ n1_ n2_ n3_
        have p179 : 0 ≤ (t178 : Int) := of_decide_eq_true (by (with_reducible assumption))
        have q179 : t178 < (l0.length : Int) := of_decide_eq_true (by (with_reducible assumption))
        obtain ⟨ad179, A179_1, c179_1, A179_2, c179_2, e179, hx179_0, hx179_1, hx179_2, hl179_1, hi179_1, hl179_2, hi179_2⟩ := at_T63 (Kd.V_reads' HO0.out).2.2 t178 p179 q179
        cases e179
        obtain ⟨ce179, hce179, hMe179, hcc179⟩ := Kd.V_get HO0.out z63 t178 p179 q179
        obtain ⟨ua179_1, uc179_1, ua179_2, uc179_2, rfl, ul179_1, ge179_1, ul179_2, ge179_2⟩ := k63_openF hMe179
        have hv179_1 := hcc179 1 _ rfl
        rw [add_field _ _ 1 (by omega)] at hv179_1
        replace hv179_1 := Option.some.inj (hv179_1.symm.trans hx179_1)
        injection hv179_1 with hva_ hvn_ hvc_
        rw [hva_] at ge179_1
        rw [hvc_] at ul179_1
        have HL179_1 := Aside0.mk (show Kd.V k177 177 _ w.heap.size _ _ ((rd_T63 l0 t178).f1) from Kd.V_mk ul179_1 ge179_1)
        clear hva_ hvn_ hvc_ ge179_1 ul179_1
        have hv179_2 := hcc179 2 _ rfl
        rw [add_field _ _ 2 (by omega)] at hv179_2
        replace hv179_2 := Option.some.inj (hv179_2.symm.trans hx179_2)
        injection hv179_2 with hva_ hvn_ hvc_
        rw [hva_] at ge179_2
        rw [hvc_] at ul179_2
        have HL179_2 := Aside0.mk (show Kd.V k138 138 _ w.heap.size _ _ ((rd_T63 l0 t178).f2) from Kd.V_mk ul179_2 ge179_2)
        clear hva_ hvn_ hvc_ ge179_2 ul179_2
        clear hcc179 hce179
        have HR179_1 := Aside0.mk hi179_1
        have HC179_1 := Aside0.mk hl179_1
        clear hi179_1 hl179_1
        have HR179_2 := Aside0.mk hi179_2
        have HC179_2 := Aside0.mk hl179_2
        clear hi179_2 hl179_2
        replace p179 := eq_true p179
        replace q179 := eq_true q179
        refine start_ (n := 9) (S := fun w' => w'.cell? ⟨gb176, 0, none⟩ = some (.string a2_0) ∧ w'.cell? ⟨gb176, 1, none⟩ = some (.slice A2_1 l2_1.length c2_1) ∧ w'.cell? ⟨gb176, 2, none⟩ = some (.int .i64 a2_2) ∧ w'.cell? (ad179.add ((t178).toNat * 3)) = some (.string ((rd_T63 l0 t178).f0)) ∧ w'.cell? ⟨(ad179.add ((t178).toNat * 3)).block, (ad179.add ((t178).toNat * 3)).off + 1, none⟩ = some (.slice A179_1 ((rd_T63 l0 t178).f1).length c179_1) ∧ w'.cell? ⟨(ad179.add ((t178).toNat * 3)).block, (ad179.add ((t178).toNat * 3)).off + 2, none⟩ = some (.slice A179_2 ((rd_T63 l0 t178).f2).length c179_2)) (ds := []) #[Z,Z,Z,Z,Z,Z,Z,Z,Z] (by kernel_rfl) rfl rfl ⟨(blk_cell BK176.out 0).trans rfl, (blk_cell BK176.out 1).trans rfl, (blk_cell BK176.out 2).trans rfl, hx179_0, hx179_1, hx179_2⟩ (fun hHeld => ?_); refine with_tabW peristyleref25_Add.tab6 peristyleref25_Add.bits6 (fun HT_ HW_ => ?_)
        generalize w24.drew = w25 at HO0 HO2_1 BK176 HB HL179_1 HL179_2 HR179_1 HR179_2 hx179_0 hx179_1 hx179_2 hHeld ⊢
        refine pure_ (i := 1) (N := some 19) (v := ?_) (a' := ?_) #[Z,Y,Z,Z,Z,Z,Z,Z,Z] rfl rfl (any_of HT_.out (by kernel_rfl)) (fun _ _ _ h => h) (Or.inl ⟨by rfl, ?_⟩) ?_ ?_
        rotate_left
        ·
         intro w'
         go_simp
         with_reducible rfl
        rotate_left
        ·
         simp only [Act.put, List.setIfInBounds_toArray, List.set_cons_zero, List.set_cons_succ, i64_w, i32_w]
         rfl
        refine pure_ (i := 2) (N := some 20) (v := ?_) (a' := ?_) #[Z,Y,Y,Z,Z,Z,Z,Z,Z] rfl rfl (any_of HT_.out (by kernel_rfl)) (fun _ _ _ h => h) (Or.inl ⟨by rfl, ?_⟩) ?_ ?_
        rotate_left
        ·
         intro w'
         go_simp
         with_reducible rfl
        rotate_left
        ·
         simp only [Act.put, List.setIfInBounds_toArray, List.set_cons_zero, List.set_cons_succ, i64_w, i32_w]
         rfl
        refine pure_ (i := 3) (N := some 21) (v := ?_) (a' := ?_) #[Z,Y,Y,Y,Z,Z,Z,Z,Z] rfl rfl (any_of HT_.out (by kernel_rfl)) (fun _ _ _ h => h) (Or.inl ⟨by rfl, ?_⟩) ?_ ?_
        rotate_left
        ·
         intro w'
         go_simp
         with_reducible rfl
        rotate_left
        ·
         simp only [Act.put, List.setIfInBounds_toArray, List.set_cons_zero, List.set_cons_succ, i64_w, i32_w]
         rfl
        refine pure_ (i := 4) (N := some 22) (v := ?_) (a' := ?_) #[Z,Y,Y,Y,Y,Z,Z,Z,Z] rfl rfl (any_of HT_.out (by kernel_rfl)) (fun _ _ _ h => h) (Or.inl ⟨by rfl, ?_⟩) ?_ ?_
        rotate_left
        ·
         intro w'
         go_simp
         with_reducible rfl
        rotate_left
        ·
         simp only [Act.put, List.setIfInBounds_toArray, List.set_cons_zero, List.set_cons_succ, i64_w, i32_w]
         rfl
        refine take_ (i := 0) (N := some 18) (v := ?_) (a' := ?_) #[Y,Y,Y,Y,Y,Z,Z,Z,Z] rfl rfl (take_ofW HT_.out HW_.out (by kernel_rfl)) (fun _ _ _ h => h) (Or.inl ⟨by rfl, ?_⟩) hHeld ?_ ?_
        rotate_left
        ·
         rintro w' ⟨s0, s1, s2, s3, s4, s5⟩
         go_simp
         with_reducible rfl
        rotate_left
        ·
         simp only [Act.put, List.setIfInBounds_toArray, List.set_cons_zero, List.set_cons_succ, i64_w, i32_w]
         rfl
        refine take_ (i := 5) (N := some 23) (v := ?_) (a' := ?_) #[Y,Y,Y,Y,Y,Y,Z,Z,Z] rfl rfl (take_ofW HT_.out HW_.out (by kernel_rfl)) (fun _ _ _ h => h) (Or.inl ⟨by rfl, ?_⟩) hHeld ?_ ?_
        rotate_left
        ·
         rintro w' ⟨s0, s1, s2, s3, s4, s5⟩
         go_simp
         with_reducible rfl
        rotate_left
        ·
         simp only [Act.put, List.setIfInBounds_toArray, List.set_cons_zero, List.set_cons_succ, i64_w, i32_w]
         rfl
        refine pure_ (i := 6) (N := some 24) (v := ?_) (a' := ?_) #[Y,Y,Y,Y,Y,Y,Y,Z,Z] rfl rfl (any_of HT_.out (by kernel_rfl)) (fun _ _ _ h => h) (Or.inl ⟨by rfl, ?_⟩) ?_ ?_
        rotate_left
        ·
         intro w'
         go_simp
         with_reducible rfl
        rotate_left
        ·
         simp only [Act.put, List.setIfInBounds_toArray, List.set_cons_zero, List.set_cons_succ, i64_w, i32_w]
         rfl
        refine one_ (i := 7) (N := some 25) #[Y,Y,Y,Y,Y,Y,Y,Y,Z] rfl rfl (one_of HT_.out (by kernel_rfl)) (by decide) (fun K hK => ?_)
        refine goes_ Try.func131 (by kernel_rfl) rfl #[.agg #[.string a2_0, .slice A2_1 l2_1.length c2_1, .int .i64 a2_2], .int .i64 (((rd_T63 l0 t178).f1).length : Int)] (by rfl) rfl rfl (by (try simp only [List.map_toArray, List.map_cons, List.map_nil]); rfl) ?_
        with_reducible refine (peristyleref25_Projection.calls k a2_0 _ _ l2_1 a2_2 (((rd_T63 l0 t178).f1).length : Int) true _ ?side1 ?side2 A12.out).mono ?_
        (case side1 => repeat (exact (Kd.V_reads' HO2_1.out).2.2))
        (case side2 => exact (Kd.V_reads' HO2_1.out).2.1)
        rintro e w26 ⟨rfl, hb⟩
        have HS3_ := (hb.cell (World.block_lt_of_cell? _ _ (hHeld.2.2.2.1))).trans (hHeld.2.2.2.1)
        have HS4_ := (hb.cell (World.block_lt_of_cell? _ _ (hHeld.2.2.2.2.1))).trans (hHeld.2.2.2.2.1)
        have HS5_ := (hb.cell (World.block_lt_of_cell? _ _ (hHeld.2.2.2.2.2))).trans (hHeld.2.2.2.2.2)
        refine ⟨_, rfl, ?_⟩
        have n0_ := Aside0.mk (Kd.V_below HO0.out hb)
        have n1_ := Aside0.mk (Kd.V_below HO2_1.out hb)
        have n2_ := Aside0.mk (Kd.V_below HL179_1.out hb)
        have n3_ := Aside0.mk (Kd.V_below HL179_2.out hb)
        have n4_ := Aside0.mk (blk_below (g := gb176) (o := .cells #[.string a2_0, .slice A2_1 l2_1.length c2_1, .int .i64 a2_2] 138 (0, 0)) BK176.out hb)
        have n5_ := Aside0.mk (Kd.C_below HR179_1.out hb)
        have n6_ := Aside0.mk (Kd.C_below HR179_2.out hb)
        have n7_ := Aside0.mk (below_step HB.out hb)
        clear HO0
        clear HO2_1
        clear HL179_1
        clear HL179_2
        clear BK176
        clear HR179_1
        clear HR179_2
        clear HB
        have HO0 := n0_
        have HO2_1 := n1_
        have HL179_1 := n2_
        have HL179_2 := n3_
        have BK176 := n4_
        have HR179_1 := n5_
        have HR179_2 := n6_
        have HB := n7_
        clear n0_ n1_ n2_ n3_ n4_ n5_ n6_ n7_
        (try clear hb)
        refine hK.out _ _ ⟨(blk_cell BK176.out 0).trans rfl, (blk_cell BK176.out 1).trans rfl, (blk_cell BK176.out 2).trans rfl, HS3_, HS4_, HS5_⟩ (fun hHeld => ?_)
        clear hK K
        refine norm_ (a' := ?_) ?_ ?_
        rotate_left
        ·
         show Act.put _ (some 25) _ = _
         simp only [Act.put, List.setIfInBounds_toArray, List.set_cons_zero, List.set_cons_succ, i64_w, i32_w]
         rfl
        refine pure_ (i := 8) (N := some 26) (v := ?_) (a' := ?_) #[Y,Y,Y,Y,Y,Y,Y,Y,Y] rfl rfl (any_of HT_.out (by kernel_rfl)) (fun _ _ _ h => h) (Or.inl ⟨by rfl, ?_⟩) ?_ ?_
        rotate_left
        ·
         intro w'
         go_simp
         with_reducible rfl
        rotate_left
        ·
         simp only [Act.put, List.setIfInBounds_toArray, List.set_cons_zero, List.set_cons_succ, i64_w, i32_w]
         rfl
        refine done_ (done_of HT_.out (by kernel_rfl)) ?_
        try go_wp2
        have n0_ := Aside0.mk (Kd.V_drew HO0.out)
        have n1_ := Aside0.mk (Kd.V_drew HO2_1.out)
        have n2_ := Aside0.mk (Kd.V_drew HL179_1.out)
        have n3_ := Aside0.mk (Kd.V_drew HL179_2.out)
        have n4_ := Aside0.mk (blk_drew BK176.out)
        have n5_ := Aside0.mk (Kd.C_drew HR179_1.out)
        have n6_ := Aside0.mk (Kd.C_drew HR179_2.out)
        have n7_ := Aside0.mk (below_drew1 HB.out)
        clear HO0
        clear HO2_1
        clear HL179_1
        clear HL179_2
        clear BK176
        clear HR179_1
        clear HR179_2
        clear HB
        have HO0 := n0_
        have HO2_1 := n1_
        have HL179_1 := n2_
        have HL179_2 := n3_
        have BK176 := n4_
        have HR179_1 := n5_
        have HR179_2 := n6_
        have HB := n7_
        clear n0_ n1_ n2_ n3_ n4_ n5_ n6_ n7_
        have p181 : 0 ≤ (t178 : Int) := of_decide_eq_true (by (with_reducible assumption))
        have q181 : t178 < (l0.length : Int) := of_decide_eq_true (by (with_reducible assumption))
        obtain ⟨ad181, A181_1, c181_1, A181_2, c181_2, e181, hx181_0, hx181_1, hx181_2, hl181_1, hi181_1, hl181_2, hi181_2⟩ := at_T63 (Kd.V_reads' HO0.out).2.2 t178 p181 q181
        obtain rfl : ad179 = ad181 := (by injection e181)
        obtain ⟨ce181, hce181, hMe181, hcc181⟩ := Kd.V_get HO0.out z63 t178 p181 q181
        obtain ⟨ua181_1, uc181_1, ua181_2, uc181_2, rfl, ul181_1, ge181_1, ul181_2, ge181_2⟩ := k63_openF hMe181
        have hv181_1 := hcc181 1 _ rfl
        rw [add_field _ _ 1 (by omega)] at hv181_1
        replace hv181_1 := Option.some.inj (hv181_1.symm.trans hx181_1)
        injection hv181_1 with hva_ hvn_ hvc_
        rw [hva_] at ge181_1
        rw [hvc_] at ul181_1
        have HL181_1 := Aside0.mk (show Kd.V k177 177 _ w.heap.size _ _ ((rd_T63 l0 t178).f1) from Kd.V_mk ul181_1 ge181_1)
        clear hva_ hvn_ hvc_ ge181_1 ul181_1
        have hv181_2 := hcc181 2 _ rfl
        rw [add_field _ _ 2 (by omega)] at hv181_2
        replace hv181_2 := Option.some.inj (hv181_2.symm.trans hx181_2)
        injection hv181_2 with hva_ hvn_ hvc_
        rw [hva_] at ge181_2
        rw [hvc_] at ul181_2
        have HL181_2 := Aside0.mk (show Kd.V k138 138 _ w.heap.size _ _ ((rd_T63 l0 t178).f2) from Kd.V_mk ul181_2 ge181_2)
        clear hva_ hvn_ hvc_ ge181_2 ul181_2
        clear hcc181 hce181
        have HR181_1 := Aside0.mk hi181_1
        have HC181_1 := Aside0.mk hl181_1
        clear hi181_1 hl181_1
        have HR181_2 := Aside0.mk hi181_2
        have HC181_2 := Aside0.mk hl181_2
        clear hi181_2 hl181_2
        replace p181 := eq_true p181
        replace q181 := eq_true q181
        refine start_ (n := 8) (S := fun w' => w'.cell? ⟨gb176, 0, none⟩ = some (.string a2_0) ∧ w'.cell? ⟨gb176, 1, none⟩ = some (.slice A2_1 l2_1.length c2_1) ∧ w'.cell? ⟨gb176, 2, none⟩ = some (.int .i64 a2_2) ∧ w'.cell? (ad179.add ((t178).toNat * 3)) = some (.string ((rd_T63 l0 t178).f0)) ∧ w'.cell? ⟨(ad179.add ((t178).toNat * 3)).block, (ad179.add ((t178).toNat * 3)).off + 1, none⟩ = some (.slice A181_1 ((rd_T63 l0 t178).f1).length c181_1) ∧ w'.cell? ⟨(ad179.add ((t178).toNat * 3)).block, (ad179.add ((t178).toNat * 3)).off + 2, none⟩ = some (.slice A181_2 ((rd_T63 l0 t178).f2).length c181_2)) (ds := []) #[Z,Z,Z,Z,Z,Z,Z,Z] (by kernel_rfl) rfl rfl ⟨(blk_cell BK176.out 0).trans rfl, (blk_cell BK176.out 1).trans rfl, (blk_cell BK176.out 2).trans rfl, hx181_0, hx181_1, hx181_2⟩ (fun hHeld => ?_); refine with_tabW peristyleref25_Add.tab8 peristyleref25_Add.bits8 (fun HT_ HW_ => ?_)
        generalize w26.drew = w27 at HO0 HO2_1 HL179_1 HL179_2 BK176 HR179_1 HR179_2 HB HL181_1 HL181_2 HR181_1 HR181_2 hx181_0 hx181_1 hx181_2 hHeld ⊢
        refine pure_ (i := 0) (N := some 27) (v := ?_) (a' := ?_) #[Y,Z,Z,Z,Z,Z,Z,Z] rfl rfl (any_of HT_.out (by kernel_rfl)) (fun _ _ _ h => h) (Or.inl ⟨by rfl, ?_⟩) ?_ ?_
        rotate_left
        ·
         intro w'
         go_simp
         with_reducible rfl
        rotate_left
        ·
         simp only [Act.put, List.setIfInBounds_toArray, List.set_cons_zero, List.set_cons_succ, i64_w, i32_w]
         rfl
        refine pure_ (i := 1) (N := some 28) (v := ?_) (a' := ?_) #[Y,Y,Z,Z,Z,Z,Z,Z] rfl rfl (any_of HT_.out (by kernel_rfl)) (fun _ _ _ h => h) (Or.inl ⟨by rfl, ?_⟩) ?_ ?_
        rotate_left
        ·
         intro w'
         go_simp
         with_reducible rfl
        rotate_left
        ·
         simp only [Act.put, List.setIfInBounds_toArray, List.set_cons_zero, List.set_cons_succ, i64_w, i32_w]
         rfl
        refine pure_ (i := 2) (N := some 29) (v := ?_) (a' := ?_) #[Y,Y,Y,Z,Z,Z,Z,Z] rfl rfl (any_of HT_.out (by kernel_rfl)) (fun _ _ _ h => h) (Or.inl ⟨by rfl, ?_⟩) ?_ ?_
        rotate_left
        ·
         intro w'
         go_simp
         with_reducible rfl
        rotate_left
        ·
         simp only [Act.put, List.setIfInBounds_toArray, List.set_cons_zero, List.set_cons_succ, i64_w, i32_w]
         rfl
        refine pure_ (i := 4) (N := some 31) (v := ?_) (a' := ?_) #[Y,Y,Y,Z,Y,Z,Z,Z] rfl rfl (any_of HT_.out (by kernel_rfl)) (fun _ _ _ h => h) (Or.inl ⟨by rfl, ?_⟩) ?_ ?_
        rotate_left
        ·
         intro w'
         go_simp
         with_reducible rfl
        rotate_left
        ·
         simp only [Act.put, List.setIfInBounds_toArray, List.set_cons_zero, List.set_cons_succ, i64_w, i32_w]
         rfl
        refine take_ (i := 3) (N := some 30) (v := ?_) (a' := ?_) #[Y,Y,Y,Y,Y,Z,Z,Z] rfl rfl (take_ofW HT_.out HW_.out (by kernel_rfl)) (fun _ _ _ h => h) (Or.inl ⟨by rfl, ?_⟩) hHeld ?_ ?_
        rotate_left
        ·
         rintro w' ⟨s0, s1, s2, s3, s4, s5⟩
         go_simp
         with_reducible rfl
        rotate_left
        ·
         simp only [Act.put, List.setIfInBounds_toArray, List.set_cons_zero, List.set_cons_succ, i64_w, i32_w]
         rfl
        refine take_ (i := 5) (N := some 32) (v := ?_) (a' := ?_) #[Y,Y,Y,Y,Y,Y,Z,Z] rfl rfl (take_ofW HT_.out HW_.out (by kernel_rfl)) (fun _ _ _ h => h) (Or.inl ⟨by rfl, ?_⟩) hHeld ?_ ?_
        rotate_left
        ·
         rintro w' ⟨s0, s1, s2, s3, s4, s5⟩
         go_simp
         with_reducible rfl
        rotate_left
        ·
         simp only [Act.put, List.setIfInBounds_toArray, List.set_cons_zero, List.set_cons_succ, i64_w, i32_w]
         rfl
        refine one_ (i := 6) (N := some 33) #[Y,Y,Y,Y,Y,Y,Y,Z] rfl rfl (one_of HT_.out (by kernel_rfl)) (by decide) (fun K hK => ?_)
        refine goes_ Try.func147 (by kernel_rfl) rfl #[.agg #[.string ((rd_T63 l0 t178).f0), .slice A181_1 ((rd_T63 l0 t178).f1).length c181_1, .slice A181_2 ((rd_T63 l0 t178).f2).length c181_2], .string a2_0] (by rfl) rfl rfl (by (try simp only [List.map_toArray, List.map_cons, List.map_nil]); rfl) ?_
        with_reducible refine (peristyleref25_projection.calls k ((rd_T63 l0 t178).f0) _ _ ((rd_T63 l0 t178).f1) _ _ ((rd_T63 l0 t178).f2) a2_0 t182 _ ?side1 ?side2 ?side3 ?side4 A14.out).mono ?_
        (case side1 => repeat exact HR181_1.out)
        (case side2 => exact HC181_1.out)
        (case side3 => repeat exact HR181_2.out)
        (case side4 => exact HC181_2.out)
        rintro e w28 ⟨rfl, hb⟩
        have HS3_ := (hb.cell (World.block_lt_of_cell? _ _ (hHeld.2.2.2.1))).trans (hHeld.2.2.2.1)
        have HS4_ := (hb.cell (World.block_lt_of_cell? _ _ (hHeld.2.2.2.2.1))).trans (hHeld.2.2.2.2.1)
        have HS5_ := (hb.cell (World.block_lt_of_cell? _ _ (hHeld.2.2.2.2.2))).trans (hHeld.2.2.2.2.2)
        refine ⟨_, rfl, ?_⟩
        have n0_ := Aside0.mk (Kd.V_below HO0.out hb)
        have n1_ := Aside0.mk (Kd.V_below HO2_1.out hb)
        have n2_ := Aside0.mk (Kd.V_below HL179_1.out hb)
        have n3_ := Aside0.mk (Kd.V_below HL179_2.out hb)
        have n4_ := Aside0.mk (Kd.V_below HL181_1.out hb)
        have n5_ := Aside0.mk (Kd.V_below HL181_2.out hb)
        have n6_ := Aside0.mk (blk_below (g := gb176) (o := .cells #[.string a2_0, .slice A2_1 l2_1.length c2_1, .int .i64 a2_2] 138 (0, 0)) BK176.out hb)
        have n7_ := Aside0.mk (Kd.C_below HR179_1.out hb)
        have n8_ := Aside0.mk (Kd.C_below HR179_2.out hb)
        have n9_ := Aside0.mk (Kd.C_below HR181_1.out hb)
        have n10_ := Aside0.mk (Kd.C_below HR181_2.out hb)
        have n11_ := Aside0.mk (below_step HB.out hb)
        clear HO0
        clear HO2_1
        clear HL179_1
        clear HL179_2
        clear HL181_1
        clear HL181_2
        clear BK176
        clear HR179_1
        clear HR179_2
        clear HR181_1
        clear HR181_2
        clear HB
        have HO0 := n0_
        have HO2_1 := n1_
        have HL179_1 := n2_
        have HL179_2 := n3_
        have HL181_1 := n4_
        have HL181_2 := n5_
        have BK176 := n6_
        have HR179_1 := n7_
        have HR179_2 := n8_
        have HR181_1 := n9_
        have HR181_2 := n10_
        have HB := n11_
        clear n0_ n1_ n2_ n3_ n4_ n5_ n6_ n7_ n8_ n9_ n10_ n11_
        (try clear hb)
        refine hK.out _ _ ⟨(blk_cell BK176.out 0).trans rfl, (blk_cell BK176.out 1).trans rfl, (blk_cell BK176.out 2).trans rfl, HS3_, HS4_, HS5_⟩ (fun hHeld => ?_)
        clear hK K
        refine norm_ (a' := ?_) ?_ ?_
        rotate_left
        ·
         show Act.put _ (some 33) _ = _
         simp only [Act.put, List.setIfInBounds_toArray, List.set_cons_zero, List.set_cons_succ, i64_w, i32_w]
         rfl
        refine pure_ (i := 7) (N := some 34) (v := ?_) (a' := ?_) #[Y,Y,Y,Y,Y,Y,Y,Y] rfl rfl (any_of HT_.out (by kernel_rfl)) (fun _ _ _ h => h) (Or.inl ⟨by rfl, ?_⟩) ?_ ?_
        rotate_left
        ·
         intro w'
         go_simp
         with_reducible rfl
        rotate_left
        ·
         simp only [Act.put, List.setIfInBounds_toArray, List.set_cons_zero, List.set_cons_succ, i64_w, i32_w]
         rfl
        refine done_ (done_of HT_.out (by kernel_rfl)) ?_
        have p183 : 0 ≤ (t178 : Int) := of_decide_eq_true (by (with_reducible assumption))
        have q183 : t178 < (l0.length : Int) := of_decide_eq_true (by (with_reducible assumption))
        obtain ⟨ad183, A183_1, c183_1, A183_2, c183_2, e183, hx183_0, hx183_1, hx183_2, hl183_1, hi183_1, hl183_2, hi183_2⟩ := at_T63 (Kd.V_reads' HO0.out).2.2 t178 p183 q183
        obtain rfl : ad179 = ad183 := (by injection e183)
        obtain ⟨ce183, hce183, hMe183, hcc183⟩ := Kd.V_get HO0.out z63 t178 p183 q183
        obtain ⟨ua183_1, uc183_1, ua183_2, uc183_2, rfl, ul183_1, ge183_1, ul183_2, ge183_2⟩ := k63_openF hMe183
        have hv183_1 := hcc183 1 _ rfl
        rw [add_field _ _ 1 (by omega)] at hv183_1
        replace hv183_1 := Option.some.inj (hv183_1.symm.trans hx183_1)
        injection hv183_1 with hva_ hvn_ hvc_
        rw [hva_] at ge183_1
        rw [hvc_] at ul183_1
        have HL183_1 := Aside0.mk (show Kd.V k177 177 _ w.heap.size _ _ ((rd_T63 l0 t178).f1) from Kd.V_mk ul183_1 ge183_1)
        clear hva_ hvn_ hvc_ ge183_1 ul183_1
        have hv183_2 := hcc183 2 _ rfl
        rw [add_field _ _ 2 (by omega)] at hv183_2
        replace hv183_2 := Option.some.inj (hv183_2.symm.trans hx183_2)
        injection hv183_2 with hva_ hvn_ hvc_
        rw [hva_] at ge183_2
        rw [hvc_] at ul183_2
        have HL183_2 := Aside0.mk (show Kd.V k138 138 _ w.heap.size _ _ ((rd_T63 l0 t178).f2) from Kd.V_mk ul183_2 ge183_2)
        clear hva_ hvn_ hvc_ ge183_2 ul183_2
        clear hcc183 hce183
        have HR183_1 := Aside0.mk hi183_1
        have HC183_1 := Aside0.mk hl183_1
        clear hi183_1 hl183_1
        have HR183_2 := Aside0.mk hi183_2
        have HC183_2 := Aside0.mk hl183_2
        clear hi183_2 hl183_2
        replace p183 := eq_true p183
        replace q183 := eq_true q183
        try go_wp2
        go_ret2
        exact ⟨_, by rfl, by exact Kd.N_nil _ _ _ _ _, by repeat exact HB.out⟩
       ·
        rw [if_neg c22] at H
        have c22b0 : decide (6 ≤ (((rd_T63 l0 t178).f2).length : Int)) = false := decide_eq_false c22
        have c22b1 : decide (6 ≤ ((rd_T63 l0 t178).f2).length) = false := decide_eq_false (by omega)
        clear c22
        by_cases c29 : ([] : List (S138)).length + ((rd_T63 l0 t178).f2).length < 2932031007402
        ·
         rw [if_pos c29] at H
         have LMc29 := Aside0.mk c29
         clear c29
         obtain ⟨y185, hy185⟩ : ∃ y_ : List (S138), y_ = (([] : List (S138)) ++ ((rd_T63 l0 t178).f2)) := ⟨_, rfl⟩
         replace H : (if y185.length < 2932031007402 then ((peristyleref25_with.f l0 t178 (y185 ++ [(⟨a2_0, l2_1, a2_2⟩ : S138)])).bind fun t191 => (some (t191, 0))) else (none)) = some (r1, r2) := by (have H2_ := (Option.bind_some _ _).symm.trans H; rw [hy185]; with_reducible exact H2_)
         have Ny185 := Aside0.mk hy185
         clear hy185
         by_cases c30 : y185.length < 2932031007402
         ·
          rw [if_pos c30] at H
          have LMc30 := Aside0.mk c30
          clear c30
          obtain ⟨y188, hy188⟩ : ∃ y_ : List (S138), y_ = (y185 ++ [(⟨a2_0, l2_1, a2_2⟩ : S138)]) := ⟨_, rfl⟩
          replace H : ((peristyleref25_with.f l0 t178 y188).bind fun t191 => (some (t191, 0))) = some (r1, r2) := by (rw [hy188]; with_reducible exact H)
          have Ny188 := Aside0.mk hy188
          clear hy188
          replace H := Option.bind_eq_some_iff.mp H
          obtain ⟨t191, A310, H⟩ := H
          try dsimp only at H
          have A31 := Aside0.mk A310
          clear A310
          simp only [Option.some.injEq, Prod.mk.injEq] at H
          obtain ⟨rfl, rfl⟩ := H
          go_enter Try.func115, Try.ntmps115
          try go_wp2_with (first | ((with_reducible refine gate_dst (N := 5) rfl ?_); refine box_event ?hg (N := 5) ?hd (cs := #[.string a2_0, .slice A2_1 l2_1.length c2_1, .int .i64 a2_2]) (t := 138) ?hr ?_; (case hd => rfl); (case hg => rfl); (case hr => (go_simp; done)); intro gb176 hg w32 hbox hb; have n0_ := Aside0.mk (Kd.V_below (Kd.V_elderB HO0.out gb176 (Nat.le_of_eq hg.symm)) hb); have n1_ := Aside0.mk (Kd.V_below (Kd.V_elderB HO2_1.out gb176 (Nat.le_of_eq hg.symm)) hb); have n2_ := Aside0.mk (below_step HB.out hb); have n3_ := Aside0.mk (hbox); have n4_ := Aside0.mk ((by rw [hg]; exact (below_size HB.out) : w.heap.size ≤ gb176)); have n5_ := Aside0.mk ((by rw [hg]; exact (below_size HB.out) : w.heap.size ≤ gb176)); clear HO0 HO2_1 HB; have HO0 := n0_; have HO2_1 := n1_; have HB := n2_; have BK176 := n3_; have GW176 := n4_; have GE176 := n5_; clear n0_ n1_ n2_ n3_ n4_ n5_ hb hbox hg) | ((with_reducible refine gate_callee (f := 35) rfl ?_); refine goesL_ (some 11) rfl rfl Try.func35 (by kernel_rfl) rfl #[.slice A0 l0.length c0] rfl (by (try simp only [List.map_toArray, List.map_cons, List.map_nil]); rfl) ?_; (with_reducible refine (peristyleref25_May.calls k _ _ l0 true _ ?side1 ?side2 A4.out).mono ?_); (case side1 => repeat (exact (Kd.V_reads' HO0.out).2.2)); (case side2 => exact (Kd.V_reads' HO0.out).2.1); rintro e w33 ⟨rfl, hb⟩; refine ⟨_, rfl, ?_⟩; have n0_ := Aside0.mk (Kd.V_below HO0.out hb); have n1_ := Aside0.mk (Kd.V_below HO2_1.out hb); have n2_ := Aside0.mk (blk_below (g := gb176) (o := .cells #[.string a2_0, .slice A2_1 l2_1.length c2_1, .int .i64 a2_2] 138 (0, 0)) BK176.out hb); have n3_ := Aside0.mk (below_step HB.out hb); clear HO0 HO2_1 BK176 HB; have HO0 := n0_; have HO2_1 := n1_; have BK176 := n2_; have HB := n3_; clear n0_ n1_ n2_ n3_; (try clear hb)) | ((with_reducible refine gate_callee (f := 146) rfl ?_); refine goesL_ (some 15) rfl rfl Try.func146 (by kernel_rfl) rfl #[.slice A0 l0.length c0, .string a1] rfl (by (try simp only [List.map_toArray, List.map_cons, List.map_nil]); rfl) ?_; (with_reducible refine (peristyleref25_Find.calls k _ _ l0 a1 t178 _ ?side1 ?side2 A6.out).mono ?_); (case side1 => repeat (exact (Kd.V_reads' HO0.out).2.2)); (case side2 => exact (Kd.V_reads' HO0.out).2.1); rintro e w' ⟨rfl, ⟨nd, rfl⟩⟩; refine ⟨_, rfl, ?_⟩))
          (try (rw [drewN_self w33]; generalize hq_ : World.drewN w33 _ = w33; have n0_ : Aside0 (Kd.V k63 63 w33 w.heap.size (fun k_ => ((P0_ k_ ∨ P2_1_ k_) ∨ w.heap.size ≤ k_) ∧ k_ ≠ gb176) (.slice A0 l0.length c0) l0) := ⟨by rw [← hq_]; exact (by (with_reducible repeat apply Kd.V_drewN); exact HO0.out)⟩; have n1_ : Aside0 (Kd.V (Kd.int .i64) 3 w33 w.heap.size (fun k_ => ((P0_ k_ ∨ P2_1_ k_) ∨ w.heap.size ≤ k_) ∧ k_ ≠ gb176) (.slice A2_1 l2_1.length c2_1) l2_1) := ⟨by rw [← hq_]; exact (by (with_reducible repeat apply Kd.V_drewN); exact HO2_1.out)⟩; have n2_ : Aside0 (w33.heap[gb176]? = some (.cells #[.string a2_0, .slice A2_1 l2_1.length c2_1, .int .i64 a2_2] 138 (0, 0))) := ⟨by rw [← hq_]; exact (by (with_reducible repeat (refine blk_drewN ?_ _)); exact BK176.out)⟩; have n3_ : Aside0 (Below w.heap.size w w33) := ⟨by rw [← hq_]; exact (by repeat ((with_reducible first | exact HB.out | apply pw_below_drewN)))⟩; clear HO0 HO2_1 BK176 HB hq_; have HO0 := n0_; have HO2_1 := n1_; have BK176 := n2_; have HB := n3_; clear n0_ n1_ n2_ n3_))
          have n0_ := Aside0.mk (Kd.V_drew HO0.out)
          have n1_ := Aside0.mk (Kd.V_drew HO2_1.out)
          have n2_ := Aside0.mk (blk_drew BK176.out)
          have n3_ := Aside0.mk (below_drew1 HB.out)
          clear HO0
          clear HO2_1
          clear BK176
          clear HB
          have HO0 := n0_
          have HO2_1 := n1_
          have BK176 := n2_
          have HB := n3_
          clear n0_ n1_ n2_ n3_
          have p179 : 0 ≤ (t178 : Int) := of_decide_eq_true (by (with_reducible assumption))
          have q179 : t178 < (l0.length : Int) := of_decide_eq_true (by (with_reducible assumption))
          obtain ⟨ad179, A179_1, c179_1, A179_2, c179_2, e179, hx179_0, hx179_1, hx179_2, hl179_1, hi179_1, hl179_2, hi179_2⟩ := at_T63 (Kd.V_reads' HO0.out).2.2 t178 p179 q179
          cases e179
          obtain ⟨ce179, hce179, hMe179, hcc179⟩ := Kd.V_get HO0.out z63 t178 p179 q179
          obtain ⟨ua179_1, uc179_1, ua179_2, uc179_2, rfl, ul179_1, ge179_1, ul179_2, ge179_2⟩ := k63_openF hMe179
          have hv179_1 := hcc179 1 _ rfl
          rw [add_field _ _ 1 (by omega)] at hv179_1
          replace hv179_1 := Option.some.inj (hv179_1.symm.trans hx179_1)
          injection hv179_1 with hva_ hvn_ hvc_
          rw [hva_] at ge179_1
          rw [hvc_] at ul179_1
          have HL179_1 := Aside0.mk (show Kd.V k177 177 _ w.heap.size _ _ ((rd_T63 l0 t178).f1) from Kd.V_mk ul179_1 ge179_1)
          clear hva_ hvn_ hvc_ ge179_1 ul179_1
          have hv179_2 := hcc179 2 _ rfl
          rw [add_field _ _ 2 (by omega)] at hv179_2
          replace hv179_2 := Option.some.inj (hv179_2.symm.trans hx179_2)
          injection hv179_2 with hva_ hvn_ hvc_
          rw [hva_] at ge179_2
          rw [hvc_] at ul179_2
          have HL179_2 := Aside0.mk (show Kd.V k138 138 _ w.heap.size _ _ ((rd_T63 l0 t178).f2) from Kd.V_mk ul179_2 ge179_2)
          clear hva_ hvn_ hvc_ ge179_2 ul179_2
          clear hcc179 hce179
          have HR179_1 := Aside0.mk hi179_1
          have HC179_1 := Aside0.mk hl179_1
          clear hi179_1 hl179_1
          have HR179_2 := Aside0.mk hi179_2
          have HC179_2 := Aside0.mk hl179_2
          clear hi179_2 hl179_2
          replace p179 := eq_true p179
          replace q179 := eq_true q179
          refine start_ (n := 9) (S := fun w' => w'.cell? ⟨gb176, 0, none⟩ = some (.string a2_0) ∧ w'.cell? ⟨gb176, 1, none⟩ = some (.slice A2_1 l2_1.length c2_1) ∧ w'.cell? ⟨gb176, 2, none⟩ = some (.int .i64 a2_2) ∧ w'.cell? (ad179.add ((t178).toNat * 3)) = some (.string ((rd_T63 l0 t178).f0)) ∧ w'.cell? ⟨(ad179.add ((t178).toNat * 3)).block, (ad179.add ((t178).toNat * 3)).off + 1, none⟩ = some (.slice A179_1 ((rd_T63 l0 t178).f1).length c179_1) ∧ w'.cell? ⟨(ad179.add ((t178).toNat * 3)).block, (ad179.add ((t178).toNat * 3)).off + 2, none⟩ = some (.slice A179_2 ((rd_T63 l0 t178).f2).length c179_2)) (ds := []) #[Z,Z,Z,Z,Z,Z,Z,Z,Z] (by kernel_rfl) rfl rfl ⟨(blk_cell BK176.out 0).trans rfl, (blk_cell BK176.out 1).trans rfl, (blk_cell BK176.out 2).trans rfl, hx179_0, hx179_1, hx179_2⟩ (fun hHeld => ?_); refine with_tabW peristyleref25_Add.tab6 peristyleref25_Add.bits6 (fun HT_ HW_ => ?_)
          generalize w33.drew = w34 at HO0 HO2_1 BK176 HB HL179_1 HL179_2 HR179_1 HR179_2 hx179_0 hx179_1 hx179_2 hHeld ⊢
          refine pure_ (i := 1) (N := some 19) (v := ?_) (a' := ?_) #[Z,Y,Z,Z,Z,Z,Z,Z,Z] rfl rfl (any_of HT_.out (by kernel_rfl)) (fun _ _ _ h => h) (Or.inl ⟨by rfl, ?_⟩) ?_ ?_
          rotate_left
          ·
           intro w'
           go_simp
           with_reducible rfl
          rotate_left
          ·
           simp only [Act.put, List.setIfInBounds_toArray, List.set_cons_zero, List.set_cons_succ, i64_w, i32_w]
           rfl
          refine pure_ (i := 2) (N := some 20) (v := ?_) (a' := ?_) #[Z,Y,Y,Z,Z,Z,Z,Z,Z] rfl rfl (any_of HT_.out (by kernel_rfl)) (fun _ _ _ h => h) (Or.inl ⟨by rfl, ?_⟩) ?_ ?_
          rotate_left
          ·
           intro w'
           go_simp
           with_reducible rfl
          rotate_left
          ·
           simp only [Act.put, List.setIfInBounds_toArray, List.set_cons_zero, List.set_cons_succ, i64_w, i32_w]
           rfl
          refine pure_ (i := 3) (N := some 21) (v := ?_) (a' := ?_) #[Z,Y,Y,Y,Z,Z,Z,Z,Z] rfl rfl (any_of HT_.out (by kernel_rfl)) (fun _ _ _ h => h) (Or.inl ⟨by rfl, ?_⟩) ?_ ?_
          rotate_left
          ·
           intro w'
           go_simp
           with_reducible rfl
          rotate_left
          ·
           simp only [Act.put, List.setIfInBounds_toArray, List.set_cons_zero, List.set_cons_succ, i64_w, i32_w]
           rfl
          refine pure_ (i := 4) (N := some 22) (v := ?_) (a' := ?_) #[Z,Y,Y,Y,Y,Z,Z,Z,Z] rfl rfl (any_of HT_.out (by kernel_rfl)) (fun _ _ _ h => h) (Or.inl ⟨by rfl, ?_⟩) ?_ ?_
          rotate_left
          ·
           intro w'
           go_simp
           with_reducible rfl
          rotate_left
          ·
           simp only [Act.put, List.setIfInBounds_toArray, List.set_cons_zero, List.set_cons_succ, i64_w, i32_w]
           rfl
          refine take_ (i := 0) (N := some 18) (v := ?_) (a' := ?_) #[Y,Y,Y,Y,Y,Z,Z,Z,Z] rfl rfl (take_ofW HT_.out HW_.out (by kernel_rfl)) (fun _ _ _ h => h) (Or.inl ⟨by rfl, ?_⟩) hHeld ?_ ?_
          rotate_left
          ·
           rintro w' ⟨s0, s1, s2, s3, s4, s5⟩
           go_simp
           with_reducible rfl
          rotate_left
          ·
           simp only [Act.put, List.setIfInBounds_toArray, List.set_cons_zero, List.set_cons_succ, i64_w, i32_w]
           rfl
          refine take_ (i := 5) (N := some 23) (v := ?_) (a' := ?_) #[Y,Y,Y,Y,Y,Y,Z,Z,Z] rfl rfl (take_ofW HT_.out HW_.out (by kernel_rfl)) (fun _ _ _ h => h) (Or.inl ⟨by rfl, ?_⟩) hHeld ?_ ?_
          rotate_left
          ·
           rintro w' ⟨s0, s1, s2, s3, s4, s5⟩
           go_simp
           with_reducible rfl
          rotate_left
          ·
           simp only [Act.put, List.setIfInBounds_toArray, List.set_cons_zero, List.set_cons_succ, i64_w, i32_w]
           rfl
          refine pure_ (i := 6) (N := some 24) (v := ?_) (a' := ?_) #[Y,Y,Y,Y,Y,Y,Y,Z,Z] rfl rfl (any_of HT_.out (by kernel_rfl)) (fun _ _ _ h => h) (Or.inl ⟨by rfl, ?_⟩) ?_ ?_
          rotate_left
          ·
           intro w'
           go_simp
           with_reducible rfl
          rotate_left
          ·
           simp only [Act.put, List.setIfInBounds_toArray, List.set_cons_zero, List.set_cons_succ, i64_w, i32_w]
           rfl
          refine one_ (i := 7) (N := some 25) #[Y,Y,Y,Y,Y,Y,Y,Y,Z] rfl rfl (one_of HT_.out (by kernel_rfl)) (by decide) (fun K hK => ?_)
          refine goes_ Try.func131 (by kernel_rfl) rfl #[.agg #[.string a2_0, .slice A2_1 l2_1.length c2_1, .int .i64 a2_2], .int .i64 (((rd_T63 l0 t178).f1).length : Int)] (by rfl) rfl rfl (by (try simp only [List.map_toArray, List.map_cons, List.map_nil]); rfl) ?_
          with_reducible refine (peristyleref25_Projection.calls k a2_0 _ _ l2_1 a2_2 (((rd_T63 l0 t178).f1).length : Int) true _ ?side1 ?side2 A12.out).mono ?_
          (case side1 => repeat (exact (Kd.V_reads' HO2_1.out).2.2))
          (case side2 => exact (Kd.V_reads' HO2_1.out).2.1)
          rintro e w35 ⟨rfl, hb⟩
          have HS3_ := (hb.cell (World.block_lt_of_cell? _ _ (hHeld.2.2.2.1))).trans (hHeld.2.2.2.1)
          have HS4_ := (hb.cell (World.block_lt_of_cell? _ _ (hHeld.2.2.2.2.1))).trans (hHeld.2.2.2.2.1)
          have HS5_ := (hb.cell (World.block_lt_of_cell? _ _ (hHeld.2.2.2.2.2))).trans (hHeld.2.2.2.2.2)
          refine ⟨_, rfl, ?_⟩
          have n0_ := Aside0.mk (Kd.V_below HO0.out hb)
          have n1_ := Aside0.mk (Kd.V_below HO2_1.out hb)
          have n2_ := Aside0.mk (Kd.V_below HL179_1.out hb)
          have n3_ := Aside0.mk (Kd.V_below HL179_2.out hb)
          have n4_ := Aside0.mk (blk_below (g := gb176) (o := .cells #[.string a2_0, .slice A2_1 l2_1.length c2_1, .int .i64 a2_2] 138 (0, 0)) BK176.out hb)
          have n5_ := Aside0.mk (Kd.C_below HR179_1.out hb)
          have n6_ := Aside0.mk (Kd.C_below HR179_2.out hb)
          have n7_ := Aside0.mk (below_step HB.out hb)
          clear HO0
          clear HO2_1
          clear HL179_1
          clear HL179_2
          clear BK176
          clear HR179_1
          clear HR179_2
          clear HB
          have HO0 := n0_
          have HO2_1 := n1_
          have HL179_1 := n2_
          have HL179_2 := n3_
          have BK176 := n4_
          have HR179_1 := n5_
          have HR179_2 := n6_
          have HB := n7_
          clear n0_ n1_ n2_ n3_ n4_ n5_ n6_ n7_
          (try clear hb)
          refine hK.out _ _ ⟨(blk_cell BK176.out 0).trans rfl, (blk_cell BK176.out 1).trans rfl, (blk_cell BK176.out 2).trans rfl, HS3_, HS4_, HS5_⟩ (fun hHeld => ?_)
          clear hK K
          refine norm_ (a' := ?_) ?_ ?_
          rotate_left
          ·
           show Act.put _ (some 25) _ = _
           simp only [Act.put, List.setIfInBounds_toArray, List.set_cons_zero, List.set_cons_succ, i64_w, i32_w]
           rfl
          refine pure_ (i := 8) (N := some 26) (v := ?_) (a' := ?_) #[Y,Y,Y,Y,Y,Y,Y,Y,Y] rfl rfl (any_of HT_.out (by kernel_rfl)) (fun _ _ _ h => h) (Or.inl ⟨by rfl, ?_⟩) ?_ ?_
          rotate_left
          ·
           intro w'
           go_simp
           with_reducible rfl
          rotate_left
          ·
           simp only [Act.put, List.setIfInBounds_toArray, List.set_cons_zero, List.set_cons_succ, i64_w, i32_w]
           rfl
          refine done_ (done_of HT_.out (by kernel_rfl)) ?_
          try go_wp2
          have n0_ := Aside0.mk (Kd.V_drew HO0.out)
          have n1_ := Aside0.mk (Kd.V_drew HO2_1.out)
          have n2_ := Aside0.mk (Kd.V_drew HL179_1.out)
          have n3_ := Aside0.mk (Kd.V_drew HL179_2.out)
          have n4_ := Aside0.mk (blk_drew BK176.out)
          have n5_ := Aside0.mk (Kd.C_drew HR179_1.out)
          have n6_ := Aside0.mk (Kd.C_drew HR179_2.out)
          have n7_ := Aside0.mk (below_drew1 HB.out)
          clear HO0
          clear HO2_1
          clear HL179_1
          clear HL179_2
          clear BK176
          clear HR179_1
          clear HR179_2
          clear HB
          have HO0 := n0_
          have HO2_1 := n1_
          have HL179_1 := n2_
          have HL179_2 := n3_
          have BK176 := n4_
          have HR179_1 := n5_
          have HR179_2 := n6_
          have HB := n7_
          clear n0_ n1_ n2_ n3_ n4_ n5_ n6_ n7_
          have p181 : 0 ≤ (t178 : Int) := of_decide_eq_true (by (with_reducible assumption))
          have q181 : t178 < (l0.length : Int) := of_decide_eq_true (by (with_reducible assumption))
          obtain ⟨ad181, A181_1, c181_1, A181_2, c181_2, e181, hx181_0, hx181_1, hx181_2, hl181_1, hi181_1, hl181_2, hi181_2⟩ := at_T63 (Kd.V_reads' HO0.out).2.2 t178 p181 q181
          obtain rfl : ad179 = ad181 := (by injection e181)
          obtain ⟨ce181, hce181, hMe181, hcc181⟩ := Kd.V_get HO0.out z63 t178 p181 q181
          obtain ⟨ua181_1, uc181_1, ua181_2, uc181_2, rfl, ul181_1, ge181_1, ul181_2, ge181_2⟩ := k63_openF hMe181
          have hv181_1 := hcc181 1 _ rfl
          rw [add_field _ _ 1 (by omega)] at hv181_1
          replace hv181_1 := Option.some.inj (hv181_1.symm.trans hx181_1)
          injection hv181_1 with hva_ hvn_ hvc_
          rw [hva_] at ge181_1
          rw [hvc_] at ul181_1
          have HL181_1 := Aside0.mk (show Kd.V k177 177 _ w.heap.size _ _ ((rd_T63 l0 t178).f1) from Kd.V_mk ul181_1 ge181_1)
          clear hva_ hvn_ hvc_ ge181_1 ul181_1
          have hv181_2 := hcc181 2 _ rfl
          rw [add_field _ _ 2 (by omega)] at hv181_2
          replace hv181_2 := Option.some.inj (hv181_2.symm.trans hx181_2)
          injection hv181_2 with hva_ hvn_ hvc_
          rw [hva_] at ge181_2
          rw [hvc_] at ul181_2
          have HL181_2 := Aside0.mk (show Kd.V k138 138 _ w.heap.size _ _ ((rd_T63 l0 t178).f2) from Kd.V_mk ul181_2 ge181_2)
          clear hva_ hvn_ hvc_ ge181_2 ul181_2
          clear hcc181 hce181
          have HR181_1 := Aside0.mk hi181_1
          have HC181_1 := Aside0.mk hl181_1
          clear hi181_1 hl181_1
          have HR181_2 := Aside0.mk hi181_2
          have HC181_2 := Aside0.mk hl181_2
          clear hi181_2 hl181_2
          replace p181 := eq_true p181
          replace q181 := eq_true q181
          refine start_ (n := 8) (S := fun w' => w'.cell? ⟨gb176, 0, none⟩ = some (.string a2_0) ∧ w'.cell? ⟨gb176, 1, none⟩ = some (.slice A2_1 l2_1.length c2_1) ∧ w'.cell? ⟨gb176, 2, none⟩ = some (.int .i64 a2_2) ∧ w'.cell? (ad179.add ((t178).toNat * 3)) = some (.string ((rd_T63 l0 t178).f0)) ∧ w'.cell? ⟨(ad179.add ((t178).toNat * 3)).block, (ad179.add ((t178).toNat * 3)).off + 1, none⟩ = some (.slice A181_1 ((rd_T63 l0 t178).f1).length c181_1) ∧ w'.cell? ⟨(ad179.add ((t178).toNat * 3)).block, (ad179.add ((t178).toNat * 3)).off + 2, none⟩ = some (.slice A181_2 ((rd_T63 l0 t178).f2).length c181_2)) (ds := []) #[Z,Z,Z,Z,Z,Z,Z,Z] (by kernel_rfl) rfl rfl ⟨(blk_cell BK176.out 0).trans rfl, (blk_cell BK176.out 1).trans rfl, (blk_cell BK176.out 2).trans rfl, hx181_0, hx181_1, hx181_2⟩ (fun hHeld => ?_); refine with_tabW peristyleref25_Add.tab8 peristyleref25_Add.bits8 (fun HT_ HW_ => ?_)
          generalize w35.drew = w36 at HO0 HO2_1 HL179_1 HL179_2 BK176 HR179_1 HR179_2 HB HL181_1 HL181_2 HR181_1 HR181_2 hx181_0 hx181_1 hx181_2 hHeld ⊢
          refine pure_ (i := 0) (N := some 27) (v := ?_) (a' := ?_) #[Y,Z,Z,Z,Z,Z,Z,Z] rfl rfl (any_of HT_.out (by kernel_rfl)) (fun _ _ _ h => h) (Or.inl ⟨by rfl, ?_⟩) ?_ ?_
          rotate_left
          ·
           intro w'
           go_simp
           with_reducible rfl
          rotate_left
          ·
           simp only [Act.put, List.setIfInBounds_toArray, List.set_cons_zero, List.set_cons_succ, i64_w, i32_w]
           rfl
          refine pure_ (i := 1) (N := some 28) (v := ?_) (a' := ?_) #[Y,Y,Z,Z,Z,Z,Z,Z] rfl rfl (any_of HT_.out (by kernel_rfl)) (fun _ _ _ h => h) (Or.inl ⟨by rfl, ?_⟩) ?_ ?_
          rotate_left
          ·
           intro w'
           go_simp
           with_reducible rfl
          rotate_left
          ·
           simp only [Act.put, List.setIfInBounds_toArray, List.set_cons_zero, List.set_cons_succ, i64_w, i32_w]
           rfl
          refine pure_ (i := 2) (N := some 29) (v := ?_) (a' := ?_) #[Y,Y,Y,Z,Z,Z,Z,Z] rfl rfl (any_of HT_.out (by kernel_rfl)) (fun _ _ _ h => h) (Or.inl ⟨by rfl, ?_⟩) ?_ ?_
          rotate_left
          ·
           intro w'
           go_simp
           with_reducible rfl
          rotate_left
          ·
           simp only [Act.put, List.setIfInBounds_toArray, List.set_cons_zero, List.set_cons_succ, i64_w, i32_w]
           rfl
          refine pure_ (i := 4) (N := some 31) (v := ?_) (a' := ?_) #[Y,Y,Y,Z,Y,Z,Z,Z] rfl rfl (any_of HT_.out (by kernel_rfl)) (fun _ _ _ h => h) (Or.inl ⟨by rfl, ?_⟩) ?_ ?_
          rotate_left
          ·
           intro w'
           go_simp
           with_reducible rfl
          rotate_left
          ·
           simp only [Act.put, List.setIfInBounds_toArray, List.set_cons_zero, List.set_cons_succ, i64_w, i32_w]
           rfl
          refine take_ (i := 3) (N := some 30) (v := ?_) (a' := ?_) #[Y,Y,Y,Y,Y,Z,Z,Z] rfl rfl (take_ofW HT_.out HW_.out (by kernel_rfl)) (fun _ _ _ h => h) (Or.inl ⟨by rfl, ?_⟩) hHeld ?_ ?_
          rotate_left
          ·
           rintro w' ⟨s0, s1, s2, s3, s4, s5⟩
           go_simp
           with_reducible rfl
          rotate_left
          ·
           simp only [Act.put, List.setIfInBounds_toArray, List.set_cons_zero, List.set_cons_succ, i64_w, i32_w]
           rfl
          refine take_ (i := 5) (N := some 32) (v := ?_) (a' := ?_) #[Y,Y,Y,Y,Y,Y,Z,Z] rfl rfl (take_ofW HT_.out HW_.out (by kernel_rfl)) (fun _ _ _ h => h) (Or.inl ⟨by rfl, ?_⟩) hHeld ?_ ?_
          rotate_left
          ·
           rintro w' ⟨s0, s1, s2, s3, s4, s5⟩
           go_simp
           with_reducible rfl
          rotate_left
          ·
           simp only [Act.put, List.setIfInBounds_toArray, List.set_cons_zero, List.set_cons_succ, i64_w, i32_w]
           rfl
          refine one_ (i := 6) (N := some 33) #[Y,Y,Y,Y,Y,Y,Y,Z] rfl rfl (one_of HT_.out (by kernel_rfl)) (by decide) (fun K hK => ?_)
          refine goes_ Try.func147 (by kernel_rfl) rfl #[.agg #[.string ((rd_T63 l0 t178).f0), .slice A181_1 ((rd_T63 l0 t178).f1).length c181_1, .slice A181_2 ((rd_T63 l0 t178).f2).length c181_2], .string a2_0] (by rfl) rfl rfl (by (try simp only [List.map_toArray, List.map_cons, List.map_nil]); rfl) ?_
          with_reducible refine (peristyleref25_projection.calls k ((rd_T63 l0 t178).f0) _ _ ((rd_T63 l0 t178).f1) _ _ ((rd_T63 l0 t178).f2) a2_0 t182 _ ?side1 ?side2 ?side3 ?side4 A14.out).mono ?_
          (case side1 => repeat exact HR181_1.out)
          (case side2 => exact HC181_1.out)
          (case side3 => repeat exact HR181_2.out)
          (case side4 => exact HC181_2.out)
          rintro e w37 ⟨rfl, hb⟩
          have HS3_ := (hb.cell (World.block_lt_of_cell? _ _ (hHeld.2.2.2.1))).trans (hHeld.2.2.2.1)
          have HS4_ := (hb.cell (World.block_lt_of_cell? _ _ (hHeld.2.2.2.2.1))).trans (hHeld.2.2.2.2.1)
          have HS5_ := (hb.cell (World.block_lt_of_cell? _ _ (hHeld.2.2.2.2.2))).trans (hHeld.2.2.2.2.2)
          refine ⟨_, rfl, ?_⟩
          have n0_ := Aside0.mk (Kd.V_below HO0.out hb)
          have n1_ := Aside0.mk (Kd.V_below HO2_1.out hb)
          have n2_ := Aside0.mk (Kd.V_below HL179_1.out hb)
          have n3_ := Aside0.mk (Kd.V_below HL179_2.out hb)
          have n4_ := Aside0.mk (Kd.V_below HL181_1.out hb)
          have n5_ := Aside0.mk (Kd.V_below HL181_2.out hb)
          have n6_ := Aside0.mk (blk_below (g := gb176) (o := .cells #[.string a2_0, .slice A2_1 l2_1.length c2_1, .int .i64 a2_2] 138 (0, 0)) BK176.out hb)
          have n7_ := Aside0.mk (Kd.C_below HR179_1.out hb)
          have n8_ := Aside0.mk (Kd.C_below HR179_2.out hb)
          have n9_ := Aside0.mk (Kd.C_below HR181_1.out hb)
          have n10_ := Aside0.mk (Kd.C_below HR181_2.out hb)
          have n11_ := Aside0.mk (below_step HB.out hb)
          clear HO0
          clear HO2_1
          clear HL179_1
          clear HL179_2
          clear HL181_1
          clear HL181_2
          clear BK176
          clear HR179_1
          clear HR179_2
          clear HR181_1
          clear HR181_2
          clear HB
          have HO0 := n0_
          have HO2_1 := n1_
          have HL179_1 := n2_
          have HL179_2 := n3_
          have HL181_1 := n4_
          have HL181_2 := n5_
          have BK176 := n6_
          have HR179_1 := n7_
          have HR179_2 := n8_
          have HR181_1 := n9_
          have HR181_2 := n10_
          have HB := n11_
          clear n0_ n1_ n2_ n3_ n4_ n5_ n6_ n7_ n8_ n9_ n10_ n11_
          (try clear hb)
          refine hK.out _ _ ⟨(blk_cell BK176.out 0).trans rfl, (blk_cell BK176.out 1).trans rfl, (blk_cell BK176.out 2).trans rfl, HS3_, HS4_, HS5_⟩ (fun hHeld => ?_)
          clear hK K
          refine norm_ (a' := ?_) ?_ ?_
          rotate_left
          ·
           show Act.put _ (some 33) _ = _
           simp only [Act.put, List.setIfInBounds_toArray, List.set_cons_zero, List.set_cons_succ, i64_w, i32_w]
           rfl
          refine pure_ (i := 7) (N := some 34) (v := ?_) (a' := ?_) #[Y,Y,Y,Y,Y,Y,Y,Y] rfl rfl (any_of HT_.out (by kernel_rfl)) (fun _ _ _ h => h) (Or.inl ⟨by rfl, ?_⟩) ?_ ?_
          rotate_left
          ·
           intro w'
           go_simp
           with_reducible rfl
          rotate_left
          ·
           simp only [Act.put, List.setIfInBounds_toArray, List.set_cons_zero, List.set_cons_succ, i64_w, i32_w]
           rfl
          refine done_ (done_of HT_.out (by kernel_rfl)) ?_
          have p183 : 0 ≤ (t178 : Int) := of_decide_eq_true (by (with_reducible assumption))
          have q183 : t178 < (l0.length : Int) := of_decide_eq_true (by (with_reducible assumption))
          obtain ⟨ad183, A183_1, c183_1, A183_2, c183_2, e183, hx183_0, hx183_1, hx183_2, hl183_1, hi183_1, hl183_2, hi183_2⟩ := at_T63 (Kd.V_reads' HO0.out).2.2 t178 p183 q183
          obtain rfl : ad179 = ad183 := (by injection e183)
          obtain ⟨ce183, hce183, hMe183, hcc183⟩ := Kd.V_get HO0.out z63 t178 p183 q183
          obtain ⟨ua183_1, uc183_1, ua183_2, uc183_2, rfl, ul183_1, ge183_1, ul183_2, ge183_2⟩ := k63_openF hMe183
          have hv183_1 := hcc183 1 _ rfl
          rw [add_field _ _ 1 (by omega)] at hv183_1
          replace hv183_1 := Option.some.inj (hv183_1.symm.trans hx183_1)
          injection hv183_1 with hva_ hvn_ hvc_
          rw [hva_] at ge183_1
          rw [hvc_] at ul183_1
          have HL183_1 := Aside0.mk (show Kd.V k177 177 _ w.heap.size _ _ ((rd_T63 l0 t178).f1) from Kd.V_mk ul183_1 ge183_1)
          clear hva_ hvn_ hvc_ ge183_1 ul183_1
          have hv183_2 := hcc183 2 _ rfl
          rw [add_field _ _ 2 (by omega)] at hv183_2
          replace hv183_2 := Option.some.inj (hv183_2.symm.trans hx183_2)
          injection hv183_2 with hva_ hvn_ hvc_
          rw [hva_] at ge183_2
          rw [hvc_] at ul183_2
          have HL183_2 := Aside0.mk (show Kd.V k138 138 _ w.heap.size _ _ ((rd_T63 l0 t178).f2) from Kd.V_mk ul183_2 ge183_2)
          clear hva_ hvn_ hvc_ ge183_2 ul183_2
          clear hcc183 hce183
          have HR183_1 := Aside0.mk hi183_1
          have HC183_1 := Aside0.mk hl183_1
          clear hi183_1 hl183_1
          have HR183_2 := Aside0.mk hi183_2
          have HC183_2 := Aside0.mk hl183_2
          clear hi183_2 hl183_2
          replace p183 := eq_true p183
          replace q183 := eq_true q183
          have p184 : 0 ≤ (t178 : Int) := of_decide_eq_true (by (with_reducible assumption))
          have q184 : t178 < (l0.length : Int) := of_decide_eq_true (by (with_reducible assumption))
          obtain ⟨ad184, A184_1, c184_1, A184_2, c184_2, e184, hx184_0, hx184_1, hx184_2, hl184_1, hi184_1, hl184_2, hi184_2⟩ := at_T63 (Kd.V_reads' HO0.out).2.2 t178 p184 q184
          obtain rfl : ad179 = ad184 := (by injection e184)
          obtain ⟨ce184, hce184, hMe184, hcc184⟩ := Kd.V_get HO0.out z63 t178 p184 q184
          obtain ⟨ua184_1, uc184_1, ua184_2, uc184_2, rfl, ul184_1, ge184_1, ul184_2, ge184_2⟩ := k63_openF hMe184
          have hv184_1 := hcc184 1 _ rfl
          rw [add_field _ _ 1 (by omega)] at hv184_1
          replace hv184_1 := Option.some.inj (hv184_1.symm.trans hx184_1)
          injection hv184_1 with hva_ hvn_ hvc_
          rw [hva_] at ge184_1
          rw [hvc_] at ul184_1
          have HL184_1 := Aside0.mk (show Kd.V k177 177 _ w.heap.size _ _ ((rd_T63 l0 t178).f1) from Kd.V_mk ul184_1 ge184_1)
          clear hva_ hvn_ hvc_ ge184_1 ul184_1
          have hv184_2 := hcc184 2 _ rfl
          rw [add_field _ _ 2 (by omega)] at hv184_2
          replace hv184_2 := Option.some.inj (hv184_2.symm.trans hx184_2)
          injection hv184_2 with hva_ hvn_ hvc_
          rw [hva_] at ge184_2
          rw [hvc_] at ul184_2
          have HL184_2 := Aside0.mk (show Kd.V k138 138 _ w.heap.size _ _ ((rd_T63 l0 t178).f2) from Kd.V_mk ul184_2 ge184_2)
          clear hva_ hvn_ hvc_ ge184_2 ul184_2
          clear hcc184 hce184
          have HR184_1 := Aside0.mk hi184_1
          have HC184_1 := Aside0.mk hl184_1
          clear hi184_1 hl184_1
          have HR184_2 := Aside0.mk hi184_2
          have HC184_2 := Aside0.mk hl184_2
          clear hi184_2 hl184_2
          replace p184 := eq_true p184
          replace q184 := eq_true q184
          have ea_ := Option.some.inj (hx183_1.symm.trans hx184_1)
          injection ea_ with ea_ en_ ec_
          subst ea_
          subst ec_
          clear en_
          have ea_ := Option.some.inj (hx183_2.symm.trans hx184_2)
          injection ea_ with ea_ en_ ec_
          subst ea_
          subst ec_
          clear en_
          try go_wp2_with (first | ((with_reducible refine gate_builtin (b := .append) (xs := #[.tmp 42, .tmp 47]) rfl ?_); at_builtin; refine Kd.N_append_rows k138 (w0 := w) w.heap.size rfl (.tmp 42) (.tmp 47) 61 138 (.agg #[(.string ⟨#[]⟩), (.slice none 0 0), (.int .i64 0)]) 48 rfl Try.underlying61 info138 rfl (by decide) (by omega) (.slice none 0 0) ([] : List (S138)) ((rd_T63 l0 t178).f2) _ _ _ (fun k_ => ((P0_ k_ ∨ P2_1_ k_) ∨ w.heap.size ≤ k_) ∧ k_ ≠ gb176) (fun k_ => ((fun k_ => ((P0_ k_ ∨ P2_1_ k_) ∨ w.heap.size ≤ k_) ∧ k_ ≠ gb176)) k_ ∧ some k_ ≠ (.slice none 0 0 : Value).ownBlock) rfl rfl ?aO ?aR (fun _ hk => hk) ?aF ?aB ?aS ?aL ?_; (case aR => exact (by exact Kd.V_F (Kd.V_mono (ok' := (fun k_ => ((fun k_ => ((P0_ k_ ∨ P2_1_ k_) ∨ w.heap.size ≤ k_) ∧ k_ ≠ gb176)) k_ ∧ some k_ ≠ (.slice none 0 0 : Value).ownBlock)) (HL181_2.out) (fun k_ hk => ⟨⟨hk.1, hk.2⟩, (by simp [Value.ownBlock])⟩)))); (case aB => exact HB.out); (case aF => exact (fun k_ hk => ⟨(.inr (Nat.le_trans (below_size HB.out) hk)), Kd.freshB (g := gb176) (o := .cells #[.string a2_0, .slice A2_1 l2_1.length c2_1, .int .i64 a2_2] 138 (0, 0)) BK176.out k_ hk⟩)); (case aO => exact ((Kd.N_nil _ _ _ _ (fun k_ => ((P0_ k_ ∨ P2_1_ k_) ∨ w.heap.size ≤ k_) ∧ k_ ≠ gb176)))); (case aS => exact (below_size HB.out)); (case aL => have := LMc29.out; omega); intro v186 w38 ho hb hg hat; rw [← Ny185.out] at ho; have n0_ := Aside0.mk (Kd.V_afterv (Kd.V_apart_nil HO0.out) hg hat); have n1_ := Aside0.mk (Kd.V_afterv (Kd.V_apart_nil HO2_1.out) hg hat); have n2_ := Aside0.mk (blk_grown (g := gb176) (o := .cells #[.string a2_0, .slice A2_1 l2_1.length c2_1, .int .i64 a2_2] 138 (0, 0)) BK176.out hg (by simp [Value.ownBlock])); have n3_ := Aside0.mk (Kd.V_afterv (Kd.V_apart_nil HL179_1.out) hg hat); have n4_ := Aside0.mk (Kd.V_afterv (Kd.V_apart_nil HL179_2.out) hg hat); have n5_ := Aside0.mk (Kd.V_afterv (Kd.V_apart_nil HL181_1.out) hg hat); have n6_ := Aside0.mk (Kd.V_afterv (Kd.V_apart_nil HL181_2.out) hg hat); have n7_ := Aside0.mk (Kd.V_afterv (Kd.V_apart_nil HL183_1.out) hg hat); have n8_ := Aside0.mk (Kd.V_afterv (Kd.V_apart_nil HL183_2.out) hg hat); have n9_ := Aside0.mk (Kd.V_afterv (Kd.V_apart_nil HL184_1.out) hg hat); have n10_ := Aside0.mk (Kd.V_afterv (Kd.V_apart_nil HL184_2.out) hg hat); have n11_ := Aside0.mk (hb); have n12_ := Aside0.mk (ho); clear HO0 HO2_1 BK176 HL179_1 HL179_2 HL181_1 HL181_2 HL183_1 HL183_2 HL184_1 HL184_2 HB; have HO0 := n0_; have HO2_1 := n1_; have BK176 := n2_; have HL179_1 := n3_; have HL179_2 := n4_; have HL181_1 := n5_; have HL181_2 := n6_; have HL183_1 := n7_; have HL183_2 := n8_; have HL184_1 := n9_; have HL184_2 := n10_; have HB := n11_; have HO187 := n12_; clear n0_ n1_ n2_ n3_ n4_ n5_ n6_ n7_ n8_ n9_ n10_ n11_ n12_ ho hb hg hat; have hcz39_0 : w38.cell? ⟨gb176, 0, none⟩ = some (.string a2_0) := (blk_cell BK176.out 0).trans rfl; have hcz39_1 : w38.cell? ⟨gb176, 1, none⟩ = some (.slice A2_1 l2_1.length c2_1) := (blk_cell BK176.out 1).trans rfl; have hcz39_2 : w38.cell? ⟨gb176, 2, none⟩ = some (.int .i64 a2_2) := (blk_cell BK176.out 2).trans rfl; have hfz39_0 := blk_frozen BK176.out 0; have hfz39_1 := blk_frozen BK176.out 1; have hfz39_2 := blk_frozen BK176.out 2) | ((with_reducible refine gate_builtin (b := .append) (xs := #[.tmp 51, .tmp 53]) rfl ?_); at_builtin; refine Kd.N_append k138 (w0 := w) w.heap.size rfl (.tmp 51) (.tmp 53) 61 138 (.agg #[(.string ⟨#[]⟩), (.slice none 0 0), (.int .i64 0)]) 48 rfl Try.underlying61 info138 rfl (by decide) (by omega) v186 y185 (⟨a2_0, l2_1, a2_2⟩ : S138) [.string a2_0, .slice A2_1 l2_1.length c2_1, .int .i64 a2_2] (fun k_ => ((P0_ k_ ∨ P2_1_ k_) ∨ w.heap.size ≤ k_) ∧ k_ ≠ gb176) (fun k_ => ((fun k_ => ((P0_ k_ ∨ P2_1_ k_) ∨ w.heap.size ≤ k_) ∧ k_ ≠ gb176)) k_ ∧ some k_ ≠ (v186 : Value).ownBlock) rfl rfl ?aP (fun _ hk => hk) ?aF ?aO ?aB ?aS ?aL ?_; (case aP => exact (k138_mkF _ _ (⟨a2_0, l2_1, a2_2⟩ : S138) (Kd.V_reads' (Kd.V_mono (ok' := (fun k_ => ((fun k_ => ((P0_ k_ ∨ P2_1_ k_) ∨ w.heap.size ≤ k_) ∧ k_ ≠ gb176)) k_ ∧ some k_ ≠ (v186 : Value).ownBlock)) (HO2_1.out) (fun k_ hk => ⟨⟨hk.1.1, hk.1.2⟩, hk.2⟩))).2.1 (Kd.V_F (e := 0) (base := 0) (Kd.V_mono (e := 0) (base := 0) (ok' := (fun k_ => ((fun k_ => ((P0_ k_ ∨ P2_1_ k_) ∨ w.heap.size ≤ k_) ∧ k_ ≠ gb176)) k_ ∧ some k_ ≠ (v186 : Value).ownBlock)) (HO2_1.out) (fun k_ hk => ⟨⟨hk.1.1, hk.1.2⟩, hk.2⟩))))); (case aB => exact HB.out); (case aF => exact (fun k_ hk => ⟨(.inr (Nat.le_trans (below_size HB.out) hk)), Kd.freshB (g := gb176) (o := .cells #[.string a2_0, .slice A2_1 l2_1.length c2_1, .int .i64 a2_2] 138 (0, 0)) BK176.out k_ hk⟩)); (case aO => exact HO187.out); (case aS => exact (below_size HB.out)); (case aL => have := LMc30.out; omega); intro v189 w40 ho hb hg hat; rw [← Ny188.out] at ho; have n0_ := Aside0.mk (Kd.V_afterv (ok := (fun k_ => ((P0_ k_ ∨ P2_1_ k_) ∨ w.heap.size ≤ k_) ∧ k_ ≠ gb176)) HO0.out hg hat); have n1_ := Aside0.mk (Kd.V_afterv (ok := (fun k_ => ((P0_ k_ ∨ P2_1_ k_) ∨ w.heap.size ≤ k_) ∧ k_ ≠ gb176)) HO2_1.out hg hat); have n2_ := Aside0.mk (blk_grown (g := gb176) (o := .cells #[.string a2_0, .slice A2_1 l2_1.length c2_1, .int .i64 a2_2] 138 (0, 0)) BK176.out hg (Kd.N_away HO187.out (fun _ hk => hk.2))); have n3_ := Aside0.mk (Kd.V_afterv (ok := (fun k_ => ((P0_ k_ ∨ P2_1_ k_) ∨ w.heap.size ≤ k_) ∧ k_ ≠ gb176)) HL179_1.out hg hat); have n4_ := Aside0.mk (Kd.V_afterv (ok := (fun k_ => ((P0_ k_ ∨ P2_1_ k_) ∨ w.heap.size ≤ k_) ∧ k_ ≠ gb176)) HL179_2.out hg hat); have n5_ := Aside0.mk (Kd.V_afterv (ok := (fun k_ => ((P0_ k_ ∨ P2_1_ k_) ∨ w.heap.size ≤ k_) ∧ k_ ≠ gb176)) HL181_1.out hg hat); have n6_ := Aside0.mk (Kd.V_afterv (ok := (fun k_ => ((P0_ k_ ∨ P2_1_ k_) ∨ w.heap.size ≤ k_) ∧ k_ ≠ gb176)) HL181_2.out hg hat); have n7_ := Aside0.mk (Kd.V_afterv (ok := (fun k_ => ((P0_ k_ ∨ P2_1_ k_) ∨ w.heap.size ≤ k_) ∧ k_ ≠ gb176)) HL183_1.out hg hat); have n8_ := Aside0.mk (Kd.V_afterv (ok := (fun k_ => ((P0_ k_ ∨ P2_1_ k_) ∨ w.heap.size ≤ k_) ∧ k_ ≠ gb176)) HL183_2.out hg hat); have n9_ := Aside0.mk (Kd.V_afterv (ok := (fun k_ => ((P0_ k_ ∨ P2_1_ k_) ∨ w.heap.size ≤ k_) ∧ k_ ≠ gb176)) HL184_1.out hg hat); have n10_ := Aside0.mk (Kd.V_afterv (ok := (fun k_ => ((P0_ k_ ∨ P2_1_ k_) ∨ w.heap.size ≤ k_) ∧ k_ ≠ gb176)) HL184_2.out hg hat); have n11_ := Aside0.mk (hb); have n12_ := Aside0.mk (ho); clear HO0 HO2_1 BK176 HL179_1 HL179_2 HL181_1 HL181_2 HL183_1 HL183_2 HL184_1 HL184_2 HB HO187; have HO0 := n0_; have HO2_1 := n1_; have BK176 := n2_; have HL179_1 := n3_; have HL179_2 := n4_; have HL181_1 := n5_; have HL181_2 := n6_; have HL183_1 := n7_; have HL183_2 := n8_; have HL184_1 := n9_; have HL184_2 := n10_; have HB := n11_; have HO190 := n12_; clear n0_ n1_ n2_ n3_ n4_ n5_ n6_ n7_ n8_ n9_ n10_ n11_ n12_ ho hb hg hat; obtain ⟨Ao41, co41, eo41⟩ := Kd.N_slice HO190.out; subst eo41) | ((with_reducible refine gate_callee (f := 148) rfl ?_); refine goesL_ (some 55) rfl rfl Try.func148 (by kernel_rfl) rfl #[.slice (some ad179) l0.length c0, .int .i64 t178, .slice Ao41 y188.length co41] rfl (by (try simp only [List.map_toArray, List.map_cons, List.map_nil]); rfl) ?_; (with_reducible refine (peristyleref25_with.calls (fun k_ => ((((P0_ k_ ∨ P2_1_ k_) ∨ w.heap.size ≤ k_) ∧ k_ ≠ gb176) ∧ some k_ ≠ (.slice Ao41 y188.length co41 : Value).ownBlock)) _ _ l0 t178 (fun k_ => (((P0_ k_ ∨ P2_1_ k_) ∨ w.heap.size ≤ k_) ∧ k_ ≠ gb176)) _ _ y188 t191 _ ?side1 ?side2 A31.out).mono ?_); (case side1 => exact HO0.out); (case side2 => exact Kd.N_V (HO190.out)); rintro e w42 ⟨v192, rfl, ho0, hb⟩; refine ⟨_, rfl, ?_⟩; have n0_ := Aside0.mk (Kd.V_elder' HO0.out (Kd.N_base ho0) hb); have n1_ := Aside0.mk (Kd.V_elder' HO2_1.out (Kd.N_base ho0) hb); have n2_ := Aside0.mk (Kd.V_elder' HL179_1.out (Kd.N_base ho0) hb); have n3_ := Aside0.mk (Kd.V_elder' HL179_2.out (Kd.N_base ho0) hb); have n4_ := Aside0.mk (Kd.V_elder' HL181_1.out (Kd.N_base ho0) hb); have n5_ := Aside0.mk (Kd.V_elder' HL181_2.out (Kd.N_base ho0) hb); have n6_ := Aside0.mk (Kd.V_elder' HL183_1.out (Kd.N_base ho0) hb); have n7_ := Aside0.mk (Kd.V_elder' HL183_2.out (Kd.N_base ho0) hb); have n8_ := Aside0.mk (Kd.V_elder' HL184_1.out (Kd.N_base ho0) hb); have n9_ := Aside0.mk (Kd.V_elder' HL184_2.out (Kd.N_base ho0) hb); have n10_ := Aside0.mk (Kd.N_elder' HO190.out (Kd.N_base ho0) hb); have n11_ := Aside0.mk (Kd.N_lower (Kd.N_mono (ok' := fun k_ => ((P0_ k_ ∨ P2_1_ k_) ∨ w.heap.size ≤ k_) ∧ k_ ≠ gb176) ho0 (fun k_ hk_ => ⟨Or.elim hk_ (fun hs_ => Or.elim hs_ (fun hs_ => hs_.1.1) (fun hs_ => hs_.1)) (fun hn_ => (.inr (Nat.le_trans (below_size HB.out) hn_))), Or.elim hk_ (fun hs_ => Or.elim hs_ (fun hs_ => hs_.1.2) (fun hs_ => hs_.2)) (fun hn_ => (Kd.freshB (g := gb176) (o := .cells #[.string a2_0, .slice A2_1 l2_1.length c2_1, .int .i64 a2_2] 138 (0, 0)) BK176.out k_ hn_))⟩)) (below_size HB.out)); have n12_ := Aside0.mk (blk_below (g := gb176) (o := .cells #[.string a2_0, .slice A2_1 l2_1.length c2_1, .int .i64 a2_2] 138 (0, 0)) BK176.out hb); have n13_ := Aside0.mk (below_step HB.out hb); clear HO0 HO2_1 HL179_1 HL179_2 HL181_1 HL181_2 HL183_1 HL183_2 HL184_1 HL184_2 HO190 BK176 HB; have HO0 := n0_; have HO2_1 := n1_; have HL179_1 := n2_; have HL179_2 := n3_; have HL181_1 := n4_; have HL181_2 := n5_; have HL183_1 := n6_; have HL183_2 := n7_; have HL184_1 := n8_; have HL184_2 := n9_; have HO190 := n10_; have HO193 := n11_; have BK176 := n12_; have HB := n13_; clear n0_ n1_ n2_ n3_ n4_ n5_ n6_ n7_ n8_ n9_ n10_ n11_ n12_ n13_; (try clear hb); (try clear ho0)))
          go_ret2
          exact ⟨_, by rfl, by exact Kd.N_mono HO193.out (fun _ hk => hk.1), by repeat exact HB.out⟩
         ·
          rw [if_neg c30] at H
          exact absurd H (by simp)
        ·
         rw [if_neg c29] at H
         exact absurd H (by simp)
     ·
      replace c13 := Bool.eq_false_iff.mpr c13
      subst c13
      have H1 : (some (([] : List (S63)), 1)) = some (r1, r2) := by rw [if_neg (show ¬ (false = true) by decide)] at H; exact H
      clear H
      have H := H1
      clear H1
      simp only [Option.some.injEq, Prod.mk.injEq] at H
      obtain ⟨rfl, rfl⟩ := H
      go_enter Try.func115, Try.ntmps115
      try go_wp2_with (first | ((with_reducible refine gate_dst (N := 5) rfl ?_); refine box_event ?hg (N := 5) ?hd (cs := #[.string a2_0, .slice A2_1 l2_1.length c2_1, .int .i64 a2_2]) (t := 138) ?hr ?_; (case hd => rfl); (case hg => rfl); (case hr => (go_simp; done)); intro gb176 hg w43 hbox hb; have n0_ := Aside0.mk (Kd.V_below (Kd.V_elderB HO0.out gb176 (Nat.le_of_eq hg.symm)) hb); have n1_ := Aside0.mk (Kd.V_below (Kd.V_elderB HO2_1.out gb176 (Nat.le_of_eq hg.symm)) hb); have n2_ := Aside0.mk (below_step HB.out hb); have n3_ := Aside0.mk (hbox); have n4_ := Aside0.mk ((by rw [hg]; exact (below_size HB.out) : w.heap.size ≤ gb176)); have n5_ := Aside0.mk ((by rw [hg]; exact (below_size HB.out) : w.heap.size ≤ gb176)); clear HO0 HO2_1 HB; have HO0 := n0_; have HO2_1 := n1_; have HB := n2_; have BK176 := n3_; have GW176 := n4_; have GE176 := n5_; clear n0_ n1_ n2_ n3_ n4_ n5_ hb hbox hg) | ((with_reducible refine gate_callee (f := 35) rfl ?_); refine goesL_ (some 11) rfl rfl Try.func35 (by kernel_rfl) rfl #[.slice A0 l0.length c0] rfl (by (try simp only [List.map_toArray, List.map_cons, List.map_nil]); rfl) ?_; (with_reducible refine (peristyleref25_May.calls k _ _ l0 true _ ?side1 ?side2 A4.out).mono ?_); (case side1 => repeat (exact (Kd.V_reads' HO0.out).2.2)); (case side2 => exact (Kd.V_reads' HO0.out).2.1); rintro e w44 ⟨rfl, hb⟩; refine ⟨_, rfl, ?_⟩; have n0_ := Aside0.mk (Kd.V_below HO0.out hb); have n1_ := Aside0.mk (Kd.V_below HO2_1.out hb); have n2_ := Aside0.mk (blk_below (g := gb176) (o := .cells #[.string a2_0, .slice A2_1 l2_1.length c2_1, .int .i64 a2_2] 138 (0, 0)) BK176.out hb); have n3_ := Aside0.mk (below_step HB.out hb); clear HO0 HO2_1 BK176 HB; have HO0 := n0_; have HO2_1 := n1_; have BK176 := n2_; have HB := n3_; clear n0_ n1_ n2_ n3_; (try clear hb)) | ((with_reducible refine gate_callee (f := 146) rfl ?_); refine goesL_ (some 15) rfl rfl Try.func146 (by kernel_rfl) rfl #[.slice A0 l0.length c0, .string a1] rfl (by (try simp only [List.map_toArray, List.map_cons, List.map_nil]); rfl) ?_; (with_reducible refine (peristyleref25_Find.calls k _ _ l0 a1 t178 _ ?side1 ?side2 A6.out).mono ?_); (case side1 => repeat (exact (Kd.V_reads' HO0.out).2.2)); (case side2 => exact (Kd.V_reads' HO0.out).2.1); rintro e w' ⟨rfl, ⟨nd, rfl⟩⟩; refine ⟨_, rfl, ?_⟩))
      (try (rw [drewN_self w44]; generalize hq_ : World.drewN w44 _ = w44; have n0_ : Aside0 (Kd.V k63 63 w44 w.heap.size (fun k_ => ((P0_ k_ ∨ P2_1_ k_) ∨ w.heap.size ≤ k_) ∧ k_ ≠ gb176) (.slice A0 l0.length c0) l0) := ⟨by rw [← hq_]; exact (by (with_reducible repeat apply Kd.V_drewN); exact HO0.out)⟩; have n1_ : Aside0 (Kd.V (Kd.int .i64) 3 w44 w.heap.size (fun k_ => ((P0_ k_ ∨ P2_1_ k_) ∨ w.heap.size ≤ k_) ∧ k_ ≠ gb176) (.slice A2_1 l2_1.length c2_1) l2_1) := ⟨by rw [← hq_]; exact (by (with_reducible repeat apply Kd.V_drewN); exact HO2_1.out)⟩; have n2_ : Aside0 (w44.heap[gb176]? = some (.cells #[.string a2_0, .slice A2_1 l2_1.length c2_1, .int .i64 a2_2] 138 (0, 0))) := ⟨by rw [← hq_]; exact (by (with_reducible repeat (refine blk_drewN ?_ _)); exact BK176.out)⟩; have n3_ : Aside0 (Below w.heap.size w w44) := ⟨by rw [← hq_]; exact (by repeat ((with_reducible first | exact HB.out | apply pw_below_drewN)))⟩; clear HO0 HO2_1 BK176 HB hq_; have HO0 := n0_; have HO2_1 := n1_; have BK176 := n2_; have HB := n3_; clear n0_ n1_ n2_ n3_))
      have n0_ := Aside0.mk (Kd.V_drew HO0.out)
      have n1_ := Aside0.mk (Kd.V_drew HO2_1.out)
      have n2_ := Aside0.mk (blk_drew BK176.out)
      have n3_ := Aside0.mk (below_drew1 HB.out)
      clear HO0
      clear HO2_1
      clear BK176
      clear HB
      have HO0 := n0_
      have HO2_1 := n1_
      have BK176 := n2_
      have HB := n3_
      clear n0_ n1_ n2_ n3_
      have p179 : 0 ≤ (t178 : Int) := of_decide_eq_true (by (with_reducible assumption))
      have q179 : t178 < (l0.length : Int) := of_decide_eq_true (by (with_reducible assumption))
      obtain ⟨ad179, A179_1, c179_1, A179_2, c179_2, e179, hx179_0, hx179_1, hx179_2, hl179_1, hi179_1, hl179_2, hi179_2⟩ := at_T63 (Kd.V_reads' HO0.out).2.2 t178 p179 q179
      cases e179
      obtain ⟨ce179, hce179, hMe179, hcc179⟩ := Kd.V_get HO0.out z63 t178 p179 q179
      obtain ⟨ua179_1, uc179_1, ua179_2, uc179_2, rfl, ul179_1, ge179_1, ul179_2, ge179_2⟩ := k63_openF hMe179
      have hv179_1 := hcc179 1 _ rfl
      rw [add_field _ _ 1 (by omega)] at hv179_1
      replace hv179_1 := Option.some.inj (hv179_1.symm.trans hx179_1)
      injection hv179_1 with hva_ hvn_ hvc_
      rw [hva_] at ge179_1
      rw [hvc_] at ul179_1
      have HL179_1 := Aside0.mk (show Kd.V k177 177 _ w.heap.size _ _ ((rd_T63 l0 t178).f1) from Kd.V_mk ul179_1 ge179_1)
      clear hva_ hvn_ hvc_ ge179_1 ul179_1
      have hv179_2 := hcc179 2 _ rfl
      rw [add_field _ _ 2 (by omega)] at hv179_2
      replace hv179_2 := Option.some.inj (hv179_2.symm.trans hx179_2)
      injection hv179_2 with hva_ hvn_ hvc_
      rw [hva_] at ge179_2
      rw [hvc_] at ul179_2
      have HL179_2 := Aside0.mk (show Kd.V k138 138 _ w.heap.size _ _ ((rd_T63 l0 t178).f2) from Kd.V_mk ul179_2 ge179_2)
      clear hva_ hvn_ hvc_ ge179_2 ul179_2
      clear hcc179 hce179
      have HR179_1 := Aside0.mk hi179_1
      have HC179_1 := Aside0.mk hl179_1
      clear hi179_1 hl179_1
      have HR179_2 := Aside0.mk hi179_2
      have HC179_2 := Aside0.mk hl179_2
      clear hi179_2 hl179_2
      replace p179 := eq_true p179
      replace q179 := eq_true q179
      refine start_ (n := 9) (S := fun w' => w'.cell? ⟨gb176, 0, none⟩ = some (.string a2_0) ∧ w'.cell? ⟨gb176, 1, none⟩ = some (.slice A2_1 l2_1.length c2_1) ∧ w'.cell? ⟨gb176, 2, none⟩ = some (.int .i64 a2_2) ∧ w'.cell? (ad179.add ((t178).toNat * 3)) = some (.string ((rd_T63 l0 t178).f0)) ∧ w'.cell? ⟨(ad179.add ((t178).toNat * 3)).block, (ad179.add ((t178).toNat * 3)).off + 1, none⟩ = some (.slice A179_1 ((rd_T63 l0 t178).f1).length c179_1) ∧ w'.cell? ⟨(ad179.add ((t178).toNat * 3)).block, (ad179.add ((t178).toNat * 3)).off + 2, none⟩ = some (.slice A179_2 ((rd_T63 l0 t178).f2).length c179_2)) (ds := []) #[Z,Z,Z,Z,Z,Z,Z,Z,Z] (by kernel_rfl) rfl rfl ⟨(blk_cell BK176.out 0).trans rfl, (blk_cell BK176.out 1).trans rfl, (blk_cell BK176.out 2).trans rfl, hx179_0, hx179_1, hx179_2⟩ (fun hHeld => ?_); refine with_tabW peristyleref25_Add.tab6 peristyleref25_Add.bits6 (fun HT_ HW_ => ?_)
      generalize w44.drew = w45 at HO0 HO2_1 BK176 HB HL179_1 HL179_2 HR179_1 HR179_2 hx179_0 hx179_1 hx179_2 hHeld ⊢
      refine pure_ (i := 1) (N := some 19) (v := ?_) (a' := ?_) #[Z,Y,Z,Z,Z,Z,Z,Z,Z] rfl rfl (any_of HT_.out (by kernel_rfl)) (fun _ _ _ h => h) (Or.inl ⟨by rfl, ?_⟩) ?_ ?_
      rotate_left
      ·
       intro w'
       go_simp
       with_reducible rfl
      rotate_left
      ·
       simp only [Act.put, List.setIfInBounds_toArray, List.set_cons_zero, List.set_cons_succ, i64_w, i32_w]
       rfl
      refine pure_ (i := 2) (N := some 20) (v := ?_) (a' := ?_) #[Z,Y,Y,Z,Z,Z,Z,Z,Z] rfl rfl (any_of HT_.out (by kernel_rfl)) (fun _ _ _ h => h) (Or.inl ⟨by rfl, ?_⟩) ?_ ?_
      rotate_left
      ·
       intro w'
       go_simp
       with_reducible rfl
      rotate_left
      ·
       simp only [Act.put, List.setIfInBounds_toArray, List.set_cons_zero, List.set_cons_succ, i64_w, i32_w]
       rfl
      refine pure_ (i := 3) (N := some 21) (v := ?_) (a' := ?_) #[Z,Y,Y,Y,Z,Z,Z,Z,Z] rfl rfl (any_of HT_.out (by kernel_rfl)) (fun _ _ _ h => h) (Or.inl ⟨by rfl, ?_⟩) ?_ ?_
      rotate_left
      ·
       intro w'
       go_simp
       with_reducible rfl
      rotate_left
      ·
       simp only [Act.put, List.setIfInBounds_toArray, List.set_cons_zero, List.set_cons_succ, i64_w, i32_w]
       rfl
      refine pure_ (i := 4) (N := some 22) (v := ?_) (a' := ?_) #[Z,Y,Y,Y,Y,Z,Z,Z,Z] rfl rfl (any_of HT_.out (by kernel_rfl)) (fun _ _ _ h => h) (Or.inl ⟨by rfl, ?_⟩) ?_ ?_
      rotate_left
      ·
       intro w'
       go_simp
       with_reducible rfl
      rotate_left
      ·
       simp only [Act.put, List.setIfInBounds_toArray, List.set_cons_zero, List.set_cons_succ, i64_w, i32_w]
       rfl
      refine take_ (i := 0) (N := some 18) (v := ?_) (a' := ?_) #[Y,Y,Y,Y,Y,Z,Z,Z,Z] rfl rfl (take_ofW HT_.out HW_.out (by kernel_rfl)) (fun _ _ _ h => h) (Or.inl ⟨by rfl, ?_⟩) hHeld ?_ ?_
      rotate_left
      ·
       rintro w' ⟨s0, s1, s2, s3, s4, s5⟩
       go_simp
       with_reducible rfl
      rotate_left
      ·
       simp only [Act.put, List.setIfInBounds_toArray, List.set_cons_zero, List.set_cons_succ, i64_w, i32_w]
       rfl
      refine take_ (i := 5) (N := some 23) (v := ?_) (a' := ?_) #[Y,Y,Y,Y,Y,Y,Z,Z,Z] rfl rfl (take_ofW HT_.out HW_.out (by kernel_rfl)) (fun _ _ _ h => h) (Or.inl ⟨by rfl, ?_⟩) hHeld ?_ ?_
      rotate_left
      ·
       rintro w' ⟨s0, s1, s2, s3, s4, s5⟩
       go_simp
       with_reducible rfl
      rotate_left
      ·
       simp only [Act.put, List.setIfInBounds_toArray, List.set_cons_zero, List.set_cons_succ, i64_w, i32_w]
       rfl
      refine pure_ (i := 6) (N := some 24) (v := ?_) (a' := ?_) #[Y,Y,Y,Y,Y,Y,Y,Z,Z] rfl rfl (any_of HT_.out (by kernel_rfl)) (fun _ _ _ h => h) (Or.inl ⟨by rfl, ?_⟩) ?_ ?_
      rotate_left
      ·
       intro w'
       go_simp
       with_reducible rfl
      rotate_left
      ·
       simp only [Act.put, List.setIfInBounds_toArray, List.set_cons_zero, List.set_cons_succ, i64_w, i32_w]
       rfl
      refine one_ (i := 7) (N := some 25) #[Y,Y,Y,Y,Y,Y,Y,Y,Z] rfl rfl (one_of HT_.out (by kernel_rfl)) (by decide) (fun K hK => ?_)
      refine goes_ Try.func131 (by kernel_rfl) rfl #[.agg #[.string a2_0, .slice A2_1 l2_1.length c2_1, .int .i64 a2_2], .int .i64 (((rd_T63 l0 t178).f1).length : Int)] (by rfl) rfl rfl (by (try simp only [List.map_toArray, List.map_cons, List.map_nil]); rfl) ?_
      with_reducible refine (peristyleref25_Projection.calls k a2_0 _ _ l2_1 a2_2 (((rd_T63 l0 t178).f1).length : Int) false _ ?side1 ?side2 A12.out).mono ?_
      (case side1 => repeat (exact (Kd.V_reads' HO2_1.out).2.2))
      (case side2 => exact (Kd.V_reads' HO2_1.out).2.1)
      rintro e w46 ⟨rfl, hb⟩
      have HS3_ := (hb.cell (World.block_lt_of_cell? _ _ (hHeld.2.2.2.1))).trans (hHeld.2.2.2.1)
      have HS4_ := (hb.cell (World.block_lt_of_cell? _ _ (hHeld.2.2.2.2.1))).trans (hHeld.2.2.2.2.1)
      have HS5_ := (hb.cell (World.block_lt_of_cell? _ _ (hHeld.2.2.2.2.2))).trans (hHeld.2.2.2.2.2)
      refine ⟨_, rfl, ?_⟩
      have n0_ := Aside0.mk (Kd.V_below HO0.out hb)
      have n1_ := Aside0.mk (Kd.V_below HO2_1.out hb)
      have n2_ := Aside0.mk (Kd.V_below HL179_1.out hb)
      have n3_ := Aside0.mk (Kd.V_below HL179_2.out hb)
      have n4_ := Aside0.mk (blk_below (g := gb176) (o := .cells #[.string a2_0, .slice A2_1 l2_1.length c2_1, .int .i64 a2_2] 138 (0, 0)) BK176.out hb)
      have n5_ := Aside0.mk (Kd.C_below HR179_1.out hb)
      have n6_ := Aside0.mk (Kd.C_below HR179_2.out hb)
      have n7_ := Aside0.mk (below_step HB.out hb)
      clear HO0
      clear HO2_1
      clear HL179_1
      clear HL179_2
      clear BK176
      clear HR179_1
      clear HR179_2
      clear HB
      have HO0 := n0_
      have HO2_1 := n1_
      have HL179_1 := n2_
      have HL179_2 := n3_
      have BK176 := n4_
      have HR179_1 := n5_
      have HR179_2 := n6_
      have HB := n7_
      clear n0_ n1_ n2_ n3_ n4_ n5_ n6_ n7_
      (try clear hb)
      refine hK.out _ _ ⟨(blk_cell BK176.out 0).trans rfl, (blk_cell BK176.out 1).trans rfl, (blk_cell BK176.out 2).trans rfl, HS3_, HS4_, HS5_⟩ (fun hHeld => ?_)
      clear hK K
      refine norm_ (a' := ?_) ?_ ?_
      rotate_left
      ·
       show Act.put _ (some 25) _ = _
       simp only [Act.put, List.setIfInBounds_toArray, List.set_cons_zero, List.set_cons_succ, i64_w, i32_w]
       rfl
      refine pure_ (i := 8) (N := some 26) (v := ?_) (a' := ?_) #[Y,Y,Y,Y,Y,Y,Y,Y,Y] rfl rfl (any_of HT_.out (by kernel_rfl)) (fun _ _ _ h => h) (Or.inl ⟨by rfl, ?_⟩) ?_ ?_
      rotate_left
      ·
       intro w'
       go_simp
       with_reducible rfl
      rotate_left
      ·
       simp only [Act.put, List.setIfInBounds_toArray, List.set_cons_zero, List.set_cons_succ, i64_w, i32_w]
       rfl
      refine done_ (done_of HT_.out (by kernel_rfl)) ?_
      try go_wp2
      go_ret2
      exact ⟨_, by rfl, by exact Kd.N_nil _ _ _ _ _, by repeat exact HB.out⟩
    ·
     rw [if_neg c11] at H
     exact absurd H (by simp)
   ·
    rw [if_neg c10] at H
    exact absurd H (by simp)
 ·
  replace c5 := Bool.eq_false_iff.mpr c5
  subst c5
  have H1 : (some (([] : List (S63)), 1)) = some (r1, r2) := by rw [if_neg (show ¬ (false = true) by decide)] at H; exact H
  clear H
  have H := H1
  clear H1
  simp only [Option.some.injEq, Prod.mk.injEq] at H
  obtain ⟨rfl, rfl⟩ := H
  go_enter Try.func115, Try.ntmps115
  go_wp2_with (first | ((with_reducible refine gate_dst (N := 5) rfl ?_); refine box_event ?hg (N := 5) ?hd (cs := #[.string a2_0, .slice A2_1 l2_1.length c2_1, .int .i64 a2_2]) (t := 138) ?hr ?_; (case hd => rfl); (case hg => rfl); (case hr => (go_simp; done)); intro gb176 hg w47 hbox hb; have n0_ := Aside0.mk (Kd.V_below (Kd.V_elderB HO0.out gb176 (Nat.le_of_eq hg.symm)) hb); have n1_ := Aside0.mk (Kd.V_below (Kd.V_elderB HO2_1.out gb176 (Nat.le_of_eq hg.symm)) hb); have n2_ := Aside0.mk (below_step HB.out hb); have n3_ := Aside0.mk (hbox); have n4_ := Aside0.mk ((by rw [hg]; exact (below_size HB.out) : w.heap.size ≤ gb176)); have n5_ := Aside0.mk ((by rw [hg]; exact (below_size HB.out) : w.heap.size ≤ gb176)); clear HO0 HO2_1 HB; have HO0 := n0_; have HO2_1 := n1_; have HB := n2_; have BK176 := n3_; have GW176 := n4_; have GE176 := n5_; clear n0_ n1_ n2_ n3_ n4_ n5_ hb hbox hg) | ((with_reducible refine gate_callee (f := 35) rfl ?_); refine goesL_ (some 11) rfl rfl Try.func35 (by kernel_rfl) rfl #[.slice A0 l0.length c0] rfl (by (try simp only [List.map_toArray, List.map_cons, List.map_nil]); rfl) ?_; (with_reducible refine (peristyleref25_May.calls k _ _ l0 false _ ?side1 ?side2 A4.out).mono ?_); (case side1 => repeat (exact (Kd.V_reads' HO0.out).2.2)); (case side2 => exact (Kd.V_reads' HO0.out).2.1); rintro e w48 ⟨rfl, hb⟩; refine ⟨_, rfl, ?_⟩; have n0_ := Aside0.mk (Kd.V_below HO0.out hb); have n1_ := Aside0.mk (Kd.V_below HO2_1.out hb); have n2_ := Aside0.mk (blk_below (g := gb176) (o := .cells #[.string a2_0, .slice A2_1 l2_1.length c2_1, .int .i64 a2_2] 138 (0, 0)) BK176.out hb); have n3_ := Aside0.mk (below_step HB.out hb); clear HO0 HO2_1 BK176 HB; have HO0 := n0_; have HO2_1 := n1_; have BK176 := n2_; have HB := n3_; clear n0_ n1_ n2_ n3_; (try clear hb)))
  go_ret2
  exact ⟨_, by rfl, by exact Kd.N_nil _ _ _ _ _, by repeat exact HB.out⟩

/-! ### peristylelaw32_table: function 75 -/
def peristylelaw32_table.f (k : Nat)  : Option (ByteArray × (List (S177)) × (List (S138))) := (peristyleref25_Create.f k ([] : List (S63)) (⟨#[116]⟩ : ByteArray) (([(⟨(⟨#[97]⟩ : ByteArray), 1, false⟩ : S177), (⟨(⟨#[98]⟩ : ByteArray), 1, false⟩ : S177)] : List (S177)))).bind fun bt198 => ((peristyleref25_Add.f k bt198.1 (⟨#[116]⟩ : ByteArray) (⟨#[112]⟩ : ByteArray) (([1] : List Int)) 1).bind fun bt205 => (if 0 < (bt205.1.length : Int) then (some ((rd_T63 bt205.1 0).f0, (rd_T63 bt205.1 0).f1, (rd_T63 bt205.1 0).f2)) else (none)))
theorem peristylelaw32_table.mono : ∀ k, LeO (peristylelaw32_table.f k ) (peristylelaw32_table.f (k + 1) ) := by
 intro  k
 unfold peristylelaw32_table.f
 repeat' first
   | (with_reducible exact peristyleref25_Add.mono _ _ _ _ _ _)
   | (with_reducible exact peristyleref25_Create.mono _ _ _ _)
   | (with_reducible exact LeO.refl _)
   | (with_reducible exact LeO.none _)
   | (with_reducible refine LeO.ite ?_ ?_)
   | (with_reducible refine LeO.bind ?_ (fun _ => ?_))
   | exact peristyleref25_Add.mono _ _ _ _ _ _
   | exact peristyleref25_Create.mono _ _ _ _
   | exact LeO.none _
   | refine LeO.ite ?_ ?_
   | refine LeO.bind ?_ (fun _ => ?_)
set_option maxHeartbeats 8000000 in
set_option maxRecDepth 100000 in
theorem peristylelaw32_table.calls (k : Nat)  (r1 : ByteArray) (r2 : List (S177)) (r3 : List (S138)) (w : World) (h : peristylelaw32_table.f k  = some (r1, r2, r3)) :
  Calls Try.prog 75 #[] w fun e w' => ∃ v1_ v2_ : Value, e = .returned (.agg #[.string r1, v1_, v2_]) ∧ Kd.V k177 177 w' w.heap.size (fun k_ => (w.heap.size ≤ k_)) v1_ r2 ∧ Kd.V k138 138 w' w.heap.size (fun k_ => (w.heap.size ≤ k_)) v2_ r3 ∧ Below w.heap.size w w' := by
 have hu63 := Try.underlying63
 have hu177 := Try.underlying177
 have hu138 := Try.underlying138
 have HB := Aside0.mk (Below.refl w.heap.size w)
 have H : ((peristyleref25_Create.f k ([] : List (S63)) (⟨#[116]⟩ : ByteArray) (([(⟨(⟨#[97]⟩ : ByteArray), 1, false⟩ : S177), (⟨(⟨#[98]⟩ : ByteArray), 1, false⟩ : S177)] : List (S177)))).bind fun bt198 => ((peristyleref25_Add.f k bt198.1 (⟨#[116]⟩ : ByteArray) (⟨#[112]⟩ : ByteArray) (([1] : List Int)) 1).bind fun bt205 => (if 0 < (bt205.1.length : Int) then (some ((rd_T63 bt205.1 0).f0, (rd_T63 bt205.1 0).f1, (rd_T63 bt205.1 0).f2)) else (none)))) = some (r1, r2, r3) := h
 clear h
 obtain ⟨y195, hy195⟩ : ∃ y_ : List (S177), y_ = (([(⟨(⟨#[97]⟩ : ByteArray), 1, false⟩ : S177), (⟨(⟨#[98]⟩ : ByteArray), 1, false⟩ : S177)] : List (S177))) := ⟨_, rfl⟩
 replace H : ((peristyleref25_Create.f k ([] : List (S63)) (⟨#[116]⟩ : ByteArray) y195).bind fun bt198 => ((peristyleref25_Add.f k bt198.1 (⟨#[116]⟩ : ByteArray) (⟨#[112]⟩ : ByteArray) (([1] : List Int)) 1).bind fun bt205 => (if 0 < (bt205.1.length : Int) then (some ((rd_T63 bt205.1 0).f0, (rd_T63 bt205.1 0).f1, (rd_T63 bt205.1 0).f2)) else (none)))) = some (r1, r2, r3) := by (rw [hy195]; with_reducible exact H)
 have Ny195 := Aside0.mk hy195
 clear hy195
 replace H := Option.bind_eq_some_iff.mp H
 obtain ⟨⟨t198, t201⟩, A10, H⟩ := H
 try dsimp only at H
 have A1 := Aside0.mk A10
 clear A10
 obtain ⟨y202, hy202⟩ : ∃ y_ : List Int, y_ = (([1] : List Int)) := ⟨_, rfl⟩
 replace H : ((peristyleref25_Add.f k t198 (⟨#[116]⟩ : ByteArray) (⟨#[112]⟩ : ByteArray) y202 1).bind fun bt205 => (if 0 < (bt205.1.length : Int) then (some ((rd_T63 bt205.1 0).f0, (rd_T63 bt205.1 0).f1, (rd_T63 bt205.1 0).f2)) else (none))) = some (r1, r2, r3) := by (rw [hy202]; with_reducible exact H)
 have Ny202 := Aside0.mk hy202
 clear hy202
 replace H := Option.bind_eq_some_iff.mp H
 obtain ⟨⟨t205, t208⟩, A20, H⟩ := H
 try dsimp only at H
 have A2 := Aside0.mk A20
 clear A20
 by_cases c3 : 0 < (t205.length : Int)
 ·
  rw [if_pos c3] at H
  have c3b0 : decide (0 < (t205.length : Int)) = true := decide_eq_true c3
  have c3b1 : decide (0 < t205.length) = true := decide_eq_true (by omega)
  clear c3
  simp only [Option.some.injEq, Prod.mk.injEq] at H
  obtain ⟨rfl, rfl, rfl⟩ := H
  go_enter Try.func75, Try.ntmps75
  go_wp2_with (first | ((with_reducible refine gate_dst (N := 0) rfl ?_); refine box_event ?hg (N := 0) ?hd (cs := #[.string (⟨#[]⟩ : ByteArray), .slice none 0 0, .slice none 0 0]) (t := 63) ?hr ?_; (case hd => rfl); (case hg => rfl); (case hr => (go_simp; done)); intro gb194 hg w4 hbox hb; have n0_ := Aside0.mk (below_step HB.out hb); have n1_ := Aside0.mk (hbox); have n2_ := Aside0.mk ((by rw [hg]; exact (below_size HB.out) : w.heap.size ≤ gb194)); have n3_ := Aside0.mk ((by rw [hg]; exact (below_size HB.out) : w.heap.size ≤ gb194)); clear HB; have HB := n0_; have BK194 := n1_; have GW194 := n2_; have GE194 := n3_; clear n0_ n1_ n2_ n3_ hb hbox hg) | ((with_reducible refine gate_dst (N := 6) rfl ?_); refine Kd.R_lit k177 _ 177 ?hg (N := 6) ?hd (xs := ([(⟨(⟨#[97]⟩ : ByteArray), 1, false⟩ : S177), (⟨(⟨#[98]⟩ : ByteArray), 1, false⟩ : S177)] : List (S177))) (inner := [.string (⟨#[97]⟩ : ByteArray), .int .i64 1, .bool false, .string (⟨#[98]⟩ : ByteArray), .int .i64 1, .bool false]) (ok := fun _ => True) (okp := fun _ => True) ?hr ?hp (fun _ hk => hk) trivial (Below.refl _ _) (Nat.le_refl _) (by simp) ?_; (case hd => rfl); (case hg => rfl); (case hr => (go_simp; done)); (case hp => exact (Reps.c3 (show Kd.M k177 _ _ _ (⟨(⟨#[97]⟩ : ByteArray), 1, false⟩ : S177) [.string (⟨#[97]⟩ : ByteArray), .int .i64 1, .bool false] from (k177_mkM _ _ _ (⟨(⟨#[97]⟩ : ByteArray), 1, false⟩ : S177) )) (Reps.c3 (show Kd.M k177 _ _ _ (⟨(⟨#[98]⟩ : ByteArray), 1, false⟩ : S177) [.string (⟨#[98]⟩ : ByteArray), .int .i64 1, .bool false] from (k177_mkM _ _ _ (⟨(⟨#[98]⟩ : ByteArray), 1, false⟩ : S177) )) (Reps.none _ _)))); intro v196 w5 ho6 hb hg_ hnew_; clear hg_ hnew_; (rw [← Ny195.out] at ho6); have n0_ := Aside0.mk (Kd.R_lower (Kd.R_newM (M := fun k_ => (w.heap.size ≤ k_)) ho6 (below_size HB.out) (fun k_ h_ => h_)) (below_size HB.out)); have n1_ := Aside0.mk (blk_below (g := gb194) (o := .cells #[.string (⟨#[]⟩ : ByteArray), .slice none 0 0, .slice none 0 0] 63 (0, 0)) BK194.out hb); have n2_ := Aside0.mk (below_step HB.out hb); clear BK194 HB; have HO197 := n0_; have BK194 := n1_; have HB := n2_; clear n0_ n1_ n2_ hb ho6; obtain ⟨Ao7, co7, eo7⟩ := Kd.R_slice HO197.out; subst eo7) | ((with_reducible refine gate_callee (f := 114) rfl ?_); refine goesL_ (some 7) rfl rfl Try.func114 (by kernel_rfl) rfl #[.slice none 0 0, .string (⟨#[116]⟩ : ByteArray), .slice Ao7 y195.length co7] rfl (by (try simp only [List.map_toArray, List.map_cons, List.map_nil]); rfl) ?_; (refine (peristyleref25_Create.calls k (fun k_ => False) _ _ ([] : List (S63)) (⟨#[116]⟩ : ByteArray) (fun k_ => some k_ = (.slice Ao7 y195.length co7 : Value).ownBlock) _ _ y195 t198 t201 _ ?side1 ?side2 A1.out).mono ?_); (case side1 => exact Kd.V_nil _ _ _ _ _); (case side2 => exact Kd.R_V (Kd.R_tight rfl (Kd.R_types (HO197.out) BK194.out (by decide)))); rintro e w8 ⟨v199, rfl, ho0, hb⟩; refine ⟨_, rfl, ?_⟩; have n0_ := Aside0.mk (Kd.R_below HO197.out hb); have n1_ := Aside0.mk (Kd.N_lower (Kd.N_mono (ok' := fun k_ => (w.heap.size ≤ k_) ∧ k_ ≠ gb194) ho0 (fun k_ hk_ => ⟨Or.elim hk_ (fun hs_ => Or.elim hs_ (fun hs_ => (hs_).elim) (fun hs_ => ((Kd.R_types (HO197.out) BK194.out (by decide)).1 k_ hs_.symm).1.1)) (fun hn_ => (Nat.le_trans (below_size HB.out) hn_)), Or.elim hk_ (fun hs_ => Or.elim hs_ (fun hs_ => (hs_).elim) (fun hs_ => ((Kd.R_types (HO197.out) BK194.out (by decide)).1 k_ hs_.symm).2)) (fun hn_ => (Kd.freshB (g := gb194) (o := .cells #[.string (⟨#[]⟩ : ByteArray), .slice none 0 0, .slice none 0 0] 63 (0, 0)) BK194.out k_ hn_))⟩)) (below_size HB.out)); have n2_ := Aside0.mk (blk_below (g := gb194) (o := .cells #[.string (⟨#[]⟩ : ByteArray), .slice none 0 0, .slice none 0 0] 63 (0, 0)) BK194.out hb); have n3_ := Aside0.mk (below_step HB.out hb); clear HO197 BK194 HB; have HO197 := n0_; have HO200 := n1_; have BK194 := n2_; have HB := n3_; clear n0_ n1_ n2_ n3_; (try clear hb); (try clear ho0)) | ((with_reducible refine gate_dst (N := 12) rfl ?_); refine Kd.R_lit (Kd.int .i64) _ 3 ?hg (N := 12) ?hd (xs := ([1] : List Int)) (inner := [.int .i64 1]) (ok := fun _ => True) (okp := fun _ => True) ?hr ?hp (fun _ hk => hk) trivial (Below.refl _ _) (Nat.le_refl _) (by simp) ?_; (case hd => rfl); (case hg => rfl); (case hr => (go_simp; done)); (case hp => exact (Reps.one (show Kd.M (Kd.int .i64) _ _ _ 1 [.int .i64 1] from rfl) (Reps.none _ _))); intro v203 w9 ho10 hb hg_ hnew_; clear hg_ hnew_; (rw [← Ny202.out] at ho10); have n0_ := Aside0.mk (Kd.R_below HO197.out hb); have n1_ := Aside0.mk (Kd.N_elder' HO200.out (Kd.R_base ho10) hb); have n2_ := Aside0.mk (Kd.R_lower (Kd.R_newM (M := fun k_ => (w.heap.size ≤ k_)) ho10 (below_size HB.out) (fun k_ h_ => h_)) (below_size HB.out)); have n3_ := Aside0.mk (blk_below (g := gb194) (o := .cells #[.string (⟨#[]⟩ : ByteArray), .slice none 0 0, .slice none 0 0] 63 (0, 0)) BK194.out hb); have n4_ := Aside0.mk (below_step HB.out hb); clear HO197 HO200 BK194 HB; have HO197 := n0_; have HO200 := n1_; have HO204 := n2_; have BK194 := n3_; have HB := n4_; clear n0_ n1_ n2_ n3_ n4_ hb ho10; obtain ⟨Ao11, co11, eo11⟩ := Kd.R_slice HO204.out; subst eo11; obtain ⟨Ao12, co12, eo12⟩ := Kd.N_slice HO200.out; subst eo12) | ((with_reducible refine gate_callee (f := 115) rfl ?_); refine goesL_ (some 14) rfl rfl Try.func115 (by kernel_rfl) rfl #[.slice Ao12 t198.length co12, .string (⟨#[116]⟩ : ByteArray), .agg #[.string (⟨#[112]⟩ : ByteArray), .slice Ao11 y202.length co11, .int .i64 1]] rfl (by (try simp only [List.map_toArray, List.map_cons, List.map_nil]); rfl) ?_; (with_reducible refine (peristyleref25_Add.calls k (fun k_ => (((w.heap.size ≤ k_) ∧ k_ ≠ gb194) ∧ some k_ ≠ (.slice Ao11 y202.length co11 : Value).ownBlock)) _ _ t198 (⟨#[116]⟩ : ByteArray) (⟨#[112]⟩ : ByteArray) (fun k_ => some k_ = (.slice Ao11 y202.length co11 : Value).ownBlock) _ _ y202 1 t205 t208 _ ?side1 ?side2 A2.out).mono ?_); (case side1 => exact Kd.N_V (HO200.out)); (case side2 => exact Kd.R_V (Kd.R_tight rfl (Kd.R_types (Kd.R_apart' (Kd.R_apart' (HO204.out) (Kd.R_typed HO197.out) (by decide)) (Kd.N_typed HO200.out) (by decide)) BK194.out (by decide)))); rintro e w13 ⟨v206, rfl, ho0, hb⟩; refine ⟨_, rfl, ?_⟩; have n0_ := Aside0.mk (Kd.R_below HO197.out hb); have n1_ := Aside0.mk (Kd.N_elder' HO200.out (Kd.N_base ho0) hb); have n2_ := Aside0.mk (Kd.R_below HO204.out hb); have n3_ := Aside0.mk (Kd.N_lower (Kd.N_mono (ok' := fun k_ => (w.heap.size ≤ k_) ∧ k_ ≠ gb194) ho0 (fun k_ hk_ => ⟨Or.elim hk_ (fun hs_ => Or.elim hs_ (fun hs_ => hs_.1.1) (fun hs_ => ((Kd.R_types (Kd.R_apart' (Kd.R_apart' (HO204.out) (Kd.R_typed HO197.out) (by decide)) (Kd.N_typed HO200.out) (by decide)) BK194.out (by decide)).1 k_ hs_.symm).1.1.1.1)) (fun hn_ => (Nat.le_trans (below_size HB.out) hn_)), Or.elim hk_ (fun hs_ => Or.elim hs_ (fun hs_ => hs_.1.2) (fun hs_ => ((Kd.R_types (Kd.R_apart' (Kd.R_apart' (HO204.out) (Kd.R_typed HO197.out) (by decide)) (Kd.N_typed HO200.out) (by decide)) BK194.out (by decide)).1 k_ hs_.symm).2)) (fun hn_ => (Kd.freshB (g := gb194) (o := .cells #[.string (⟨#[]⟩ : ByteArray), .slice none 0 0, .slice none 0 0] 63 (0, 0)) BK194.out k_ hn_))⟩)) (below_size HB.out)); have n4_ := Aside0.mk (blk_below (g := gb194) (o := .cells #[.string (⟨#[]⟩ : ByteArray), .slice none 0 0, .slice none 0 0] 63 (0, 0)) BK194.out hb); have n5_ := Aside0.mk (below_step HB.out hb); clear HO197 HO200 HO204 BK194 HB; have HO197 := n0_; have HO200 := n1_; have HO204 := n2_; have HO207 := n3_; have BK194 := n4_; have HB := n5_; clear n0_ n1_ n2_ n3_ n4_ n5_; (try clear hb); (try clear ho0); obtain ⟨Ao14, co14, eo14⟩ := Kd.N_slice HO207.out; subst eo14; have p209 : 0 ≤ (0 : Int) := (by omega); have q209 : 0 < (t205.length : Int) := of_decide_eq_true (by (with_reducible assumption)); obtain ⟨ad209, A209_1, c209_1, A209_2, c209_2, e209, hx209_0, hx209_1, hx209_2, hl209_1, hi209_1, hl209_2, hi209_2⟩ := at_T63 (Kd.N_reads' HO207.out).2.2 0 p209 q209; cases e209; obtain ⟨ce209, hce209, hMe209, hcc209⟩ := Kd.N_get HO207.out z63 0 p209 q209; obtain ⟨ua209_1, uc209_1, ua209_2, uc209_2, rfl, ul209_1, ge209_1, ul209_2, ge209_2⟩ := k63_openF hMe209; have hv209_1 := hcc209 1 _ rfl; rw [add_field _ _ 1 (by omega)] at hv209_1; replace hv209_1 := Option.some.inj (hv209_1.symm.trans hx209_1); injection hv209_1 with hva_ hvn_ hvc_; rw [hva_] at ge209_1; rw [hvc_] at ul209_1; have HL209_1 := Aside0.mk (show Kd.V k177 177 _ w.heap.size _ _ ((rd_T63 t205 0).f1) from Kd.V_mk ul209_1 ge209_1); clear hva_ hvn_ hvc_ ge209_1 ul209_1; have hv209_2 := hcc209 2 _ rfl; rw [add_field _ _ 2 (by omega)] at hv209_2; replace hv209_2 := Option.some.inj (hv209_2.symm.trans hx209_2); injection hv209_2 with hva_ hvn_ hvc_; rw [hva_] at ge209_2; rw [hvc_] at ul209_2; have HL209_2 := Aside0.mk (show Kd.V k138 138 _ w.heap.size _ _ ((rd_T63 t205 0).f2) from Kd.V_mk ul209_2 ge209_2); clear hva_ hvn_ hvc_ ge209_2 ul209_2 hcc209 hce209; have qi209 : (0 < t205.length) = True := eq_true (by omega); (try rw [show ((0 : Int)).toNat = 0 from rfl] at hx209_0); (try rw [show 0 * 3 = 0 from rfl] at hx209_0); (try rw [Addr.add_zero'] at hx209_0); (try rw [show ((0 : Int)).toNat = 0 from rfl] at hx209_1); (try rw [show 0 * 3 = 0 from rfl] at hx209_1); (try rw [Addr.add_zero'] at hx209_1); (try rw [show ((0 : Int)).toNat = 0 from rfl] at hx209_2); (try rw [show 0 * 3 = 0 from rfl] at hx209_2); (try rw [Addr.add_zero'] at hx209_2); have HR209_1 := Aside0.mk hi209_1; have HC209_1 := Aside0.mk hl209_1; clear hi209_1 hl209_1; have HR209_2 := Aside0.mk hi209_2; have HC209_2 := Aside0.mk hl209_2; clear hi209_2 hl209_2; replace p209 := eq_true p209; replace q209 := eq_true q209; have hcz15_0 : w13.cell? ⟨gb194, 0, none⟩ = some (.string (⟨#[]⟩ : ByteArray)) := (blk_cell BK194.out 0).trans rfl; have hcz15_1 : w13.cell? ⟨gb194, 1, none⟩ = some (.slice none 0 0) := (blk_cell BK194.out 1).trans rfl; have hcz15_2 : w13.cell? ⟨gb194, 2, none⟩ = some (.slice none 0 0) := (blk_cell BK194.out 2).trans rfl; have hfz15_0 := blk_frozen BK194.out 0; have hfz15_1 := blk_frozen BK194.out 1; have hfz15_2 := blk_frozen BK194.out 2))
  refine bodyPost_ret (results_cell_row rfl _ _ gb194 63 #[.string ((rd_T63 t205 0).f0), .slice A209_1 ((rd_T63 t205 0).f1).length c209_1, .slice A209_2 ((rd_T63 t205 0).f2).length c209_2] (0, 0) _ rfl (by refine blk_put (cs := #[.string ((rd_T63 t205 0).f0), .slice A209_1 ((rd_T63 t205 0).f1).length c209_1, .slice none 0 0]) ?_ 2 _ rfl; refine blk_put (cs := #[.string ((rd_T63 t205 0).f0), .slice none 0 0, .slice none 0 0]) ?_ 1 _ rfl; refine blk_put (cs := #[.string (⟨#[]⟩ : ByteArray), .slice none 0 0, .slice none 0 0]) ?_ 0 _ rfl; exact BK194.out) Try.underlying63 rfl (by kernel_rfl)) rfl ?_
  exact ⟨_, _, by rfl, by exact Kd.V_mono (Kd.V_far (p := ⟨gb194, 2, none⟩) (Kd.V_far (p := ⟨gb194, 1, none⟩) (Kd.V_far (p := ⟨gb194, 0, none⟩) (Kd.V_mono HL209_1.out (fun k_ hk => (⟨hk, hk.1.2⟩ : _ ∧ k_ ≠ gb194))) (fun _ hk => hk.2) (.string ((rd_T63 t205 0).f0))) (fun _ hk => hk.2) (.slice A209_1 ((rd_T63 t205 0).f1).length c209_1)) (fun _ hk => hk.2) (.slice A209_2 ((rd_T63 t205 0).f2).length c209_2)) (fun _ hk => hk.1.1.1), by exact Kd.V_mono (Kd.V_far (p := ⟨gb194, 2, none⟩) (Kd.V_far (p := ⟨gb194, 1, none⟩) (Kd.V_far (p := ⟨gb194, 0, none⟩) (Kd.V_mono HL209_2.out (fun k_ hk => (⟨hk, hk.1.2⟩ : _ ∧ k_ ≠ gb194))) (fun _ hk => hk.2) (.string ((rd_T63 t205 0).f0))) (fun _ hk => hk.2) (.slice A209_1 ((rd_T63 t205 0).f1).length c209_1)) (fun _ hk => hk.2) (.slice A209_2 ((rd_T63 t205 0).f2).length c209_2)) (fun _ hk => hk.1.1.1), by repeat ((with_reducible first | exact HB.out | refine below_set ?_ GE194.out))⟩
 ·
  rw [if_neg c3] at H
  exact absurd H (by simp)

end Go.Proofs.Ytgjclhhjigflkab.C
