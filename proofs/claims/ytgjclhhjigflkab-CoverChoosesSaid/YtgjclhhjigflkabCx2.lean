-- written by mkprint.py, a program of this session, over the kit's printer
import Derived.Test.YtgjclhhjigflkabCx0
import Derived.Test.YtgjclhhjigflkabCx1
namespace Go.Proofs.Ytgjclhhjigflkab.C
open Go.RowKit Go.Proofs.YtgjclhhjigflkabW.PrintWords Go.Proofs.YtgjclhhjigflkabW.PrintLast Go.Proofs.YtgjclhhjigflkabW.PrintMore
attribute [local go_sem] max2_int min2_int max_two min_two max_three min_three max_four min_four   -- for this text's walks alone
set_option linter.unusedVariables false
set_option linter.unusedSimpArgs false

/-! ### peristyleref25_Projection: function 131 -/
mutual
def peristyleref25_Projection.j0 : Nat → Int → Bool → ByteArray → List Int → Int → Option (Bool)
 | 0, _, _, _, _, _ => none
 | k + 1, x1, x36, x130000, x130001, x130002 => if x36 = true then (some false) else (peristyleref25_Projection.l0 k x1 0 x130000 x130001 x130002)
def peristyleref25_Projection.l0 : Nat → Int → Int → ByteArray → List Int → Int → Option (Bool)
 | 0, _, _, _, _, _ => none
 | k + 1, x1, x5, x130000, x130001, x130002 => if x5 < (x130001.length : Int) then (if 0 ≤ x5 then (if (rd x130001 x5) < 0 then (peristyleref25_Projection.j2 k x1 x5 true x130000 x130001 x130002) else (peristyleref25_Projection.j2 k x1 x5 (decide ((rd x130001 x5) ≥ x1)) x130000 x130001 x130002)) else (none)) else (some true)
def peristyleref25_Projection.j2 : Nat → Int → Int → Bool → ByteArray → List Int → Int → Option (Bool)
 | 0, _, _, _, _, _, _ => none
 | k + 1, x1, x5, x58, x130000, x130001, x130002 => if x58 = true then (some false) else (peristyleref25_Projection.l1 k x1 x5 0 x130000 x130001 x130002)
def peristyleref25_Projection.l1 : Nat → Int → Int → Int → ByteArray → List Int → Int → Option (Bool)
 | 0, _, _, _, _, _, _ => none
 | k + 1, x1, x5, x6, x130000, x130001, x130002 => if x6 < x5 then (if 0 ≤ x6 then (if x6 < (x130001.length : Int) then (if 0 ≤ x5 then (if x5 < (x130001.length : Int) then (if (rd x130001 x6) = (rd x130001 x5) then (some false) else (peristyleref25_Projection.l1 k x1 x5 (wrap64 (x6 + 1)) x130000 x130001 x130002)) else (none)) else (none)) else (none)) else (none)) else (peristyleref25_Projection.l0 k x1 (wrap64 (x5 + 1)) x130000 x130001 x130002)
end
def peristyleref25_Projection.f (k : Nat) (a0_0 : ByteArray) (l0_1 : List Int) (a0_2 : Int) (a1 : Int) : Option (Bool) := (peristyleref25_Name.f k a0_0).bind fun t130 => (if t130 = true then (if (l0_1.length : Int) < 1 then (peristyleref25_Projection.j0 k a1 true a0_0 l0_1 a0_2) else (if (l0_1.length : Int) > a1 then (peristyleref25_Projection.j0 k a1 true a0_0 l0_1 a0_2) else (if a0_2 < 0 then (peristyleref25_Projection.j0 k a1 true a0_0 l0_1 a0_2) else (peristyleref25_Projection.j0 k a1 (decide (a0_2 > (l0_1.length : Int))) a0_0 l0_1 a0_2)))) else (peristyleref25_Projection.j0 k a1 true a0_0 l0_1 a0_2))
theorem peristyleref25_Projection.mono_l : ∀ k, (∀ y0 y1 y2 y3 y4, LeO (peristyleref25_Projection.j0 k y0 y1 y2 y3 y4) (peristyleref25_Projection.j0 (k + 1) y0 y1 y2 y3 y4)) ∧ (∀ y0 y1 y2 y3 y4, LeO (peristyleref25_Projection.l0 k y0 y1 y2 y3 y4) (peristyleref25_Projection.l0 (k + 1) y0 y1 y2 y3 y4)) ∧ (∀ y0 y1 y2 y3 y4 y5, LeO (peristyleref25_Projection.j2 k y0 y1 y2 y3 y4 y5) (peristyleref25_Projection.j2 (k + 1) y0 y1 y2 y3 y4 y5)) ∧ (∀ y0 y1 y2 y3 y4 y5, LeO (peristyleref25_Projection.l1 k y0 y1 y2 y3 y4 y5) (peristyleref25_Projection.l1 (k + 1) y0 y1 y2 y3 y4 y5))
 | 0 => ⟨fun _ _ _ _ _ r h => by simp [peristyleref25_Projection.j0] at h, fun _ _ _ _ _ r h => by simp [peristyleref25_Projection.l0] at h, fun _ _ _ _ _ _ r h => by simp [peristyleref25_Projection.j2] at h, fun _ _ _ _ _ _ r h => by simp [peristyleref25_Projection.l1] at h⟩
 | k + 1 => by
  obtain ⟨ih0, ih1, ih2, ih3⟩ := peristyleref25_Projection.mono_l k
  refine ⟨?_, ?_, ?_, ?_⟩
  ·
   intro y0 y1 y2 y3 y4
   unfold peristyleref25_Projection.j0
   repeat' first
   | (with_reducible exact ih0 _ _ _ _ _)
   | (with_reducible exact ih1 _ _ _ _ _)
   | (with_reducible exact ih2 _ _ _ _ _ _)
   | (with_reducible exact ih3 _ _ _ _ _ _)
   | (with_reducible exact peristyleref25_Name.mono _ _)
   | (with_reducible exact LeO.refl _)
   | (with_reducible exact LeO.none _)
   | (with_reducible refine LeO.ite ?_ ?_)
   | (with_reducible refine LeO.bind ?_ (fun _ => ?_))
   | exact ih0 _ _ _ _ _
   | exact ih1 _ _ _ _ _
   | exact ih2 _ _ _ _ _ _
   | exact ih3 _ _ _ _ _ _
   | exact peristyleref25_Name.mono _ _
   | exact LeO.none _
   | refine LeO.ite ?_ ?_
   | refine LeO.bind ?_ (fun _ => ?_)
  ·
   intro y0 y1 y2 y3 y4
   unfold peristyleref25_Projection.l0
   repeat' first
   | (with_reducible exact ih0 _ _ _ _ _)
   | (with_reducible exact ih1 _ _ _ _ _)
   | (with_reducible exact ih2 _ _ _ _ _ _)
   | (with_reducible exact ih3 _ _ _ _ _ _)
   | (with_reducible exact peristyleref25_Name.mono _ _)
   | (with_reducible exact LeO.refl _)
   | (with_reducible exact LeO.none _)
   | (with_reducible refine LeO.ite ?_ ?_)
   | (with_reducible refine LeO.bind ?_ (fun _ => ?_))
   | exact ih0 _ _ _ _ _
   | exact ih1 _ _ _ _ _
   | exact ih2 _ _ _ _ _ _
   | exact ih3 _ _ _ _ _ _
   | exact peristyleref25_Name.mono _ _
   | exact LeO.none _
   | refine LeO.ite ?_ ?_
   | refine LeO.bind ?_ (fun _ => ?_)
  ·
   intro y0 y1 y2 y3 y4 y5
   unfold peristyleref25_Projection.j2
   repeat' first
   | (with_reducible exact ih0 _ _ _ _ _)
   | (with_reducible exact ih1 _ _ _ _ _)
   | (with_reducible exact ih2 _ _ _ _ _ _)
   | (with_reducible exact ih3 _ _ _ _ _ _)
   | (with_reducible exact peristyleref25_Name.mono _ _)
   | (with_reducible exact LeO.refl _)
   | (with_reducible exact LeO.none _)
   | (with_reducible refine LeO.ite ?_ ?_)
   | (with_reducible refine LeO.bind ?_ (fun _ => ?_))
   | exact ih0 _ _ _ _ _
   | exact ih1 _ _ _ _ _
   | exact ih2 _ _ _ _ _ _
   | exact ih3 _ _ _ _ _ _
   | exact peristyleref25_Name.mono _ _
   | exact LeO.none _
   | refine LeO.ite ?_ ?_
   | refine LeO.bind ?_ (fun _ => ?_)
  ·
   intro y0 y1 y2 y3 y4 y5
   unfold peristyleref25_Projection.l1
   repeat' first
   | (with_reducible exact ih0 _ _ _ _ _)
   | (with_reducible exact ih1 _ _ _ _ _)
   | (with_reducible exact ih2 _ _ _ _ _ _)
   | (with_reducible exact ih3 _ _ _ _ _ _)
   | (with_reducible exact peristyleref25_Name.mono _ _)
   | (with_reducible exact LeO.refl _)
   | (with_reducible exact LeO.none _)
   | (with_reducible refine LeO.ite ?_ ?_)
   | (with_reducible refine LeO.bind ?_ (fun _ => ?_))
   | exact ih0 _ _ _ _ _
   | exact ih1 _ _ _ _ _
   | exact ih2 _ _ _ _ _ _
   | exact ih3 _ _ _ _ _ _
   | exact peristyleref25_Name.mono _ _
   | exact LeO.none _
   | refine LeO.ite ?_ ?_
   | refine LeO.bind ?_ (fun _ => ?_)
theorem peristyleref25_Projection.mono : ∀ a0 a1 a2 a3 k, LeO (peristyleref25_Projection.f k a0 a1 a2 a3) (peristyleref25_Projection.f (k + 1) a0 a1 a2 a3) := by
 intro a0 a1 a2 a3 k
 obtain ⟨ih0, ih1, ih2, ih3⟩ := peristyleref25_Projection.mono_l k
 unfold peristyleref25_Projection.f
 repeat' first
   | (with_reducible exact ih0 _ _ _ _ _)
   | (with_reducible exact ih1 _ _ _ _ _)
   | (with_reducible exact ih2 _ _ _ _ _ _)
   | (with_reducible exact ih3 _ _ _ _ _ _)
   | (with_reducible exact peristyleref25_Name.mono _ _)
   | (with_reducible exact LeO.refl _)
   | (with_reducible exact LeO.none _)
   | (with_reducible refine LeO.ite ?_ ?_)
   | (with_reducible refine LeO.bind ?_ (fun _ => ?_))
   | exact ih0 _ _ _ _ _
   | exact ih1 _ _ _ _ _
   | exact ih2 _ _ _ _ _ _
   | exact ih3 _ _ _ _ _ _
   | exact peristyleref25_Name.mono _ _
   | exact LeO.none _
   | refine LeO.ite ?_ ?_
   | refine LeO.bind ?_ (fun _ => ?_)
set_option maxHeartbeats 8000000 in
set_option maxRecDepth 100000 in
theorem peristyleref25_Projection.calls (k : Nat) (a0_0 : ByteArray) (A0_1 : Option Addr) (c0_1 : Nat) (l0_1 : List Int) (a0_2 : Int) (a1 : Int) (r : Bool) (w : World) (hr0_1 : Kd.C (Kd.int .i64) w A0_1 l0_1.length l0_1) (hc0_1 : l0_1.length ≤ c0_1) (h : peristyleref25_Projection.f k a0_0 l0_1 a0_2 a1 = some r) :
  Calls Try.prog 131 #[.agg #[.string a0_0, .slice A0_1 l0_1.length c0_1, .int .i64 a0_2], .int .i64 a1] w fun e w' => e = .returned (.bool r) ∧ Below w.heap.size w w' := by
 have hu138 := Try.underlying138
 have HR0_1 := Aside0.mk hr0_1
 have HC0_1 := Aside0.mk hc0_1
 clear hr0_1 hc0_1
 have HB := Aside0.mk (Below.refl w.heap.size w)
 have H : ((peristyleref25_Name.f k a0_0).bind fun t130 => (if t130 = true then (if (l0_1.length : Int) < 1 then (peristyleref25_Projection.j0 k a1 true a0_0 l0_1 a0_2) else (if (l0_1.length : Int) > a1 then (peristyleref25_Projection.j0 k a1 true a0_0 l0_1 a0_2) else (if a0_2 < 0 then (peristyleref25_Projection.j0 k a1 true a0_0 l0_1 a0_2) else (peristyleref25_Projection.j0 k a1 (decide (a0_2 > (l0_1.length : Int))) a0_0 l0_1 a0_2)))) else (peristyleref25_Projection.j0 k a1 true a0_0 l0_1 a0_2))) = some r := h
 clear h
 have HC3 := Aside0.mk H
 clear H
 go_enter Try.func131, Try.ntmps131
 go_upto_region 1 with (((with_reducible refine gate_dst (N := 2) rfl ?_); (try (refine gate_guard (by rfl) ?_; dsimp only)); refine box_event ?hg (N := 2) ?hd (cs := #[.string a0_0, .slice A0_1 l0_1.length c0_1, .int .i64 a0_2]) (t := 138) ?hr ?_; (case hd => rfl); (case hg => rfl); (case hr => (go_simp; done)); intro gb129 hg w4 hbox hb; have n0_ := Aside0.mk (below_step HB.out hb); have n1_ := Aside0.mk (hbox); have n2_ := Aside0.mk ((by rw [hg]; exact (below_size HB.out) : w.heap.size ≤ gb129)); have n3_ := Aside0.mk ((by rw [hg]; exact (below_size HB.out) : w.heap.size ≤ gb129)); clear HB; have HB := n0_; have BK129 := n1_; have GW129 := n2_; have GE129 := n3_; clear n0_ n1_ n2_ n3_ hb hbox hg))
 repeat (go_quiet (fail); go_upto_region 1 with fail)
 go_cut [36] (fun v36 wc => ∃ (kq : Nat) (x36_2 : Bool), v36 = .bool x36_2 ∧ Aside0 (peristyleref25_Projection.j0 kq a1 x36_2 a0_0 l0_1 a0_2 = some r) ∧ Aside0 (kq ≤ k) ∧ Aside0 (wc.heap[gb129]? = some (.cells #[.string a0_0, (.slice A0_1 l0_1.length c0_1), .int .i64 a0_2] 138 (0, 0))) ∧ Aside0 (Below w.heap.size w wc))
 case first =>
  have H := HC3.out
  clear HC3
  replace H := Option.bind_eq_some_iff.mp H
  obtain ⟨t130, A50, H⟩ := H
  replace H : (if t130 = true then (if (l0_1.length : Int) < 1 then (peristyleref25_Projection.j0 k a1 true a0_0 l0_1 a0_2) else (if (l0_1.length : Int) > a1 then (peristyleref25_Projection.j0 k a1 true a0_0 l0_1 a0_2) else (if a0_2 < 0 then (peristyleref25_Projection.j0 k a1 true a0_0 l0_1 a0_2) else (peristyleref25_Projection.j0 k a1 (decide (a0_2 > (l0_1.length : Int))) a0_0 l0_1 a0_2)))) else (peristyleref25_Projection.j0 k a1 true a0_0 l0_1 a0_2)) = some r := H
  have A5 := Aside0.mk A50
  clear A50
  by_cases c6 : t130 = true
  ·
   subst c6
   have H1 : (if (l0_1.length : Int) < 1 then (peristyleref25_Projection.j0 k a1 true a0_0 l0_1 a0_2) else (if (l0_1.length : Int) > a1 then (peristyleref25_Projection.j0 k a1 true a0_0 l0_1 a0_2) else (if a0_2 < 0 then (peristyleref25_Projection.j0 k a1 true a0_0 l0_1 a0_2) else (peristyleref25_Projection.j0 k a1 (decide (a0_2 > (l0_1.length : Int))) a0_0 l0_1 a0_2)))) = some r := by rw [if_pos rfl] at H; exact H
   clear H
   have H := H1
   clear H1
   by_cases c7 : (l0_1.length : Int) < 1
   ·
    rw [if_pos c7] at H
    have c7b0 : decide ((l0_1.length : Int) < 1) = true := decide_eq_true c7
    have c7b1 : decide (l0_1.length < 1) = true := decide_eq_true (by omega)
    clear c7
    have H' := Aside0.mk H
    clear H
    have hcz8_0 : w4.cell? ⟨gb129, 0, none⟩ = some (.string a0_0) := (blk_cell BK129.out 0).trans rfl
    have hcz8_1 : w4.cell? ⟨gb129, 1, none⟩ = some (.slice A0_1 l0_1.length c0_1) := (blk_cell BK129.out 1).trans rfl
    have hcz8_2 : w4.cell? ⟨gb129, 2, none⟩ = some (.int .i64 a0_2) := (blk_cell BK129.out 2).trans rfl
    have hfz8_0 := blk_frozen BK129.out 0
    have hfz8_1 := blk_frozen BK129.out 1
    have hfz8_2 := blk_frozen BK129.out 2
    go_wp2_with ((go_at_call 129; (with_reducible refine (peristyleref25_Name.calls k a0_0 true _ A5.out).mono ?_); rintro e w' ⟨rfl, ⟨nd, rfl⟩⟩))
    repeat (go_quiet (fail); try go_wp2_with fail)
    go_meet
    case rel => exact ⟨_, (true), (by rfl), H', ⟨by omega⟩, ⟨by (with_reducible repeat (refine blk_drewN ?_ _)); exact BK129.out⟩, ⟨by repeat ((with_reducible first | exact HB.out | apply pw_below_drewN))⟩⟩
   ·
    rw [if_neg c7] at H
    have c7b0 : decide ((l0_1.length : Int) < 1) = false := decide_eq_false c7
    have c7b1 : decide (l0_1.length < 1) = false := decide_eq_false (by omega)
    clear c7
    by_cases c9 : (l0_1.length : Int) > a1
    ·
     rw [if_pos c9] at H
     have c9b0 : decide (a1 < (l0_1.length : Int)) = true := decide_eq_true c9
     clear c9
     have H' := Aside0.mk H
     clear H
     have hcz10_0 : w4.cell? ⟨gb129, 0, none⟩ = some (.string a0_0) := (blk_cell BK129.out 0).trans rfl
     have hcz10_1 : w4.cell? ⟨gb129, 1, none⟩ = some (.slice A0_1 l0_1.length c0_1) := (blk_cell BK129.out 1).trans rfl
     have hcz10_2 : w4.cell? ⟨gb129, 2, none⟩ = some (.int .i64 a0_2) := (blk_cell BK129.out 2).trans rfl
     have hfz10_0 := blk_frozen BK129.out 0
     have hfz10_1 := blk_frozen BK129.out 1
     have hfz10_2 := blk_frozen BK129.out 2
     go_wp2_with ((go_at_call 129; (with_reducible refine (peristyleref25_Name.calls k a0_0 true _ A5.out).mono ?_); rintro e w' ⟨rfl, ⟨nd, rfl⟩⟩))
     repeat (go_quiet (fail); try go_wp2_with fail)
     go_meet
     case rel => exact ⟨_, (true), (by rfl), H', ⟨by omega⟩, ⟨by (with_reducible repeat (refine blk_drewN ?_ _)); exact BK129.out⟩, ⟨by repeat ((with_reducible first | exact HB.out | apply pw_below_drewN))⟩⟩
    ·
     rw [if_neg c9] at H
     have c9b0 : decide (a1 < (l0_1.length : Int)) = false := decide_eq_false c9
     clear c9
     by_cases c11 : a0_2 < 0
     ·
      rw [if_pos c11] at H
      have c11b0 : decide (a0_2 < 0) = true := decide_eq_true c11
      clear c11
      have H' := Aside0.mk H
      clear H
      have hcz12_0 : w4.cell? ⟨gb129, 0, none⟩ = some (.string a0_0) := (blk_cell BK129.out 0).trans rfl
      have hcz12_1 : w4.cell? ⟨gb129, 1, none⟩ = some (.slice A0_1 l0_1.length c0_1) := (blk_cell BK129.out 1).trans rfl
      have hcz12_2 : w4.cell? ⟨gb129, 2, none⟩ = some (.int .i64 a0_2) := (blk_cell BK129.out 2).trans rfl
      have hfz12_0 := blk_frozen BK129.out 0
      have hfz12_1 := blk_frozen BK129.out 1
      have hfz12_2 := blk_frozen BK129.out 2
      go_wp2_with ((go_at_call 129; (with_reducible refine (peristyleref25_Name.calls k a0_0 true _ A5.out).mono ?_); rintro e w' ⟨rfl, ⟨nd, rfl⟩⟩))
      repeat (go_quiet (fail); try go_wp2_with fail)
      go_meet
      case rel => exact ⟨_, (true), (by rfl), H', ⟨by omega⟩, ⟨by (with_reducible repeat (refine blk_drewN ?_ _)); exact BK129.out⟩, ⟨by repeat ((with_reducible first | exact HB.out | apply pw_below_drewN))⟩⟩
     ·
      rw [if_neg c11] at H
      have c11b0 : decide (a0_2 < 0) = false := decide_eq_false c11
      clear c11
      have H' := Aside0.mk H
      clear H
      have hcz13_0 : w4.cell? ⟨gb129, 0, none⟩ = some (.string a0_0) := (blk_cell BK129.out 0).trans rfl
      have hcz13_1 : w4.cell? ⟨gb129, 1, none⟩ = some (.slice A0_1 l0_1.length c0_1) := (blk_cell BK129.out 1).trans rfl
      have hcz13_2 : w4.cell? ⟨gb129, 2, none⟩ = some (.int .i64 a0_2) := (blk_cell BK129.out 2).trans rfl
      have hfz13_0 := blk_frozen BK129.out 0
      have hfz13_1 := blk_frozen BK129.out 1
      have hfz13_2 := blk_frozen BK129.out 2
      go_wp2_with ((go_at_call 129; (with_reducible refine (peristyleref25_Name.calls k a0_0 true _ A5.out).mono ?_); rintro e w' ⟨rfl, ⟨nd, rfl⟩⟩))
      repeat (go_quiet (fail); try go_wp2_with fail)
      go_meet
      case rel => exact ⟨_, (decide (a0_2 > (l0_1.length : Int))), (by rfl), H', ⟨by omega⟩, ⟨by (with_reducible repeat (refine blk_drewN ?_ _)); exact BK129.out⟩, ⟨by repeat ((with_reducible first | exact HB.out | apply pw_below_drewN))⟩⟩
  ·
   replace c6 := Bool.eq_false_iff.mpr c6
   subst c6
   have H1 : (peristyleref25_Projection.j0 k a1 true a0_0 l0_1 a0_2) = some r := by rw [if_neg (show ¬ (false = true) by decide)] at H; exact H
   clear H
   have H := H1
   clear H1
   have H' := Aside0.mk H
   clear H
   have hcz14_0 : w4.cell? ⟨gb129, 0, none⟩ = some (.string a0_0) := (blk_cell BK129.out 0).trans rfl
   have hcz14_1 : w4.cell? ⟨gb129, 1, none⟩ = some (.slice A0_1 l0_1.length c0_1) := (blk_cell BK129.out 1).trans rfl
   have hcz14_2 : w4.cell? ⟨gb129, 2, none⟩ = some (.int .i64 a0_2) := (blk_cell BK129.out 2).trans rfl
   have hfz14_0 := blk_frozen BK129.out 0
   have hfz14_1 := blk_frozen BK129.out 1
   have hfz14_2 := blk_frozen BK129.out 2
   go_wp2_with ((go_at_call 129; (with_reducible refine (peristyleref25_Name.calls k a0_0 false _ A5.out).mono ?_); rintro e w' ⟨rfl, ⟨nd, rfl⟩⟩))
   repeat (go_quiet (fail); try go_wp2_with fail)
   go_meet
   case rel => exact ⟨_, (true), (by rfl), H', ⟨by omega⟩, ⟨by (with_reducible repeat (refine blk_drewN ?_ _)); exact BK129.out⟩, ⟨by repeat ((with_reducible first | exact HB.out | apply pw_below_drewN))⟩⟩
 case rest =>
  clear HC3
  obtain ⟨kq, x36_2, rfl, HA, HJ2, BK129, HB⟩ := hcut
  cases kq with
  | zero => exact absurd HA.out (by simp [peristyleref25_Projection.j0])
  | succ kj2 =>
   have H := HA.out
   clear HA
   simp only [peristyleref25_Projection.j0] at H
   by_cases c15 : x36_2 = true
   ·
    subst c15
    have H1 : (some false) = some r := by rw [if_pos rfl] at H; exact H
    clear H
    have H := H1
    clear H1
    obtain rfl := Option.some.inj H
    go_wp2
    repeat (go_quiet (fail); try go_wp2)
    go_ret
    exact ⟨by rfl, by repeat exact HB.out⟩
   ·
    replace c15 := Bool.eq_false_iff.mpr c15
    subst c15
    have H1 : (peristyleref25_Projection.l0 kj2 a1 0 a0_0 l0_1 a0_2) = some r := by rw [if_neg (show ¬ (false = true) by decide)] at H; exact H
    clear H
    have H := H1
    clear H1
    have H' := Aside0.mk H
    clear H
    go_wp2
    repeat (go_quiet (fail); try go_wp2)
    go_loopg [5] kj2 (fun kq v5 w' => ∃ (x5_2 : Int), v5 = .int .i64 x5_2 ∧ Aside0 (peristyleref25_Projection.l0 kq a1 x5_2 a0_0 l0_1 a0_2 = some r) ∧ Aside0 (kq ≤ kj2) ∧ Aside0 (w'.heap[gb129]? = some (.cells #[.string a0_0, (.slice A0_1 l0_1.length c0_1), .int .i64 a0_2] 138 (0, 0))) ∧ Aside0 (Below w.heap.size w w'))
    case atStart => exact ⟨(0), (by rfl), H', ⟨Nat.le_refl _⟩, ⟨BK129.out⟩, ⟨HB.out⟩⟩
    case round =>
     clear H'
     obtain ⟨x5_2, rfl, HA, HK2, BK129, HB⟩ := hrel
     cases gk with
     | zero => exact absurd HA.out (by simp [peristyleref25_Projection.l0])
     | succ k2 =>
      have H := HA.out
      clear HA
      simp only [peristyleref25_Projection.l0] at H
      by_cases c16 : x5_2 < (l0_1.length : Int)
      ·
       rw [if_pos c16] at H
       have c16b0 : decide (x5_2 < (l0_1.length : Int)) = true := decide_eq_true c16
       clear c16
       have HC17 := Aside0.mk H
       clear H
       have hcz18_0 : wr.cell? ⟨gb129, 0, none⟩ = some (.string a0_0) := (blk_cell BK129.out 0).trans rfl
       have hcz18_1 : wr.cell? ⟨gb129, 1, none⟩ = some (.slice A0_1 l0_1.length c0_1) := (blk_cell BK129.out 1).trans rfl
       have hcz18_2 : wr.cell? ⟨gb129, 2, none⟩ = some (.int .i64 a0_2) := (blk_cell BK129.out 2).trans rfl
       have hfz18_0 := blk_frozen BK129.out 0
       have hfz18_1 := blk_frozen BK129.out 1
       have hfz18_2 := blk_frozen BK129.out 2
       go_upto_region 6 with fail
       repeat (go_quiet (fail); go_upto_region 6 with fail)
       go_cut [58] (fun v58 wc => ∃ (kq : Nat) (x58_16 : Bool), v58 = .bool x58_16 ∧ Aside0 (peristyleref25_Projection.j2 kq a1 x5_2 x58_16 a0_0 l0_1 a0_2 = some r) ∧ Aside0 (kq ≤ k2) ∧ Aside0 (wc.heap[gb129]? = some (.cells #[.string a0_0, (.slice A0_1 l0_1.length c0_1), .int .i64 a0_2] 138 (0, 0))) ∧ Aside0 (Below w.heap.size w wc))
       case first =>
        have H := HC17.out
        clear HC17
        by_cases c19 : 0 ≤ x5_2
        ·
         rw [if_pos c19] at H
         have c19b0 : decide (0 ≤ x5_2) = true := decide_eq_true c19
         clear c19
         by_cases c20 : (rd l0_1 x5_2) < 0
         ·
          rw [if_pos c20] at H
          have c20b0 : decide ((rd l0_1 x5_2) < 0) = true := decide_eq_true c20
          clear c20
          have H' := Aside0.mk H
          clear H
          have hcz21_0 : wr.cell? ⟨gb129, 0, none⟩ = some (.string a0_0) := (blk_cell BK129.out 0).trans rfl
          have hcz21_1 : wr.cell? ⟨gb129, 1, none⟩ = some (.slice A0_1 l0_1.length c0_1) := (blk_cell BK129.out 1).trans rfl
          have hcz21_2 : wr.cell? ⟨gb129, 2, none⟩ = some (.int .i64 a0_2) := (blk_cell BK129.out 2).trans rfl
          have hfz21_0 := blk_frozen BK129.out 0
          have hfz21_1 := blk_frozen BK129.out 1
          have hfz21_2 := blk_frozen BK129.out 2
          have p131 : 0 ≤ (x5_2 : Int) := of_decide_eq_true (by (with_reducible assumption))
          have q131 : x5_2 < (l0_1.length : Int) := of_decide_eq_true (by (with_reducible assumption))
          obtain ⟨ad131, e131, hx131_0⟩ := Kd.at_int HR0_1.out x5_2 p131 q131
          cases e131
          replace hx131_0 := (HB.out.cell (World.block_lt_of_cell? w _ hx131_0)).trans hx131_0
          replace p131 := eq_true p131
          replace q131 := eq_true q131
          go_wp2
          repeat (go_quiet (fail); try go_wp2)
          go_meet
          case rel => exact ⟨_, (true), (by rfl), H', ⟨by have := HJ2.out; have := HK2.out; omega⟩, ⟨BK129.out⟩, ⟨HB.out⟩⟩
         ·
          rw [if_neg c20] at H
          have c20b0 : decide ((rd l0_1 x5_2) < 0) = false := decide_eq_false c20
          clear c20
          have H' := Aside0.mk H
          clear H
          have hcz22_0 : wr.cell? ⟨gb129, 0, none⟩ = some (.string a0_0) := (blk_cell BK129.out 0).trans rfl
          have hcz22_1 : wr.cell? ⟨gb129, 1, none⟩ = some (.slice A0_1 l0_1.length c0_1) := (blk_cell BK129.out 1).trans rfl
          have hcz22_2 : wr.cell? ⟨gb129, 2, none⟩ = some (.int .i64 a0_2) := (blk_cell BK129.out 2).trans rfl
          have hfz22_0 := blk_frozen BK129.out 0
          have hfz22_1 := blk_frozen BK129.out 1
          have hfz22_2 := blk_frozen BK129.out 2
          have p131 : 0 ≤ (x5_2 : Int) := of_decide_eq_true (by (with_reducible assumption))
          have q131 : x5_2 < (l0_1.length : Int) := of_decide_eq_true (by (with_reducible assumption))
          obtain ⟨ad131, e131, hx131_0⟩ := Kd.at_int HR0_1.out x5_2 p131 q131
          cases e131
          replace hx131_0 := (HB.out.cell (World.block_lt_of_cell? w _ hx131_0)).trans hx131_0
          replace p131 := eq_true p131
          replace q131 := eq_true q131
          have p132 : 0 ≤ (x5_2 : Int) := of_decide_eq_true (by (with_reducible assumption))
          have q132 : x5_2 < (l0_1.length : Int) := of_decide_eq_true (by (with_reducible assumption))
          obtain ⟨ad132, e132, hx132_0⟩ := Kd.at_int HR0_1.out x5_2 p132 q132
          obtain rfl : ad131 = ad132 := (by injection e132)
          replace hx132_0 := (HB.out.cell (World.block_lt_of_cell? w _ hx132_0)).trans hx132_0
          replace p132 := eq_true p132
          replace q132 := eq_true q132
          go_wp2
          repeat (go_quiet (fail); try go_wp2)
          go_meet
          case rel => exact ⟨_, (decide ((rd l0_1 x5_2) ≥ a1)), (by rfl), H', ⟨by have := HJ2.out; have := HK2.out; omega⟩, ⟨BK129.out⟩, ⟨HB.out⟩⟩
        ·
         rw [if_neg c19] at H
         exact absurd H (by simp)
       case rest =>
        clear HC17
        try clear c16b0
        try clear hcz18_0
        try clear hcz18_1
        try clear hcz18_2
        try clear hfz18_0
        try clear hfz18_1
        try clear hfz18_2
        obtain ⟨kq, x58_16, rfl, HA, HJ16, BK129, HB⟩ := hcut
        cases kq with
        | zero => exact absurd HA.out (by simp [peristyleref25_Projection.j2])
        | succ kj16 =>
         have H := HA.out
         clear HA
         simp only [peristyleref25_Projection.j2] at H
         by_cases c23 : x58_16 = true
         ·
          subst c23
          have H1 : (some false) = some r := by rw [if_pos rfl] at H; exact H
          clear H
          have H := H1
          clear H1
          obtain rfl := Option.some.inj H
          go_wp2
          repeat (go_quiet (fail); try go_wp2)
          go_ret
          exact ⟨by rfl, by repeat exact HB.out⟩
         ·
          replace c23 := Bool.eq_false_iff.mpr c23
          subst c23
          have H1 : (peristyleref25_Projection.l1 kj16 a1 x5_2 0 a0_0 l0_1 a0_2) = some r := by rw [if_neg (show ¬ (false = true) by decide)] at H; exact H
          clear H
          have H := H1
          clear H1
          have H' := Aside0.mk H
          clear H
          go_wp2
          repeat (go_quiet (fail); try go_wp2)
          go_loopg [6] kj16 (fun kq v6 w' => ∃ (x6_4 : Int), v6 = .int .i64 x6_4 ∧ Aside0 (peristyleref25_Projection.l1 kq a1 x5_2 x6_4 a0_0 l0_1 a0_2 = some r) ∧ Aside0 (kq ≤ kj16) ∧ Aside0 (w'.heap[gb129]? = some (.cells #[.string a0_0, (.slice A0_1 l0_1.length c0_1), .int .i64 a0_2] 138 (0, 0))) ∧ Aside0 (Below w.heap.size w w'))
          case atStart => exact ⟨(0), (by rfl), H', ⟨Nat.le_refl _⟩, ⟨BK129.out⟩, ⟨HB.out⟩⟩
          case round =>
           clear H'
           obtain ⟨x6_4, rfl, HA, HK4, BK129, HB⟩ := hrel
           cases gk with
           | zero => exact absurd HA.out (by simp [peristyleref25_Projection.l1])
           | succ k4 =>
            have H := HA.out
            clear HA
            simp only [peristyleref25_Projection.l1] at H
            by_cases c24 : x6_4 < x5_2
            ·
             rw [if_pos c24] at H
             have c24b0 : decide (x6_4 < x5_2) = true := decide_eq_true c24
             clear c24
             by_cases c25 : 0 ≤ x6_4
             ·
              rw [if_pos c25] at H
              have c25b0 : decide (0 ≤ x6_4) = true := decide_eq_true c25
              clear c25
              by_cases c26 : x6_4 < (l0_1.length : Int)
              ·
               rw [if_pos c26] at H
               have c26b0 : decide (x6_4 < (l0_1.length : Int)) = true := decide_eq_true c26
               clear c26
               by_cases c27 : 0 ≤ x5_2
               ·
                rw [if_pos c27] at H
                have c27b0 : decide (0 ≤ x5_2) = true := decide_eq_true c27
                clear c27
                by_cases c28 : x5_2 < (l0_1.length : Int)
                ·
                 rw [if_pos c28] at H
                 have c28b0 : decide (x5_2 < (l0_1.length : Int)) = true := decide_eq_true c28
                 clear c28
                 by_cases c29 : (rd l0_1 x6_4) = (rd l0_1 x5_2)
                 ·
                  rw [if_pos c29] at H
                  have c29b0 : ((rd l0_1 x6_4) == (rd l0_1 x5_2)) = true := beq_iff_eq.mpr c29
                  have c29b1 : ((rd l0_1 x6_4) != (rd l0_1 x5_2)) = false := bne_eq_false_iff_eq.mpr c29
                  clear c29
                  obtain rfl := Option.some.inj H
                  have hcz30_0 : wr.cell? ⟨gb129, 0, none⟩ = some (.string a0_0) := (blk_cell BK129.out 0).trans rfl
                  have hcz30_1 : wr.cell? ⟨gb129, 1, none⟩ = some (.slice A0_1 l0_1.length c0_1) := (blk_cell BK129.out 1).trans rfl
                  have hcz30_2 : wr.cell? ⟨gb129, 2, none⟩ = some (.int .i64 a0_2) := (blk_cell BK129.out 2).trans rfl
                  have hfz30_0 := blk_frozen BK129.out 0
                  have hfz30_1 := blk_frozen BK129.out 1
                  have hfz30_2 := blk_frozen BK129.out 2
                  have p133 : 0 ≤ (x6_4 : Int) := of_decide_eq_true (by (with_reducible assumption))
                  have q133 : x6_4 < (l0_1.length : Int) := of_decide_eq_true (by (with_reducible assumption))
                  obtain ⟨ad133, e133, hx133_0⟩ := Kd.at_int HR0_1.out x6_4 p133 q133
                  cases e133
                  replace hx133_0 := (HB.out.cell (World.block_lt_of_cell? w _ hx133_0)).trans hx133_0
                  replace p133 := eq_true p133
                  replace q133 := eq_true q133
                  have p134 : 0 ≤ (x5_2 : Int) := of_decide_eq_true (by (with_reducible assumption))
                  have q134 : x5_2 < (l0_1.length : Int) := of_decide_eq_true (by (with_reducible assumption))
                  obtain ⟨ad134, e134, hx134_0⟩ := Kd.at_int HR0_1.out x5_2 p134 q134
                  obtain rfl : ad133 = ad134 := (by injection e134)
                  replace hx134_0 := (HB.out.cell (World.block_lt_of_cell? w _ hx134_0)).trans hx134_0
                  replace p134 := eq_true p134
                  replace q134 := eq_true q134
                  go_wp2
                  repeat (go_quiet (fail); try go_wp2)
                  go_ret
                  exact ⟨by rfl, by repeat ((with_reducible first | exact HB.out | apply pw_below_drewN))⟩
                 ·
                  rw [if_neg c29] at H
                  have c29b0 : ((rd l0_1 x6_4) == (rd l0_1 x5_2)) = false := beq_eq_false_iff_ne.mpr c29
                  have c29b1 : ((rd l0_1 x6_4) != (rd l0_1 x5_2)) = true := bne_iff_ne.mpr c29
                  have H' := Aside0.mk H
                  clear H
                  have hcz31_0 : wr.cell? ⟨gb129, 0, none⟩ = some (.string a0_0) := (blk_cell BK129.out 0).trans rfl
                  have hcz31_1 : wr.cell? ⟨gb129, 1, none⟩ = some (.slice A0_1 l0_1.length c0_1) := (blk_cell BK129.out 1).trans rfl
                  have hcz31_2 : wr.cell? ⟨gb129, 2, none⟩ = some (.int .i64 a0_2) := (blk_cell BK129.out 2).trans rfl
                  have hfz31_0 := blk_frozen BK129.out 0
                  have hfz31_1 := blk_frozen BK129.out 1
                  have hfz31_2 := blk_frozen BK129.out 2
                  have p133 : 0 ≤ (x6_4 : Int) := of_decide_eq_true (by (with_reducible assumption))
                  have q133 : x6_4 < (l0_1.length : Int) := of_decide_eq_true (by (with_reducible assumption))
                  obtain ⟨ad133, e133, hx133_0⟩ := Kd.at_int HR0_1.out x6_4 p133 q133
                  cases e133
                  replace hx133_0 := (HB.out.cell (World.block_lt_of_cell? w _ hx133_0)).trans hx133_0
                  replace p133 := eq_true p133
                  replace q133 := eq_true q133
                  have p134 : 0 ≤ (x5_2 : Int) := of_decide_eq_true (by (with_reducible assumption))
                  have q134 : x5_2 < (l0_1.length : Int) := of_decide_eq_true (by (with_reducible assumption))
                  obtain ⟨ad134, e134, hx134_0⟩ := Kd.at_int HR0_1.out x5_2 p134 q134
                  obtain rfl : ad133 = ad134 := (by injection e134)
                  replace hx134_0 := (HB.out.cell (World.block_lt_of_cell? w _ hx134_0)).trans hx134_0
                  replace p134 := eq_true p134
                  replace q134 := eq_true q134
                  go_wp2
                  repeat (go_quiet (fail); try go_wp2)
                  go_roundg k4
                  case measure => have := HJ2.out; have := HK2.out; have := HJ16.out; have := HK4.out; omega
                  case rel => exact ⟨(wrap64 (x6_4 + 1)), (by rfl), H', ⟨by have := HJ2.out; have := HK2.out; have := HJ16.out; have := HK4.out; omega⟩, ⟨by (with_reducible repeat (refine blk_drewN ?_ _)); exact BK129.out⟩, ⟨by repeat ((with_reducible first | exact HB.out | apply pw_below_drewN))⟩⟩
                ·
                 rw [if_neg c28] at H
                 exact absurd H (by simp)
               ·
                rw [if_neg c27] at H
                exact absurd H (by simp)
              ·
               rw [if_neg c26] at H
               exact absurd H (by simp)
             ·
              rw [if_neg c25] at H
              exact absurd H (by simp)
            ·
             rw [if_neg c24] at H
             have c24b0 : decide (x6_4 < x5_2) = false := decide_eq_false c24
             clear c24
             have H' := Aside0.mk H
             clear H
             go_wp2
             repeat (go_quiet (fail); try go_wp2)
             go_roundg k4
             case measure => have := HJ2.out; have := HK2.out; have := HJ16.out; have := HK4.out; omega
             case rel => exact ⟨(wrap64 (x5_2 + 1)), (by rfl), H', ⟨by have := HJ2.out; have := HK2.out; have := HJ16.out; have := HK4.out; omega⟩, ⟨BK129.out⟩, ⟨HB.out⟩⟩
      ·
       rw [if_neg c16] at H
       have c16b0 : decide (x5_2 < (l0_1.length : Int)) = false := decide_eq_false c16
       clear c16
       obtain rfl := Option.some.inj H
       have hcz32_0 : wr.cell? ⟨gb129, 0, none⟩ = some (.string a0_0) := (blk_cell BK129.out 0).trans rfl
       have hcz32_1 : wr.cell? ⟨gb129, 1, none⟩ = some (.slice A0_1 l0_1.length c0_1) := (blk_cell BK129.out 1).trans rfl
       have hcz32_2 : wr.cell? ⟨gb129, 2, none⟩ = some (.int .i64 a0_2) := (blk_cell BK129.out 2).trans rfl
       have hfz32_0 := blk_frozen BK129.out 0
       have hfz32_1 := blk_frozen BK129.out 1
       have hfz32_2 := blk_frozen BK129.out 2
       go_wp2
       repeat (go_quiet (fail); try go_wp2)
       go_ret
       exact ⟨by rfl, by repeat exact HB.out⟩

/-! ### peristyleref25_Super: function 132 -/
mutual
def peristyleref25_Super.l0 : Nat → Int → ByteArray → List (S177) → List (S138) → ByteArray → List Int → Int → Option (Bool)
 | 0, _, _, _, _, _, _, _ => none
 | k + 1, x5, x136000, x136001, x136002, x137000, x137001, x137002 => if x5 < (x136001.length : Int) then (peristyleref25_Super.l1 k x5 false 0 x136000 x136001 x136002 x137000 x137001 x137002) else (some ((x137001.length : Int) == (x136001.length : Int)))
def peristyleref25_Super.l1 : Nat → Int → Bool → Int → ByteArray → List (S177) → List (S138) → ByteArray → List Int → Int → Option (Bool)
 | 0, _, _, _, _, _, _, _, _, _ => none
 | k + 1, x5, x6, x7, x136000, x136001, x136002, x137000, x137001, x137002 => if x7 < (x137001.length : Int) then (if x6 = true then (peristyleref25_Super.l1 k x5 true (wrap64 (x7 + 1)) x136000 x136001 x136002 x137000 x137001 x137002) else (if 0 ≤ x7 then (peristyleref25_Super.l1 k x5 ((rd x137001 x7) == x5) (wrap64 (x7 + 1)) x136000 x136001 x136002 x137000 x137001 x137002) else (none))) else (if x6 = true then (peristyleref25_Super.l0 k (wrap64 (x5 + 1)) x136000 x136001 x136002 x137000 x137001 x137002) else (some false))
end
def peristyleref25_Super.f (k : Nat) (a0_0 : ByteArray) (l0_1 : List (S177)) (l0_2 : List (S138)) (a1_0 : ByteArray) (l1_1 : List Int) (a1_2 : Int) : Option (Bool) := peristyleref25_Super.l0 k 0 a0_0 l0_1 l0_2 a1_0 l1_1 a1_2
theorem peristyleref25_Super.mono_l : ∀ k, (∀ y0 y1 y2 y3 y4 y5 y6, LeO (peristyleref25_Super.l0 k y0 y1 y2 y3 y4 y5 y6) (peristyleref25_Super.l0 (k + 1) y0 y1 y2 y3 y4 y5 y6)) ∧ (∀ y0 y1 y2 y3 y4 y5 y6 y7 y8, LeO (peristyleref25_Super.l1 k y0 y1 y2 y3 y4 y5 y6 y7 y8) (peristyleref25_Super.l1 (k + 1) y0 y1 y2 y3 y4 y5 y6 y7 y8))
 | 0 => ⟨fun _ _ _ _ _ _ _ r h => by simp [peristyleref25_Super.l0] at h, fun _ _ _ _ _ _ _ _ _ r h => by simp [peristyleref25_Super.l1] at h⟩
 | k + 1 => by
  obtain ⟨ih0, ih1⟩ := peristyleref25_Super.mono_l k
  refine ⟨?_, ?_⟩
  ·
   intro y0 y1 y2 y3 y4 y5 y6
   unfold peristyleref25_Super.l0
   repeat' first
   | (with_reducible exact ih0 _ _ _ _ _ _ _)
   | (with_reducible exact ih1 _ _ _ _ _ _ _ _ _)
   | (with_reducible exact LeO.refl _)
   | (with_reducible exact LeO.none _)
   | (with_reducible refine LeO.ite ?_ ?_)
   | (with_reducible refine LeO.bind ?_ (fun _ => ?_))
   | exact ih0 _ _ _ _ _ _ _
   | exact ih1 _ _ _ _ _ _ _ _ _
   | exact LeO.none _
   | refine LeO.ite ?_ ?_
   | refine LeO.bind ?_ (fun _ => ?_)
  ·
   intro y0 y1 y2 y3 y4 y5 y6 y7 y8
   unfold peristyleref25_Super.l1
   repeat' first
   | (with_reducible exact ih0 _ _ _ _ _ _ _)
   | (with_reducible exact ih1 _ _ _ _ _ _ _ _ _)
   | (with_reducible exact LeO.refl _)
   | (with_reducible exact LeO.none _)
   | (with_reducible refine LeO.ite ?_ ?_)
   | (with_reducible refine LeO.bind ?_ (fun _ => ?_))
   | exact ih0 _ _ _ _ _ _ _
   | exact ih1 _ _ _ _ _ _ _ _ _
   | exact LeO.none _
   | refine LeO.ite ?_ ?_
   | refine LeO.bind ?_ (fun _ => ?_)
theorem peristyleref25_Super.mono : ∀ a0 a1 a2 a3 a4 a5 k, LeO (peristyleref25_Super.f k a0 a1 a2 a3 a4 a5) (peristyleref25_Super.f (k + 1) a0 a1 a2 a3 a4 a5) := by
 intro a0 a1 a2 a3 a4 a5 k
 obtain ⟨ih0, ih1⟩ := peristyleref25_Super.mono_l k
 unfold peristyleref25_Super.f
 repeat' first
   | (with_reducible exact ih0 _ _ _ _ _ _ _)
   | (with_reducible exact ih1 _ _ _ _ _ _ _ _ _)
   | (with_reducible exact LeO.refl _)
   | (with_reducible exact LeO.none _)
   | (with_reducible refine LeO.ite ?_ ?_)
   | (with_reducible refine LeO.bind ?_ (fun _ => ?_))
   | exact ih0 _ _ _ _ _ _ _
   | exact ih1 _ _ _ _ _ _ _ _ _
   | exact LeO.none _
   | refine LeO.ite ?_ ?_
   | refine LeO.bind ?_ (fun _ => ?_)
set_option maxHeartbeats 8000000 in
set_option maxRecDepth 100000 in
theorem peristyleref25_Super.calls (k : Nat) (a0_0 : ByteArray) (A0_1 : Option Addr) (c0_1 : Nat) (l0_1 : List (S177)) (A0_2 : Option Addr) (c0_2 : Nat) (l0_2 : List (S138)) (a1_0 : ByteArray) (A1_1 : Option Addr) (c1_1 : Nat) (l1_1 : List Int) (a1_2 : Int) (r : Bool) (w : World) (hr0_1 : Kd.C k177 w A0_1 l0_1.length l0_1) (hc0_1 : l0_1.length ≤ c0_1) (hr0_2 : Kd.C k138 w A0_2 l0_2.length l0_2) (hc0_2 : l0_2.length ≤ c0_2) (hr1_1 : Kd.C (Kd.int .i64) w A1_1 l1_1.length l1_1) (hc1_1 : l1_1.length ≤ c1_1) (h : peristyleref25_Super.f k a0_0 l0_1 l0_2 a1_0 l1_1 a1_2 = some r) :
  Calls Try.prog 132 #[.agg #[.string a0_0, .slice A0_1 l0_1.length c0_1, .slice A0_2 l0_2.length c0_2], .agg #[.string a1_0, .slice A1_1 l1_1.length c1_1, .int .i64 a1_2]] w fun e w' => e = .returned (.bool r) ∧ Below w.heap.size w w' := by
 have hu63 := Try.underlying63
 have hu138 := Try.underlying138
 have HR0_1 := Aside0.mk hr0_1
 have HC0_1 := Aside0.mk hc0_1
 clear hr0_1 hc0_1
 have HR0_2 := Aside0.mk hr0_2
 have HC0_2 := Aside0.mk hc0_2
 clear hr0_2 hc0_2
 have HR1_1 := Aside0.mk hr1_1
 have HC1_1 := Aside0.mk hc1_1
 clear hr1_1 hc1_1
 have HB := Aside0.mk (Below.refl w.heap.size w)
 have H : (peristyleref25_Super.l0 k 0 a0_0 l0_1 l0_2 a1_0 l1_1 a1_2) = some r := h
 clear h
 have H' := Aside0.mk H
 clear H
 go_enter Try.func132, Try.ntmps132
 go_wp2_with (first | ((with_reducible refine gate_dst (N := 2) rfl ?_); refine box_event ?hg (N := 2) ?hd (cs := #[.string a0_0, .slice A0_1 l0_1.length c0_1, .slice A0_2 l0_2.length c0_2]) (t := 63) ?hr ?_; (case hd => rfl); (case hg => rfl); (case hr => (go_simp; done)); intro gb135 hg w3 hbox hb; have n0_ := Aside0.mk (below_step HB.out hb); have n1_ := Aside0.mk (hbox); have n2_ := Aside0.mk ((by rw [hg]; exact (below_size HB.out) : w.heap.size ≤ gb135)); have n3_ := Aside0.mk ((by rw [hg]; exact (below_size HB.out) : w.heap.size ≤ gb135)); clear HB; have HB := n0_; have BK135 := n1_; have GW135 := n2_; have GE135 := n3_; clear n0_ n1_ n2_ n3_ hb hbox hg) | ((with_reducible refine gate_dst (N := 3) rfl ?_); refine box_event ?hg (N := 3) ?hd (cs := #[.string a1_0, .slice A1_1 l1_1.length c1_1, .int .i64 a1_2]) (t := 138) ?hr ?_; (case hd => rfl); (case hg => rfl); (case hr => (go_simp; done)); intro gb136 hg w4 hbox hb; have n0_ := Aside0.mk (blk_below (g := gb135) (o := .cells #[.string a0_0, .slice A0_1 l0_1.length c0_1, .slice A0_2 l0_2.length c0_2] 63 (0, 0)) BK135.out hb); have n1_ := Aside0.mk (below_step HB.out hb); have n2_ := Aside0.mk (hbox); have n3_ := Aside0.mk ((by rw [hg]; exact (below_size HB.out) : w.heap.size ≤ gb136)); have n4_ := Aside0.mk ((by rw [hg]; exact (below_size HB.out) : w.heap.size ≤ gb136)); have n5_ := Aside0.mk ((by rw [hg]; exact Nat.ne_of_lt (blk_lt (g := gb135) (o := .cells #[.string a0_0, .slice A0_1 l0_1.length c0_1, .slice A0_2 l0_2.length c0_2] 63 (0, 0)) BK135.out) : gb135 ≠ gb136)); have n6_ := Aside0.mk ((by rw [hg]; exact Nat.ne_of_gt (blk_lt (g := gb135) (o := .cells #[.string a0_0, .slice A0_1 l0_1.length c0_1, .slice A0_2 l0_2.length c0_2] 63 (0, 0)) BK135.out) : gb136 ≠ gb135)); clear BK135 HB; have BK135 := n0_; have HB := n1_; have BK136 := n2_; have GW136 := n3_; have GE136 := n4_; have NB135_136 := n5_; have NB136_135 := n6_; clear n0_ n1_ n2_ n3_ n4_ n5_ n6_ hb hbox hg))
 go_loopg [5] k (fun kq v5 w' => ∃ (x5_1 : Int), v5 = .int .i64 x5_1 ∧ Aside0 (peristyleref25_Super.l0 kq x5_1 a0_0 l0_1 l0_2 a1_0 l1_1 a1_2 = some r) ∧ Aside0 (kq ≤ k) ∧ Aside0 (w'.heap[gb135]? = some (.cells #[.string a0_0, (.slice A0_1 l0_1.length c0_1), (.slice A0_2 l0_2.length c0_2)] 63 (0, 0))) ∧ Aside0 (w'.heap[gb136]? = some (.cells #[.string a1_0, (.slice A1_1 l1_1.length c1_1), .int .i64 a1_2] 138 (0, 0))) ∧ Aside0 (Below w.heap.size w w'))
 case atStart => exact ⟨(0), (by rfl), H', ⟨Nat.le_refl _⟩, ⟨BK135.out⟩, ⟨BK136.out⟩, ⟨HB.out⟩⟩
 case round =>
  clear H'
  obtain ⟨x5_1, rfl, HA, HK1, BK135, BK136, HB⟩ := hrel
  cases gk with
  | zero => exact absurd HA.out (by simp [peristyleref25_Super.l0])
  | succ k1 =>
   have H := HA.out
   clear HA
   simp only [peristyleref25_Super.l0] at H
   by_cases c5 : x5_1 < (l0_1.length : Int)
   ·
    rw [if_pos c5] at H
    have c5b0 : decide (x5_1 < (l0_1.length : Int)) = true := decide_eq_true c5
    clear c5
    have H' := Aside0.mk H
    clear H
    have hnb6 := NB135_136.out
    have hnc6 := NB136_135.out
    have hcz7_0 : wr.cell? ⟨gb135, 0, none⟩ = some (.string a0_0) := (blk_cell BK135.out 0).trans rfl
    have hcz7_1 : wr.cell? ⟨gb135, 1, none⟩ = some (.slice A0_1 l0_1.length c0_1) := (blk_cell BK135.out 1).trans rfl
    have hcz7_2 : wr.cell? ⟨gb135, 2, none⟩ = some (.slice A0_2 l0_2.length c0_2) := (blk_cell BK135.out 2).trans rfl
    have hfz7_0 := blk_frozen BK135.out 0
    have hfz7_1 := blk_frozen BK135.out 1
    have hfz7_2 := blk_frozen BK135.out 2
    go_wp2
    go_loopg [6, 7] k1 (fun kq v6 v7 w' => ∃ (x6_2 : Bool) (x7_2 : Int), v6 = .bool x6_2 ∧ v7 = .int .i64 x7_2 ∧ Aside0 (peristyleref25_Super.l1 kq x5_1 x6_2 x7_2 a0_0 l0_1 l0_2 a1_0 l1_1 a1_2 = some r) ∧ Aside0 (kq ≤ k1) ∧ Aside0 (w'.heap[gb135]? = some (.cells #[.string a0_0, (.slice A0_1 l0_1.length c0_1), (.slice A0_2 l0_2.length c0_2)] 63 (0, 0))) ∧ Aside0 (w'.heap[gb136]? = some (.cells #[.string a1_0, (.slice A1_1 l1_1.length c1_1), .int .i64 a1_2] 138 (0, 0))) ∧ Aside0 (Below w.heap.size w w'))
    case atStart => exact ⟨(false), (0), (by rfl), (by rfl), H', ⟨Nat.le_refl _⟩, ⟨BK135.out⟩, ⟨BK136.out⟩, ⟨HB.out⟩⟩
    case round =>
     clear H'
     try clear c5b0
     try clear hcz7_0
     try clear hcz7_1
     try clear hcz7_2
     try clear hfz7_0
     try clear hfz7_1
     try clear hfz7_2
     obtain ⟨x6_2, x7_2, rfl, rfl, HA, HK2, BK135, BK136, HB⟩ := hrel
     cases gk with
     | zero => exact absurd HA.out (by simp [peristyleref25_Super.l1])
     | succ k2 =>
      have H := HA.out
      clear HA
      simp only [peristyleref25_Super.l1] at H
      by_cases c8 : x7_2 < (l1_1.length : Int)
      ·
       rw [if_pos c8] at H
       have c8b0 : decide (x7_2 < (l1_1.length : Int)) = true := decide_eq_true c8
       clear c8
       by_cases c9 : x6_2 = true
       ·
        subst c9
        have H1 : (peristyleref25_Super.l1 k2 x5_1 true (wrap64 (x7_2 + 1)) a0_0 l0_1 l0_2 a1_0 l1_1 a1_2) = some r := by rw [if_pos rfl] at H; exact H
        clear H
        have H := H1
        clear H1
        have H' := Aside0.mk H
        clear H
        have hnb10 := NB136_135.out
        have hnc10 := NB135_136.out
        have hcz11_0 : wr.cell? ⟨gb136, 0, none⟩ = some (.string a1_0) := (blk_cell BK136.out 0).trans rfl
        have hcz11_1 : wr.cell? ⟨gb136, 1, none⟩ = some (.slice A1_1 l1_1.length c1_1) := (blk_cell BK136.out 1).trans rfl
        have hcz11_2 : wr.cell? ⟨gb136, 2, none⟩ = some (.int .i64 a1_2) := (blk_cell BK136.out 2).trans rfl
        have hfz11_0 := blk_frozen BK136.out 0
        have hfz11_1 := blk_frozen BK136.out 1
        have hfz11_2 := blk_frozen BK136.out 2
        go_wp2
        go_roundg k2
        case measure => have := HK1.out; have := HK2.out; omega
        case rel => exact ⟨(true), (wrap64 (x7_2 + 1)), (by rfl), (by rfl), H', ⟨by have := HK1.out; have := HK2.out; omega⟩, ⟨BK135.out⟩, ⟨BK136.out⟩, ⟨HB.out⟩⟩
       ·
        replace c9 := Bool.eq_false_iff.mpr c9
        subst c9
        have H1 : (if 0 ≤ x7_2 then (peristyleref25_Super.l1 k2 x5_1 ((rd l1_1 x7_2) == x5_1) (wrap64 (x7_2 + 1)) a0_0 l0_1 l0_2 a1_0 l1_1 a1_2) else (none)) = some r := by rw [if_neg (show ¬ (false = true) by decide)] at H; exact H
        clear H
        have H := H1
        clear H1
        by_cases c12 : 0 ≤ x7_2
        ·
         rw [if_pos c12] at H
         have c12b0 : decide (0 ≤ x7_2) = true := decide_eq_true c12
         clear c12
         have H' := Aside0.mk H
         clear H
         have hnb13 := NB136_135.out
         have hnc13 := NB135_136.out
         have hcz14_0 : wr.cell? ⟨gb136, 0, none⟩ = some (.string a1_0) := (blk_cell BK136.out 0).trans rfl
         have hcz14_1 : wr.cell? ⟨gb136, 1, none⟩ = some (.slice A1_1 l1_1.length c1_1) := (blk_cell BK136.out 1).trans rfl
         have hcz14_2 : wr.cell? ⟨gb136, 2, none⟩ = some (.int .i64 a1_2) := (blk_cell BK136.out 2).trans rfl
         have hfz14_0 := blk_frozen BK136.out 0
         have hfz14_1 := blk_frozen BK136.out 1
         have hfz14_2 := blk_frozen BK136.out 2
         have p137 : 0 ≤ (x7_2 : Int) := of_decide_eq_true (by (with_reducible assumption))
         have q137 : x7_2 < (l1_1.length : Int) := of_decide_eq_true (by (with_reducible assumption))
         obtain ⟨ad137, e137, hx137_0⟩ := Kd.at_int HR1_1.out x7_2 p137 q137
         cases e137
         replace hx137_0 := (HB.out.cell (World.block_lt_of_cell? w _ hx137_0)).trans hx137_0
         replace p137 := eq_true p137
         replace q137 := eq_true q137
         go_wp2
         go_roundg k2
         case measure => have := HK1.out; have := HK2.out; omega
         case rel => exact ⟨(((rd l1_1 x7_2) == x5_1)), (wrap64 (x7_2 + 1)), (by rfl), (by rfl), H', ⟨by have := HK1.out; have := HK2.out; omega⟩, ⟨BK135.out⟩, ⟨BK136.out⟩, ⟨HB.out⟩⟩
        ·
         rw [if_neg c12] at H
         exact absurd H (by simp)
      ·
       rw [if_neg c8] at H
       have c8b0 : decide (x7_2 < (l1_1.length : Int)) = false := decide_eq_false c8
       clear c8
       by_cases c15 : x6_2 = true
       ·
        subst c15
        have H1 : (peristyleref25_Super.l0 k2 (wrap64 (x5_1 + 1)) a0_0 l0_1 l0_2 a1_0 l1_1 a1_2) = some r := by rw [if_pos rfl] at H; exact H
        clear H
        have H := H1
        clear H1
        have H' := Aside0.mk H
        clear H
        have hnb16 := NB136_135.out
        have hnc16 := NB135_136.out
        have hcz17_0 : wr.cell? ⟨gb136, 0, none⟩ = some (.string a1_0) := (blk_cell BK136.out 0).trans rfl
        have hcz17_1 : wr.cell? ⟨gb136, 1, none⟩ = some (.slice A1_1 l1_1.length c1_1) := (blk_cell BK136.out 1).trans rfl
        have hcz17_2 : wr.cell? ⟨gb136, 2, none⟩ = some (.int .i64 a1_2) := (blk_cell BK136.out 2).trans rfl
        have hfz17_0 := blk_frozen BK136.out 0
        have hfz17_1 := blk_frozen BK136.out 1
        have hfz17_2 := blk_frozen BK136.out 2
        go_wp2
        go_roundg k2
        case measure => have := HK1.out; have := HK2.out; omega
        case rel => exact ⟨(wrap64 (x5_1 + 1)), (by rfl), H', ⟨by have := HK1.out; have := HK2.out; omega⟩, ⟨BK135.out⟩, ⟨BK136.out⟩, ⟨HB.out⟩⟩
       ·
        replace c15 := Bool.eq_false_iff.mpr c15
        subst c15
        have H1 : (some false) = some r := by rw [if_neg (show ¬ (false = true) by decide)] at H; exact H
        clear H
        have H := H1
        clear H1
        obtain rfl := Option.some.inj H
        have hnb18 := NB136_135.out
        have hnc18 := NB135_136.out
        have hcz19_0 : wr.cell? ⟨gb136, 0, none⟩ = some (.string a1_0) := (blk_cell BK136.out 0).trans rfl
        have hcz19_1 : wr.cell? ⟨gb136, 1, none⟩ = some (.slice A1_1 l1_1.length c1_1) := (blk_cell BK136.out 1).trans rfl
        have hcz19_2 : wr.cell? ⟨gb136, 2, none⟩ = some (.int .i64 a1_2) := (blk_cell BK136.out 2).trans rfl
        have hfz19_0 := blk_frozen BK136.out 0
        have hfz19_1 := blk_frozen BK136.out 1
        have hfz19_2 := blk_frozen BK136.out 2
        go_wp2
        go_ret
        exact ⟨by rfl, by repeat exact HB.out⟩
   ·
    rw [if_neg c5] at H
    have c5b0 : decide (x5_1 < (l0_1.length : Int)) = false := decide_eq_false c5
    clear c5
    obtain rfl := Option.some.inj H
    have hnb20 := NB135_136.out
    have hnc20 := NB136_135.out
    have hcz21_0 : wr.cell? ⟨gb135, 0, none⟩ = some (.string a0_0) := (blk_cell BK135.out 0).trans rfl
    have hcz21_1 : wr.cell? ⟨gb135, 1, none⟩ = some (.slice A0_1 l0_1.length c0_1) := (blk_cell BK135.out 1).trans rfl
    have hcz21_2 : wr.cell? ⟨gb135, 2, none⟩ = some (.slice A0_2 l0_2.length c0_2) := (blk_cell BK135.out 2).trans rfl
    have hfz21_0 := blk_frozen BK135.out 0
    have hfz21_1 := blk_frozen BK135.out 1
    have hfz21_2 := blk_frozen BK135.out 2
    have hcz22_0 : wr.cell? ⟨gb136, 0, none⟩ = some (.string a1_0) := (blk_cell BK136.out 0).trans rfl
    have hcz22_1 : wr.cell? ⟨gb136, 1, none⟩ = some (.slice A1_1 l1_1.length c1_1) := (blk_cell BK136.out 1).trans rfl
    have hcz22_2 : wr.cell? ⟨gb136, 2, none⟩ = some (.int .i64 a1_2) := (blk_cell BK136.out 2).trans rfl
    have hfz22_0 := blk_frozen BK136.out 0
    have hfz22_1 := blk_frozen BK136.out 1
    have hfz22_2 := blk_frozen BK136.out 2
    go_wp2
    go_ret
    exact ⟨by rfl, by repeat exact HB.out⟩

/-! ### peristyleref25_table: function 86 -/
mutual
def peristyleref25_table.j0 : Nat → Bool → ByteArray → List (S177) → List (S138) → Option (Bool)
 | 0, _, _, _, _ => none
 | k + 1, x22, x139000, x139001, x139002 => if x22 = true then (some false) else (peristyleref25_table.l0 k false 0 x139000 x139001 x139002)
def peristyleref25_table.l0 : Nat → Bool → Int → ByteArray → List (S177) → List (S138) → Option (Bool)
 | 0, _, _, _, _, _ => none
 | k + 1, x3, x4, x139000, x139001, x139002 => if x4 < (x139002.length : Int) then (if 0 ≤ x4 then ((peristyleref25_Projection.f k ((rd_T138 x139002 x4).f0) ((rd_T138 x139002 x4).f1) ((rd_T138 x139002 x4).f2) (x139001.length : Int)).bind fun t143 => (if t143 = true then (if x3 = true then (peristyleref25_table.j2 k true x4 x139000 x139001 x139002 ((rd_T138 x139002 x4).f0) ((rd_T138 x139002 x4).f1) ((rd_T138 x139002 x4).f2)) else ((peristyleref25_Super.f k x139000 x139001 x139002 ((rd_T138 x139002 x4).f0) ((rd_T138 x139002 x4).f1) ((rd_T138 x139002 x4).f2)).bind fun t144 => (peristyleref25_table.j2 k t144 x4 x139000 x139001 x139002 ((rd_T138 x139002 x4).f0) ((rd_T138 x139002 x4).f1) ((rd_T138 x139002 x4).f2)))) else (some false))) else (none)) else (some x3)
def peristyleref25_table.j2 : Nat → Bool → Int → ByteArray → List (S177) → List (S138) → ByteArray → List Int → Int → Option (Bool)
 | 0, _, _, _, _, _, _, _, _ => none
 | k + 1, x3, x4, x139000, x139001, x139002, x143000, x143001, x143002 => peristyleref25_table.l1 k x3 x4 0 x139000 x139001 x139002 x143000 x143001 x143002
def peristyleref25_table.l1 : Nat → Bool → Int → Int → ByteArray → List (S177) → List (S138) → ByteArray → List Int → Int → Option (Bool)
 | 0, _, _, _, _, _, _, _, _, _ => none
 | k + 1, x3, x4, x6, x139000, x139001, x139002, x143000, x143001, x143002 => if x6 < x4 then (if 0 ≤ x6 then (if x6 < (x139002.length : Int) then (if ((rd_T138 x139002 x6).f0).toList = x143000.toList then (some false) else (peristyleref25_table.l1 k x3 x4 (wrap64 (x6 + 1)) x139000 x139001 x139002 x143000 x143001 x143002)) else (none)) else (none)) else (peristyleref25_table.l0 k x3 (wrap64 (x4 + 1)) x139000 x139001 x139002)
end
def peristyleref25_table.f (k : Nat) (a0_0 : ByteArray) (l0_1 : List (S177)) (l0_2 : List (S138)) : Option (Bool) := (peristyleref25_Name.f k a0_0).bind fun t139 => (if t139 = true then ((peristyleref25_Columns.f k l0_1).bind fun t140 => (if t140 = true then (peristyleref25_table.j0 k (decide ((l0_2.length : Int) > 6)) a0_0 l0_1 l0_2) else (peristyleref25_table.j0 k true a0_0 l0_1 l0_2))) else (peristyleref25_table.j0 k true a0_0 l0_1 l0_2))
theorem peristyleref25_table.mono_l : ∀ k, (∀ y0 y1 y2 y3, LeO (peristyleref25_table.j0 k y0 y1 y2 y3) (peristyleref25_table.j0 (k + 1) y0 y1 y2 y3)) ∧ (∀ y0 y1 y2 y3 y4, LeO (peristyleref25_table.l0 k y0 y1 y2 y3 y4) (peristyleref25_table.l0 (k + 1) y0 y1 y2 y3 y4)) ∧ (∀ y0 y1 y2 y3 y4 y5 y6 y7, LeO (peristyleref25_table.j2 k y0 y1 y2 y3 y4 y5 y6 y7) (peristyleref25_table.j2 (k + 1) y0 y1 y2 y3 y4 y5 y6 y7)) ∧ (∀ y0 y1 y2 y3 y4 y5 y6 y7 y8, LeO (peristyleref25_table.l1 k y0 y1 y2 y3 y4 y5 y6 y7 y8) (peristyleref25_table.l1 (k + 1) y0 y1 y2 y3 y4 y5 y6 y7 y8))
 | 0 => ⟨fun _ _ _ _ r h => by simp [peristyleref25_table.j0] at h, fun _ _ _ _ _ r h => by simp [peristyleref25_table.l0] at h, fun _ _ _ _ _ _ _ _ r h => by simp [peristyleref25_table.j2] at h, fun _ _ _ _ _ _ _ _ _ r h => by simp [peristyleref25_table.l1] at h⟩
 | k + 1 => by
  obtain ⟨ih0, ih1, ih2, ih3⟩ := peristyleref25_table.mono_l k
  refine ⟨?_, ?_, ?_, ?_⟩
  ·
   intro y0 y1 y2 y3
   unfold peristyleref25_table.j0
   repeat' first
   | (with_reducible exact ih0 _ _ _ _)
   | (with_reducible exact ih1 _ _ _ _ _)
   | (with_reducible exact ih2 _ _ _ _ _ _ _ _)
   | (with_reducible exact ih3 _ _ _ _ _ _ _ _ _)
   | (with_reducible exact peristyleref25_Columns.mono _ _)
   | (with_reducible exact peristyleref25_Name.mono _ _)
   | (with_reducible exact peristyleref25_Projection.mono _ _ _ _ _)
   | (with_reducible exact peristyleref25_Super.mono _ _ _ _ _ _ _)
   | (with_reducible exact LeO.refl _)
   | (with_reducible exact LeO.none _)
   | (with_reducible refine LeO.ite ?_ ?_)
   | (with_reducible refine LeO.bind ?_ (fun _ => ?_))
   | exact ih0 _ _ _ _
   | exact ih1 _ _ _ _ _
   | exact ih2 _ _ _ _ _ _ _ _
   | exact ih3 _ _ _ _ _ _ _ _ _
   | exact peristyleref25_Columns.mono _ _
   | exact peristyleref25_Name.mono _ _
   | exact peristyleref25_Projection.mono _ _ _ _ _
   | exact peristyleref25_Super.mono _ _ _ _ _ _ _
   | exact LeO.none _
   | refine LeO.ite ?_ ?_
   | refine LeO.bind ?_ (fun _ => ?_)
  ·
   intro y0 y1 y2 y3 y4
   unfold peristyleref25_table.l0
   repeat' first
   | (with_reducible exact ih0 _ _ _ _)
   | (with_reducible exact ih1 _ _ _ _ _)
   | (with_reducible exact ih2 _ _ _ _ _ _ _ _)
   | (with_reducible exact ih3 _ _ _ _ _ _ _ _ _)
   | (with_reducible exact peristyleref25_Columns.mono _ _)
   | (with_reducible exact peristyleref25_Name.mono _ _)
   | (with_reducible exact peristyleref25_Projection.mono _ _ _ _ _)
   | (with_reducible exact peristyleref25_Super.mono _ _ _ _ _ _ _)
   | (with_reducible exact LeO.refl _)
   | (with_reducible exact LeO.none _)
   | (with_reducible refine LeO.ite ?_ ?_)
   | (with_reducible refine LeO.bind ?_ (fun _ => ?_))
   | exact ih0 _ _ _ _
   | exact ih1 _ _ _ _ _
   | exact ih2 _ _ _ _ _ _ _ _
   | exact ih3 _ _ _ _ _ _ _ _ _
   | exact peristyleref25_Columns.mono _ _
   | exact peristyleref25_Name.mono _ _
   | exact peristyleref25_Projection.mono _ _ _ _ _
   | exact peristyleref25_Super.mono _ _ _ _ _ _ _
   | exact LeO.none _
   | refine LeO.ite ?_ ?_
   | refine LeO.bind ?_ (fun _ => ?_)
  ·
   intro y0 y1 y2 y3 y4 y5 y6 y7
   unfold peristyleref25_table.j2
   repeat' first
   | (with_reducible exact ih0 _ _ _ _)
   | (with_reducible exact ih1 _ _ _ _ _)
   | (with_reducible exact ih2 _ _ _ _ _ _ _ _)
   | (with_reducible exact ih3 _ _ _ _ _ _ _ _ _)
   | (with_reducible exact peristyleref25_Columns.mono _ _)
   | (with_reducible exact peristyleref25_Name.mono _ _)
   | (with_reducible exact peristyleref25_Projection.mono _ _ _ _ _)
   | (with_reducible exact peristyleref25_Super.mono _ _ _ _ _ _ _)
   | (with_reducible exact LeO.refl _)
   | (with_reducible exact LeO.none _)
   | (with_reducible refine LeO.ite ?_ ?_)
   | (with_reducible refine LeO.bind ?_ (fun _ => ?_))
   | exact ih0 _ _ _ _
   | exact ih1 _ _ _ _ _
   | exact ih2 _ _ _ _ _ _ _ _
   | exact ih3 _ _ _ _ _ _ _ _ _
   | exact peristyleref25_Columns.mono _ _
   | exact peristyleref25_Name.mono _ _
   | exact peristyleref25_Projection.mono _ _ _ _ _
   | exact peristyleref25_Super.mono _ _ _ _ _ _ _
   | exact LeO.none _
   | refine LeO.ite ?_ ?_
   | refine LeO.bind ?_ (fun _ => ?_)
  ·
   intro y0 y1 y2 y3 y4 y5 y6 y7 y8
   unfold peristyleref25_table.l1
   repeat' first
   | (with_reducible exact ih0 _ _ _ _)
   | (with_reducible exact ih1 _ _ _ _ _)
   | (with_reducible exact ih2 _ _ _ _ _ _ _ _)
   | (with_reducible exact ih3 _ _ _ _ _ _ _ _ _)
   | (with_reducible exact peristyleref25_Columns.mono _ _)
   | (with_reducible exact peristyleref25_Name.mono _ _)
   | (with_reducible exact peristyleref25_Projection.mono _ _ _ _ _)
   | (with_reducible exact peristyleref25_Super.mono _ _ _ _ _ _ _)
   | (with_reducible exact LeO.refl _)
   | (with_reducible exact LeO.none _)
   | (with_reducible refine LeO.ite ?_ ?_)
   | (with_reducible refine LeO.bind ?_ (fun _ => ?_))
   | exact ih0 _ _ _ _
   | exact ih1 _ _ _ _ _
   | exact ih2 _ _ _ _ _ _ _ _
   | exact ih3 _ _ _ _ _ _ _ _ _
   | exact peristyleref25_Columns.mono _ _
   | exact peristyleref25_Name.mono _ _
   | exact peristyleref25_Projection.mono _ _ _ _ _
   | exact peristyleref25_Super.mono _ _ _ _ _ _ _
   | exact LeO.none _
   | refine LeO.ite ?_ ?_
   | refine LeO.bind ?_ (fun _ => ?_)
theorem peristyleref25_table.mono : ∀ a0 a1 a2 k, LeO (peristyleref25_table.f k a0 a1 a2) (peristyleref25_table.f (k + 1) a0 a1 a2) := by
 intro a0 a1 a2 k
 obtain ⟨ih0, ih1, ih2, ih3⟩ := peristyleref25_table.mono_l k
 unfold peristyleref25_table.f
 repeat' first
   | (with_reducible exact ih0 _ _ _ _)
   | (with_reducible exact ih1 _ _ _ _ _)
   | (with_reducible exact ih2 _ _ _ _ _ _ _ _)
   | (with_reducible exact ih3 _ _ _ _ _ _ _ _ _)
   | (with_reducible exact peristyleref25_Columns.mono _ _)
   | (with_reducible exact peristyleref25_Name.mono _ _)
   | (with_reducible exact peristyleref25_Projection.mono _ _ _ _ _)
   | (with_reducible exact peristyleref25_Super.mono _ _ _ _ _ _ _)
   | (with_reducible exact LeO.refl _)
   | (with_reducible exact LeO.none _)
   | (with_reducible refine LeO.ite ?_ ?_)
   | (with_reducible refine LeO.bind ?_ (fun _ => ?_))
   | exact ih0 _ _ _ _
   | exact ih1 _ _ _ _ _
   | exact ih2 _ _ _ _ _ _ _ _
   | exact ih3 _ _ _ _ _ _ _ _ _
   | exact peristyleref25_Columns.mono _ _
   | exact peristyleref25_Name.mono _ _
   | exact peristyleref25_Projection.mono _ _ _ _ _
   | exact peristyleref25_Super.mono _ _ _ _ _ _ _
   | exact LeO.none _
   | refine LeO.ite ?_ ?_
   | refine LeO.bind ?_ (fun _ => ?_)
set_option maxHeartbeats 8000000 in
set_option maxRecDepth 100000 in
theorem peristyleref25_table.calls (k : Nat) (a0_0 : ByteArray) (A0_1 : Option Addr) (c0_1 : Nat) (l0_1 : List (S177)) (A0_2 : Option Addr) (c0_2 : Nat) (l0_2 : List (S138)) (r : Bool) (w : World) (hr0_1 : Kd.C k177 w A0_1 l0_1.length l0_1) (hc0_1 : l0_1.length ≤ c0_1) (hr0_2 : Kd.C k138 w A0_2 l0_2.length l0_2) (hc0_2 : l0_2.length ≤ c0_2) (h : peristyleref25_table.f k a0_0 l0_1 l0_2 = some r) :
  Calls Try.prog 86 #[.agg #[.string a0_0, .slice A0_1 l0_1.length c0_1, .slice A0_2 l0_2.length c0_2]] w fun e w' => e = .returned (.bool r) ∧ Below w.heap.size w w' := by
 have hu63 := Try.underlying63
 have hu138 := Try.underlying138
 have HR0_1 := Aside0.mk hr0_1
 have HC0_1 := Aside0.mk hc0_1
 clear hr0_1 hc0_1
 have HR0_2 := Aside0.mk hr0_2
 have HC0_2 := Aside0.mk hc0_2
 clear hr0_2 hc0_2
 have HB := Aside0.mk (Below.refl w.heap.size w)
 have H : ((peristyleref25_Name.f k a0_0).bind fun t139 => (if t139 = true then ((peristyleref25_Columns.f k l0_1).bind fun t140 => (if t140 = true then (peristyleref25_table.j0 k (decide ((l0_2.length : Int) > 6)) a0_0 l0_1 l0_2) else (peristyleref25_table.j0 k true a0_0 l0_1 l0_2))) else (peristyleref25_table.j0 k true a0_0 l0_1 l0_2))) = some r := h
 clear h
 have HC2 := Aside0.mk H
 clear H
 go_enter Try.func86, Try.ntmps86
 go_upto_region 1 with (((with_reducible refine gate_dst (N := 1) rfl ?_); (try (refine gate_guard (by rfl) ?_; dsimp only)); refine box_event ?hg (N := 1) ?hd (cs := #[.string a0_0, .slice A0_1 l0_1.length c0_1, .slice A0_2 l0_2.length c0_2]) (t := 63) ?hr ?_; (case hd => rfl); (case hg => rfl); (case hr => (go_simp; done)); intro gb138 hg w3 hbox hb; have n0_ := Aside0.mk (below_step HB.out hb); have n1_ := Aside0.mk (hbox); have n2_ := Aside0.mk ((by rw [hg]; exact (below_size HB.out) : w.heap.size ≤ gb138)); have n3_ := Aside0.mk ((by rw [hg]; exact (below_size HB.out) : w.heap.size ≤ gb138)); clear HB; have HB := n0_; have BK138 := n1_; have GW138 := n2_; have GE138 := n3_; clear n0_ n1_ n2_ n3_ hb hbox hg))
 repeat (go_quiet (fail); go_upto_region 1 with fail)
 go_cut [22] (fun v22 wc => ∃ (kq : Nat) (x22_1 : Bool), v22 = .bool x22_1 ∧ Aside0 (peristyleref25_table.j0 kq x22_1 a0_0 l0_1 l0_2 = some r) ∧ Aside0 (kq ≤ k) ∧ Aside0 (wc.heap[gb138]? = some (.cells #[.string a0_0, (.slice A0_1 l0_1.length c0_1), (.slice A0_2 l0_2.length c0_2)] 63 (0, 0))) ∧ Aside0 (Below w.heap.size w wc))
 case first =>
  have H := HC2.out
  clear HC2
  replace H := Option.bind_eq_some_iff.mp H
  obtain ⟨t139, A40, H⟩ := H
  replace H : (if t139 = true then ((peristyleref25_Columns.f k l0_1).bind fun t140 => (if t140 = true then (peristyleref25_table.j0 k (decide ((l0_2.length : Int) > 6)) a0_0 l0_1 l0_2) else (peristyleref25_table.j0 k true a0_0 l0_1 l0_2))) else (peristyleref25_table.j0 k true a0_0 l0_1 l0_2)) = some r := H
  have A4 := Aside0.mk A40
  clear A40
  by_cases c5 : t139 = true
  ·
   subst c5
   have H1 : ((peristyleref25_Columns.f k l0_1).bind fun t140 => (if t140 = true then (peristyleref25_table.j0 k (decide ((l0_2.length : Int) > 6)) a0_0 l0_1 l0_2) else (peristyleref25_table.j0 k true a0_0 l0_1 l0_2))) = some r := by rw [if_pos rfl] at H; exact H
   clear H
   have H := H1
   clear H1
   replace H := Option.bind_eq_some_iff.mp H
   obtain ⟨t140, A60, H⟩ := H
   replace H : (if t140 = true then (peristyleref25_table.j0 k (decide ((l0_2.length : Int) > 6)) a0_0 l0_1 l0_2) else (peristyleref25_table.j0 k true a0_0 l0_1 l0_2)) = some r := H
   have A6 := Aside0.mk A60
   clear A60
   by_cases c7 : t140 = true
   ·
    subst c7
    have H1 : (peristyleref25_table.j0 k (decide ((l0_2.length : Int) > 6)) a0_0 l0_1 l0_2) = some r := by rw [if_pos rfl] at H; exact H
    clear H
    have H := H1
    clear H1
    have H' := Aside0.mk H
    clear H
    have hcz8_0 : w3.cell? ⟨gb138, 0, none⟩ = some (.string a0_0) := (blk_cell BK138.out 0).trans rfl
    have hcz8_1 : w3.cell? ⟨gb138, 1, none⟩ = some (.slice A0_1 l0_1.length c0_1) := (blk_cell BK138.out 1).trans rfl
    have hcz8_2 : w3.cell? ⟨gb138, 2, none⟩ = some (.slice A0_2 l0_2.length c0_2) := (blk_cell BK138.out 2).trans rfl
    have hfz8_0 := blk_frozen BK138.out 0
    have hfz8_1 := blk_frozen BK138.out 1
    have hfz8_2 := blk_frozen BK138.out 2
    go_wp2_with (first | (go_at_call 129; (with_reducible refine (peristyleref25_Name.calls k a0_0 true _ A4.out).mono ?_); rintro e w' ⟨rfl, ⟨nd, rfl⟩⟩) | (go_at_call 130; (with_reducible refine (peristyleref25_Columns.calls k _ _ l0_1 true _ ?side1 ?side2 A6.out).mono ?_); (case side1 => repeat (exact (Kd.C_below HR0_1.out (by repeat ((with_reducible first | exact HB.out | apply pw_below_drewN)))))); (case side2 => exact HC0_1.out); rintro e w' ⟨rfl, ⟨nd, rfl⟩⟩))
    repeat (go_quiet (fail); try go_wp2_with fail)
    go_meet
    case rel => exact ⟨_, (decide ((l0_2.length : Int) > 6)), (by rfl), H', ⟨by omega⟩, ⟨by (with_reducible repeat (refine blk_drewN ?_ _)); exact BK138.out⟩, ⟨by repeat ((with_reducible first | exact HB.out | apply pw_below_drewN))⟩⟩
   ·
    replace c7 := Bool.eq_false_iff.mpr c7
    subst c7
    have H1 : (peristyleref25_table.j0 k true a0_0 l0_1 l0_2) = some r := by rw [if_neg (show ¬ (false = true) by decide)] at H; exact H
    clear H
    have H := H1
    clear H1
    have H' := Aside0.mk H
    clear H
    have hcz9_0 : w3.cell? ⟨gb138, 0, none⟩ = some (.string a0_0) := (blk_cell BK138.out 0).trans rfl
    have hcz9_1 : w3.cell? ⟨gb138, 1, none⟩ = some (.slice A0_1 l0_1.length c0_1) := (blk_cell BK138.out 1).trans rfl
    have hcz9_2 : w3.cell? ⟨gb138, 2, none⟩ = some (.slice A0_2 l0_2.length c0_2) := (blk_cell BK138.out 2).trans rfl
    have hfz9_0 := blk_frozen BK138.out 0
    have hfz9_1 := blk_frozen BK138.out 1
    have hfz9_2 := blk_frozen BK138.out 2
    go_wp2_with (first | (go_at_call 129; (with_reducible refine (peristyleref25_Name.calls k a0_0 true _ A4.out).mono ?_); rintro e w' ⟨rfl, ⟨nd, rfl⟩⟩) | (go_at_call 130; (with_reducible refine (peristyleref25_Columns.calls k _ _ l0_1 false _ ?side1 ?side2 A6.out).mono ?_); (case side1 => repeat (exact (Kd.C_below HR0_1.out (by repeat ((with_reducible first | exact HB.out | apply pw_below_drewN)))))); (case side2 => exact HC0_1.out); rintro e w' ⟨rfl, ⟨nd, rfl⟩⟩))
    repeat (go_quiet (fail); try go_wp2_with fail)
    go_meet
    case rel => exact ⟨_, (true), (by rfl), H', ⟨by omega⟩, ⟨by (with_reducible repeat (refine blk_drewN ?_ _)); exact BK138.out⟩, ⟨by repeat ((with_reducible first | exact HB.out | apply pw_below_drewN))⟩⟩
  ·
   replace c5 := Bool.eq_false_iff.mpr c5
   subst c5
   have H1 : (peristyleref25_table.j0 k true a0_0 l0_1 l0_2) = some r := by rw [if_neg (show ¬ (false = true) by decide)] at H; exact H
   clear H
   have H := H1
   clear H1
   have H' := Aside0.mk H
   clear H
   have hcz10_0 : w3.cell? ⟨gb138, 0, none⟩ = some (.string a0_0) := (blk_cell BK138.out 0).trans rfl
   have hcz10_1 : w3.cell? ⟨gb138, 1, none⟩ = some (.slice A0_1 l0_1.length c0_1) := (blk_cell BK138.out 1).trans rfl
   have hcz10_2 : w3.cell? ⟨gb138, 2, none⟩ = some (.slice A0_2 l0_2.length c0_2) := (blk_cell BK138.out 2).trans rfl
   have hfz10_0 := blk_frozen BK138.out 0
   have hfz10_1 := blk_frozen BK138.out 1
   have hfz10_2 := blk_frozen BK138.out 2
   go_wp2_with ((go_at_call 129; (with_reducible refine (peristyleref25_Name.calls k a0_0 false _ A4.out).mono ?_); rintro e w' ⟨rfl, ⟨nd, rfl⟩⟩))
   repeat (go_quiet (fail); try go_wp2_with fail)
   go_meet
   case rel => exact ⟨_, (true), (by rfl), H', ⟨by omega⟩, ⟨by (with_reducible repeat (refine blk_drewN ?_ _)); exact BK138.out⟩, ⟨by repeat ((with_reducible first | exact HB.out | apply pw_below_drewN))⟩⟩
 case rest =>
  clear HC2
  obtain ⟨kq, x22_1, rfl, HA, HJ1, BK138, HB⟩ := hcut
  cases kq with
  | zero => exact absurd HA.out (by simp [peristyleref25_table.j0])
  | succ kj1 =>
   have H := HA.out
   clear HA
   simp only [peristyleref25_table.j0] at H
   by_cases c11 : x22_1 = true
   ·
    subst c11
    have H1 : (some false) = some r := by rw [if_pos rfl] at H; exact H
    clear H
    have H := H1
    clear H1
    obtain rfl := Option.some.inj H
    go_wp2
    repeat (go_quiet (fail); try go_wp2)
    go_ret
    exact ⟨by rfl, by repeat exact HB.out⟩
   ·
    replace c11 := Bool.eq_false_iff.mpr c11
    subst c11
    have H1 : (peristyleref25_table.l0 kj1 false 0 a0_0 l0_1 l0_2) = some r := by rw [if_neg (show ¬ (false = true) by decide)] at H; exact H
    clear H
    have H := H1
    clear H1
    have H' := Aside0.mk H
    clear H
    go_wp2
    repeat (go_quiet (fail); try go_wp2)
    go_loopg [3, 4] kj1 (fun kq v3 v4 w' => ∃ (x3_2 : Bool) (x4_2 : Int), v3 = .bool x3_2 ∧ v4 = .int .i64 x4_2 ∧ Aside0 (peristyleref25_table.l0 kq x3_2 x4_2 a0_0 l0_1 l0_2 = some r) ∧ Aside0 (kq ≤ kj1) ∧ Aside0 (w'.heap[gb138]? = some (.cells #[.string a0_0, (.slice A0_1 l0_1.length c0_1), (.slice A0_2 l0_2.length c0_2)] 63 (0, 0))) ∧ Aside0 (Below w.heap.size w w'))
    case atStart => exact ⟨(false), (0), (by rfl), (by rfl), H', ⟨Nat.le_refl _⟩, ⟨BK138.out⟩, ⟨HB.out⟩⟩
    case round =>
     clear H'
     obtain ⟨x3_2, x4_2, rfl, rfl, HA, HK2, BK138, HB⟩ := hrel
     cases gk with
     | zero => exact absurd HA.out (by simp [peristyleref25_table.l0])
     | succ k2 =>
      have H := HA.out
      clear HA
      simp only [peristyleref25_table.l0] at H
      by_cases c12 : x4_2 < (l0_2.length : Int)
      ·
       rw [if_pos c12] at H
       have c12b0 : decide (x4_2 < (l0_2.length : Int)) = true := decide_eq_true c12
       clear c12
       by_cases c13 : 0 ≤ x4_2
       ·
        rw [if_pos c13] at H
        have c13b0 : decide (0 ≤ x4_2) = true := decide_eq_true c13
        clear c13
        replace H := Option.bind_eq_some_iff.mp H
        obtain ⟨t143, A140, H⟩ := H
        replace H : (if t143 = true then (if x3_2 = true then (peristyleref25_table.j2 k2 true x4_2 a0_0 l0_1 l0_2 ((rd_T138 l0_2 x4_2).f0) ((rd_T138 l0_2 x4_2).f1) ((rd_T138 l0_2 x4_2).f2)) else ((peristyleref25_Super.f k2 a0_0 l0_1 l0_2 ((rd_T138 l0_2 x4_2).f0) ((rd_T138 l0_2 x4_2).f1) ((rd_T138 l0_2 x4_2).f2)).bind fun t144 => (peristyleref25_table.j2 k2 t144 x4_2 a0_0 l0_1 l0_2 ((rd_T138 l0_2 x4_2).f0) ((rd_T138 l0_2 x4_2).f1) ((rd_T138 l0_2 x4_2).f2)))) else (some false)) = some r := H
        have A14 := Aside0.mk A140
        clear A140
        by_cases c15 : t143 = true
        ·
         subst c15
         have H1 : (if x3_2 = true then (peristyleref25_table.j2 k2 true x4_2 a0_0 l0_1 l0_2 ((rd_T138 l0_2 x4_2).f0) ((rd_T138 l0_2 x4_2).f1) ((rd_T138 l0_2 x4_2).f2)) else ((peristyleref25_Super.f k2 a0_0 l0_1 l0_2 ((rd_T138 l0_2 x4_2).f0) ((rd_T138 l0_2 x4_2).f1) ((rd_T138 l0_2 x4_2).f2)).bind fun t144 => (peristyleref25_table.j2 k2 t144 x4_2 a0_0 l0_1 l0_2 ((rd_T138 l0_2 x4_2).f0) ((rd_T138 l0_2 x4_2).f1) ((rd_T138 l0_2 x4_2).f2)))) = some r := by rw [if_pos rfl] at H; exact H
         clear H
         have H := H1
         clear H1
         have HC16 := Aside0.mk H
         clear H
         have hcz17_0 : wr.cell? ⟨gb138, 0, none⟩ = some (.string a0_0) := (blk_cell BK138.out 0).trans rfl
         have hcz17_1 : wr.cell? ⟨gb138, 1, none⟩ = some (.slice A0_1 l0_1.length c0_1) := (blk_cell BK138.out 1).trans rfl
         have hcz17_2 : wr.cell? ⟨gb138, 2, none⟩ = some (.slice A0_2 l0_2.length c0_2) := (blk_cell BK138.out 2).trans rfl
         have hfz17_0 := blk_frozen BK138.out 0
         have hfz17_1 := blk_frozen BK138.out 1
         have hfz17_2 := blk_frozen BK138.out 2
         have p141 : 0 ≤ (x4_2 : Int) := of_decide_eq_true (by (with_reducible assumption))
         have q141 : x4_2 < (l0_2.length : Int) := of_decide_eq_true (by (with_reducible assumption))
         obtain ⟨ad141, A141_1, c141_1, e141, hx141_0, hx141_1, hx141_2, hl141_1, hi141_1⟩ := at_T138 HR0_2.out x4_2 p141 q141
         cases e141
         replace hx141_0 := (HB.out.cell (World.block_lt_of_cell? w _ hx141_0)).trans hx141_0
         replace hx141_1 := (HB.out.cell (World.block_lt_of_cell? w _ hx141_1)).trans hx141_1
         replace hx141_2 := (HB.out.cell (World.block_lt_of_cell? w _ hx141_2)).trans hx141_2
         have HR141_1 := Aside0.mk hi141_1
         have HC141_1 := Aside0.mk hl141_1
         clear hi141_1 hl141_1
         replace p141 := eq_true p141
         replace q141 := eq_true q141
         go_upto_region 10 with (first | ((with_reducible refine gate_dst (N := 5) rfl ?_); (try (refine gate_guard (by rfl) ?_; dsimp only)); refine box_event ?hg (N := 5) ?hd (cs := #[.string (⟨#[]⟩ : ByteArray), .slice none 0 0, .int .i64 0]) (t := 138) ?hr ?_; (case hd => rfl); (case hg => rfl); (case hr => (go_simp; done)); intro gb142 hg w18 hbox hb; have n0_ := Aside0.mk (blk_below (g := gb138) (o := .cells #[.string a0_0, .slice A0_1 l0_1.length c0_1, .slice (some ad141) l0_2.length c0_2] 63 (0, 0)) BK138.out hb); have n1_ := Aside0.mk (below_step HB.out hb); have n2_ := Aside0.mk (hbox); have n3_ := Aside0.mk ((by rw [hg]; exact (below_size HB.out) : w.heap.size ≤ gb142)); have n4_ := Aside0.mk ((by rw [hg]; exact (below_size HB.out) : w.heap.size ≤ gb142)); have n5_ := Aside0.mk ((by rw [hg]; exact Nat.ne_of_lt (blk_lt (g := gb138) (o := .cells #[.string a0_0, .slice A0_1 l0_1.length c0_1, .slice (some ad141) l0_2.length c0_2] 63 (0, 0)) BK138.out) : gb138 ≠ gb142)); have n6_ := Aside0.mk ((by rw [hg]; exact Nat.ne_of_gt (blk_lt (g := gb138) (o := .cells #[.string a0_0, .slice A0_1 l0_1.length c0_1, .slice (some ad141) l0_2.length c0_2] 63 (0, 0)) BK138.out) : gb142 ≠ gb138)); clear BK138 HB; have BK138 := n0_; have HB := n1_; have BK142 := n2_; have GW142 := n3_; have GE142 := n4_; have NB138_142 := n5_; have NB142_138 := n6_; clear n0_ n1_ n2_ n3_ n4_ n5_ n6_ hb hbox hg; have hnb19 := NB142_138.out; have hnc19 := NB138_142.out; have hcz20_0 : w18.cell? ⟨gb142, 0, none⟩ = some (.string (⟨#[]⟩ : ByteArray)) := (blk_cell BK142.out 0).trans rfl; have hcz20_1 : w18.cell? ⟨gb142, 1, none⟩ = some (.slice none 0 0) := (blk_cell BK142.out 1).trans rfl; have hcz20_2 : w18.cell? ⟨gb142, 2, none⟩ = some (.int .i64 0) := (blk_cell BK142.out 2).trans rfl; have hfz20_0 := blk_frozen BK142.out 0; have hfz20_1 := blk_frozen BK142.out 1; have hfz20_2 := blk_frozen BK142.out 2; have hcz21_0 : w18.cell? ⟨gb138, 0, none⟩ = some (.string a0_0) := (blk_cell BK138.out 0).trans rfl; have hcz21_1 : w18.cell? ⟨gb138, 1, none⟩ = some (.slice A0_1 l0_1.length c0_1) := (blk_cell BK138.out 1).trans rfl; have hcz21_2 : w18.cell? ⟨gb138, 2, none⟩ = some (.slice (some ad141) l0_2.length c0_2) := (blk_cell BK138.out 2).trans rfl; have hfz21_0 := blk_frozen BK138.out 0; have hfz21_1 := blk_frozen BK138.out 1; have hfz21_2 := blk_frozen BK138.out 2) | (go_at_call 131; (with_reducible refine (peristyleref25_Projection.calls k2 ((rd_T138 l0_2 x4_2).f0) _ _ ((rd_T138 l0_2 x4_2).f1) ((rd_T138 l0_2 x4_2).f2) (l0_1.length : Int) true _ ?side1 ?side2 A14.out).mono ?_); (case side1 => exact Kd.C_below HR141_1.out (by repeat ((with_reducible first | exact HB.out | refine below_set ?_ GE142.out)))); (case side2 => exact HC141_1.out); rintro e w22 ⟨rfl, hb⟩; have n0_ := Aside0.mk (blk_below (g := gb138) (o := .cells #[.string a0_0, .slice A0_1 l0_1.length c0_1, .slice (some ad141) l0_2.length c0_2] 63 (0, 0)) (by refine blk_far ?_ NB138_142.out _; refine blk_far ?_ NB138_142.out _; refine blk_far ?_ NB138_142.out _; exact BK138.out) hb); have n1_ := Aside0.mk (blk_below (g := gb142) (o := .cells #[.string ((rd_T138 l0_2 x4_2).f0), .slice A141_1 ((rd_T138 l0_2 x4_2).f1).length c141_1, .int .i64 ((rd_T138 l0_2 x4_2).f2)] 138 (0, 0)) (by refine blk_put (cs := #[.string ((rd_T138 l0_2 x4_2).f0), .slice A141_1 ((rd_T138 l0_2 x4_2).f1).length c141_1, .int .i64 0]) ?_ 2 _ rfl; refine blk_put (cs := #[.string ((rd_T138 l0_2 x4_2).f0), .slice none 0 0, .int .i64 0]) ?_ 1 _ rfl; refine blk_put (cs := #[.string (⟨#[]⟩ : ByteArray), .slice none 0 0, .int .i64 0]) ?_ 0 _ rfl; exact BK142.out) hb); have n2_ := Aside0.mk (below_step (by repeat ((with_reducible first | exact HB.out | refine below_set ?_ GE142.out))) hb); clear BK138 BK142 HB; have BK138 := n0_; have BK142 := n1_; have HB := n2_; clear n0_ n1_ n2_; (try clear hb)))
         repeat (go_quiet (fail); go_upto_region 10 with fail)
         go_cut [3] (fun v3 wc => ∃ (kq : Nat) (x3_15 : Bool), v3 = .bool x3_15 ∧ Aside0 (peristyleref25_table.j2 kq x3_15 x4_2 a0_0 l0_1 l0_2 ((rd_T138 l0_2 x4_2).f0) ((rd_T138 l0_2 x4_2).f1) ((rd_T138 l0_2 x4_2).f2) = some r) ∧ Aside0 (kq ≤ k2) ∧ Aside0 (wc.heap[gb138]? = some (.cells #[.string a0_0, (.slice A0_1 l0_1.length c0_1), (.slice (some ad141) l0_2.length c0_2)] 63 (0, 0))) ∧ Aside0 (wc.heap[gb142]? = some (.cells #[.string ((rd_T138 l0_2 x4_2).f0), (.slice A141_1 ((rd_T138 l0_2 x4_2).f1).length c141_1), .int .i64 ((rd_T138 l0_2 x4_2).f2)] 138 (0, 0))) ∧ Aside0 (Below w.heap.size w wc))
         case first =>
          have H := HC16.out
          clear HC16
          by_cases c23 : x3_2 = true
          ·
           subst c23
           have H1 : (peristyleref25_table.j2 k2 true x4_2 a0_0 l0_1 l0_2 ((rd_T138 l0_2 x4_2).f0) ((rd_T138 l0_2 x4_2).f1) ((rd_T138 l0_2 x4_2).f2)) = some r := by rw [if_pos rfl] at H; exact H
           clear H
           have H := H1
           clear H1
           have H' := Aside0.mk H
           clear H
           go_wp2
           repeat (go_quiet (fail); try go_wp2)
           go_meet
           case rel => exact ⟨_, (true), (by rfl), H', ⟨by have := HJ1.out; have := HK2.out; omega⟩, ⟨BK138.out⟩, ⟨BK142.out⟩, ⟨HB.out⟩⟩
          ·
           replace c23 := Bool.eq_false_iff.mpr c23
           subst c23
           have H1 : ((peristyleref25_Super.f k2 a0_0 l0_1 l0_2 ((rd_T138 l0_2 x4_2).f0) ((rd_T138 l0_2 x4_2).f1) ((rd_T138 l0_2 x4_2).f2)).bind fun t144 => (peristyleref25_table.j2 k2 t144 x4_2 a0_0 l0_1 l0_2 ((rd_T138 l0_2 x4_2).f0) ((rd_T138 l0_2 x4_2).f1) ((rd_T138 l0_2 x4_2).f2))) = some r := by rw [if_neg (show ¬ (false = true) by decide)] at H; exact H
           clear H
           have H := H1
           clear H1
           replace H := Option.bind_eq_some_iff.mp H
           obtain ⟨t144, A240, H⟩ := H
           replace H : (peristyleref25_table.j2 k2 t144 x4_2 a0_0 l0_1 l0_2 ((rd_T138 l0_2 x4_2).f0) ((rd_T138 l0_2 x4_2).f1) ((rd_T138 l0_2 x4_2).f2)) = some r := H
           have A24 := Aside0.mk A240
           clear A240
           have H' := Aside0.mk H
           clear H
           have hnb25 := NB138_142.out
           have hnc25 := NB142_138.out
           have hcz26_0 : w22.cell? ⟨gb138, 0, none⟩ = some (.string a0_0) := (blk_cell BK138.out 0).trans rfl
           have hcz26_1 : w22.cell? ⟨gb138, 1, none⟩ = some (.slice A0_1 l0_1.length c0_1) := (blk_cell BK138.out 1).trans rfl
           have hcz26_2 : w22.cell? ⟨gb138, 2, none⟩ = some (.slice (some ad141) l0_2.length c0_2) := (blk_cell BK138.out 2).trans rfl
           have hfz26_0 := blk_frozen BK138.out 0
           have hfz26_1 := blk_frozen BK138.out 1
           have hfz26_2 := blk_frozen BK138.out 2
           have hcz27_0 : w22.cell? ⟨gb142, 0, none⟩ = some (.string ((rd_T138 l0_2 x4_2).f0)) := (blk_cell BK142.out 0).trans rfl
           have hcz27_1 : w22.cell? ⟨gb142, 1, none⟩ = some (.slice A141_1 ((rd_T138 l0_2 x4_2).f1).length c141_1) := (blk_cell BK142.out 1).trans rfl
           have hcz27_2 : w22.cell? ⟨gb142, 2, none⟩ = some (.int .i64 ((rd_T138 l0_2 x4_2).f2)) := (blk_cell BK142.out 2).trans rfl
           have hfz27_0 := blk_frozen BK142.out 0
           have hfz27_1 := blk_frozen BK142.out 1
           have hfz27_2 := blk_frozen BK142.out 2
           go_wp2_with ((go_at_call 132; (with_reducible refine (peristyleref25_Super.calls k2 a0_0 _ _ l0_1 _ _ l0_2 ((rd_T138 l0_2 x4_2).f0) _ _ ((rd_T138 l0_2 x4_2).f1) ((rd_T138 l0_2 x4_2).f2) t144 _ ?side1 ?side2 ?side3 ?side4 ?side5 ?side6 A24.out).mono ?_); (case side1 => repeat (exact (Kd.C_below HR0_1.out HB.out))); (case side2 => exact HC0_1.out); (case side3 => repeat (exact (Kd.C_below HR0_2.out HB.out))); (case side4 => exact HC0_2.out); (case side5 => repeat (exact (Kd.C_below HR141_1.out HB.out))); (case side6 => exact HC141_1.out); rintro e w28 ⟨rfl, hb⟩; have n0_ := Aside0.mk (blk_below (g := gb138) (o := .cells #[.string a0_0, .slice A0_1 l0_1.length c0_1, .slice (some ad141) l0_2.length c0_2] 63 (0, 0)) BK138.out hb); have n1_ := Aside0.mk (blk_below (g := gb142) (o := .cells #[.string ((rd_T138 l0_2 x4_2).f0), .slice A141_1 ((rd_T138 l0_2 x4_2).f1).length c141_1, .int .i64 ((rd_T138 l0_2 x4_2).f2)] 138 (0, 0)) BK142.out hb); have n2_ := Aside0.mk (below_step HB.out hb); clear BK138 BK142 HB; have BK138 := n0_; have BK142 := n1_; have HB := n2_; clear n0_ n1_ n2_; (try clear hb)))
           repeat (go_quiet (fail); try go_wp2_with fail)
           go_meet
           case rel => exact ⟨_, (t144), (by rfl), H', ⟨by have := HJ1.out; have := HK2.out; omega⟩, ⟨BK138.out⟩, ⟨BK142.out⟩, ⟨HB.out⟩⟩
         case rest =>
          clear HC16
          try clear c12b0
          try clear c13b0
          try clear hcz17_0
          try clear hcz17_1
          try clear hcz17_2
          try clear hcz20_0
          try clear hcz20_1
          try clear hcz20_2
          try clear hcz21_0
          try clear hcz21_1
          try clear hcz21_2
          try clear hfz17_0
          try clear hfz17_1
          try clear hfz17_2
          try clear hfz20_0
          try clear hfz20_1
          try clear hfz20_2
          try clear hfz21_0
          try clear hfz21_1
          try clear hfz21_2
          try clear hx141_0
          try clear hx141_1
          try clear hx141_2
          try clear p141
          try clear q141
          obtain ⟨kq, x3_15, rfl, HA, HJ15, BK138, BK142, HB⟩ := hcut
          cases kq with
          | zero => exact absurd HA.out (by simp [peristyleref25_table.j2])
          | succ kj15 =>
           have H := HA.out
           clear HA
           simp only [peristyleref25_table.j2] at H
           have H' := Aside0.mk H
           clear H
           go_wp2
           repeat (go_quiet (fail); try go_wp2)
           go_loopg [6] kj15 (fun kq v6 w' => ∃ (x6_4 : Int), v6 = .int .i64 x6_4 ∧ Aside0 (peristyleref25_table.l1 kq x3_15 x4_2 x6_4 a0_0 l0_1 l0_2 ((rd_T138 l0_2 x4_2).f0) ((rd_T138 l0_2 x4_2).f1) ((rd_T138 l0_2 x4_2).f2) = some r) ∧ Aside0 (kq ≤ kj15) ∧ Aside0 (w'.heap[gb138]? = some (.cells #[.string a0_0, (.slice A0_1 l0_1.length c0_1), (.slice (some ad141) l0_2.length c0_2)] 63 (0, 0))) ∧ Aside0 (w'.heap[gb142]? = some (.cells #[.string ((rd_T138 l0_2 x4_2).f0), (.slice A141_1 ((rd_T138 l0_2 x4_2).f1).length c141_1), .int .i64 ((rd_T138 l0_2 x4_2).f2)] 138 (0, 0))) ∧ Aside0 (Below w.heap.size w w'))
           case atStart => exact ⟨(0), (by rfl), H', ⟨Nat.le_refl _⟩, ⟨BK138.out⟩, ⟨BK142.out⟩, ⟨HB.out⟩⟩
           case round =>
            clear H'
            obtain ⟨x6_4, rfl, HA, HK4, BK138, BK142, HB⟩ := hrel
            cases gk with
            | zero => exact absurd HA.out (by simp [peristyleref25_table.l1])
            | succ k4 =>
             have H := HA.out
             clear HA
             simp only [peristyleref25_table.l1] at H
             by_cases c29 : x6_4 < x4_2
             ·
              rw [if_pos c29] at H
              have c29b0 : decide (x6_4 < x4_2) = true := decide_eq_true c29
              clear c29
              by_cases c30 : 0 ≤ x6_4
              ·
               rw [if_pos c30] at H
               have c30b0 : decide (0 ≤ x6_4) = true := decide_eq_true c30
               clear c30
               by_cases c31 : x6_4 < (l0_2.length : Int)
               ·
                rw [if_pos c31] at H
                have c31b0 : decide (x6_4 < (l0_2.length : Int)) = true := decide_eq_true c31
                clear c31
                by_cases c32 : ((rd_T138 l0_2 x6_4).f0).toList = ((rd_T138 l0_2 x4_2).f0).toList
                ·
                 rw [if_pos c32] at H
                 have c32b0 : (((rd_T138 l0_2 x6_4).f0).toList == ((rd_T138 l0_2 x4_2).f0).toList) = true := beq_iff_eq.mpr c32
                 have c32b1 : (((rd_T138 l0_2 x6_4).f0).toList != ((rd_T138 l0_2 x4_2).f0).toList) = false := bne_eq_false_iff_eq.mpr c32
                 clear c32
                 obtain rfl := Option.some.inj H
                 have hnb33 := NB138_142.out
                 have hnc33 := NB142_138.out
                 have hcz34_0 : wr.cell? ⟨gb138, 0, none⟩ = some (.string a0_0) := (blk_cell BK138.out 0).trans rfl
                 have hcz34_1 : wr.cell? ⟨gb138, 1, none⟩ = some (.slice A0_1 l0_1.length c0_1) := (blk_cell BK138.out 1).trans rfl
                 have hcz34_2 : wr.cell? ⟨gb138, 2, none⟩ = some (.slice (some ad141) l0_2.length c0_2) := (blk_cell BK138.out 2).trans rfl
                 have hfz34_0 := blk_frozen BK138.out 0
                 have hfz34_1 := blk_frozen BK138.out 1
                 have hfz34_2 := blk_frozen BK138.out 2
                 have p145 : 0 ≤ (x6_4 : Int) := of_decide_eq_true (by (with_reducible assumption))
                 have q145 : x6_4 < (l0_2.length : Int) := of_decide_eq_true (by (with_reducible assumption))
                 obtain ⟨ad145, A145_1, c145_1, e145, hx145_0, hx145_1, hx145_2, hl145_1, hi145_1⟩ := at_T138 HR0_2.out x6_4 p145 q145
                 obtain rfl : ad141 = ad145 := (by injection e145)
                 replace hx145_0 := (HB.out.cell (World.block_lt_of_cell? w _ hx145_0)).trans hx145_0
                 replace hx145_1 := (HB.out.cell (World.block_lt_of_cell? w _ hx145_1)).trans hx145_1
                 replace hx145_2 := (HB.out.cell (World.block_lt_of_cell? w _ hx145_2)).trans hx145_2
                 have HR145_1 := Aside0.mk hi145_1
                 have HC145_1 := Aside0.mk hl145_1
                 clear hi145_1 hl145_1
                 replace p145 := eq_true p145
                 replace q145 := eq_true q145
                 have hcz35_0 : wr.cell? ⟨gb142, 0, none⟩ = some (.string ((rd_T138 l0_2 x4_2).f0)) := (blk_cell BK142.out 0).trans rfl
                 have hcz35_1 : wr.cell? ⟨gb142, 1, none⟩ = some (.slice A141_1 ((rd_T138 l0_2 x4_2).f1).length c141_1) := (blk_cell BK142.out 1).trans rfl
                 have hcz35_2 : wr.cell? ⟨gb142, 2, none⟩ = some (.int .i64 ((rd_T138 l0_2 x4_2).f2)) := (blk_cell BK142.out 2).trans rfl
                 have hfz35_0 := blk_frozen BK142.out 0
                 have hfz35_1 := blk_frozen BK142.out 1
                 have hfz35_2 := blk_frozen BK142.out 2
                 go_wp2
                 repeat (go_quiet (fail); try go_wp2)
                 go_ret
                 exact ⟨by rfl, by repeat ((with_reducible first | exact HB.out | apply pw_below_drewN))⟩
                ·
                 rw [if_neg c32] at H
                 have c32b0 : (((rd_T138 l0_2 x6_4).f0).toList == ((rd_T138 l0_2 x4_2).f0).toList) = false := beq_eq_false_iff_ne.mpr c32
                 have c32b1 : (((rd_T138 l0_2 x6_4).f0).toList != ((rd_T138 l0_2 x4_2).f0).toList) = true := bne_iff_ne.mpr c32
                 have H' := Aside0.mk H
                 clear H
                 have hnb36 := NB138_142.out
                 have hnc36 := NB142_138.out
                 have hcz37_0 : wr.cell? ⟨gb138, 0, none⟩ = some (.string a0_0) := (blk_cell BK138.out 0).trans rfl
                 have hcz37_1 : wr.cell? ⟨gb138, 1, none⟩ = some (.slice A0_1 l0_1.length c0_1) := (blk_cell BK138.out 1).trans rfl
                 have hcz37_2 : wr.cell? ⟨gb138, 2, none⟩ = some (.slice (some ad141) l0_2.length c0_2) := (blk_cell BK138.out 2).trans rfl
                 have hfz37_0 := blk_frozen BK138.out 0
                 have hfz37_1 := blk_frozen BK138.out 1
                 have hfz37_2 := blk_frozen BK138.out 2
                 have p145 : 0 ≤ (x6_4 : Int) := of_decide_eq_true (by (with_reducible assumption))
                 have q145 : x6_4 < (l0_2.length : Int) := of_decide_eq_true (by (with_reducible assumption))
                 obtain ⟨ad145, A145_1, c145_1, e145, hx145_0, hx145_1, hx145_2, hl145_1, hi145_1⟩ := at_T138 HR0_2.out x6_4 p145 q145
                 obtain rfl : ad141 = ad145 := (by injection e145)
                 replace hx145_0 := (HB.out.cell (World.block_lt_of_cell? w _ hx145_0)).trans hx145_0
                 replace hx145_1 := (HB.out.cell (World.block_lt_of_cell? w _ hx145_1)).trans hx145_1
                 replace hx145_2 := (HB.out.cell (World.block_lt_of_cell? w _ hx145_2)).trans hx145_2
                 have HR145_1 := Aside0.mk hi145_1
                 have HC145_1 := Aside0.mk hl145_1
                 clear hi145_1 hl145_1
                 replace p145 := eq_true p145
                 replace q145 := eq_true q145
                 have hcz38_0 : wr.cell? ⟨gb142, 0, none⟩ = some (.string ((rd_T138 l0_2 x4_2).f0)) := (blk_cell BK142.out 0).trans rfl
                 have hcz38_1 : wr.cell? ⟨gb142, 1, none⟩ = some (.slice A141_1 ((rd_T138 l0_2 x4_2).f1).length c141_1) := (blk_cell BK142.out 1).trans rfl
                 have hcz38_2 : wr.cell? ⟨gb142, 2, none⟩ = some (.int .i64 ((rd_T138 l0_2 x4_2).f2)) := (blk_cell BK142.out 2).trans rfl
                 have hfz38_0 := blk_frozen BK142.out 0
                 have hfz38_1 := blk_frozen BK142.out 1
                 have hfz38_2 := blk_frozen BK142.out 2
                 go_wp2
                 repeat (go_quiet (fail); try go_wp2)
                 go_roundg k4
                 case measure => have := HJ1.out; have := HK2.out; have := HJ15.out; have := HK4.out; omega
                 case rel => exact ⟨(wrap64 (x6_4 + 1)), (by rfl), H', ⟨by have := HJ1.out; have := HK2.out; have := HJ15.out; have := HK4.out; omega⟩, ⟨by (with_reducible repeat (refine blk_drewN ?_ _)); exact BK138.out⟩, ⟨by (with_reducible repeat (refine blk_drewN ?_ _)); exact BK142.out⟩, ⟨by repeat ((with_reducible first | exact HB.out | apply pw_below_drewN))⟩⟩
               ·
                rw [if_neg c31] at H
                exact absurd H (by simp)
              ·
               rw [if_neg c30] at H
               exact absurd H (by simp)
             ·
              rw [if_neg c29] at H
              have c29b0 : decide (x6_4 < x4_2) = false := decide_eq_false c29
              clear c29
              have H' := Aside0.mk H
              clear H
              go_wp2
              repeat (go_quiet (fail); try go_wp2)
              go_roundg k4
              case measure => have := HJ1.out; have := HK2.out; have := HJ15.out; have := HK4.out; omega
              case rel => exact ⟨(x3_15), (wrap64 (x4_2 + 1)), (by rfl), (by rfl), H', ⟨by have := HJ1.out; have := HK2.out; have := HJ15.out; have := HK4.out; omega⟩, ⟨BK138.out⟩, ⟨HB.out⟩⟩
        ·
         replace c15 := Bool.eq_false_iff.mpr c15
         subst c15
         have H1 : (some false) = some r := by rw [if_neg (show ¬ (false = true) by decide)] at H; exact H
         clear H
         have H := H1
         clear H1
         obtain rfl := Option.some.inj H
         have hcz39_0 : wr.cell? ⟨gb138, 0, none⟩ = some (.string a0_0) := (blk_cell BK138.out 0).trans rfl
         have hcz39_1 : wr.cell? ⟨gb138, 1, none⟩ = some (.slice A0_1 l0_1.length c0_1) := (blk_cell BK138.out 1).trans rfl
         have hcz39_2 : wr.cell? ⟨gb138, 2, none⟩ = some (.slice A0_2 l0_2.length c0_2) := (blk_cell BK138.out 2).trans rfl
         have hfz39_0 := blk_frozen BK138.out 0
         have hfz39_1 := blk_frozen BK138.out 1
         have hfz39_2 := blk_frozen BK138.out 2
         have p141 : 0 ≤ (x4_2 : Int) := of_decide_eq_true (by (with_reducible assumption))
         have q141 : x4_2 < (l0_2.length : Int) := of_decide_eq_true (by (with_reducible assumption))
         obtain ⟨ad141, A141_1, c141_1, e141, hx141_0, hx141_1, hx141_2, hl141_1, hi141_1⟩ := at_T138 HR0_2.out x4_2 p141 q141
         cases e141
         replace hx141_0 := (HB.out.cell (World.block_lt_of_cell? w _ hx141_0)).trans hx141_0
         replace hx141_1 := (HB.out.cell (World.block_lt_of_cell? w _ hx141_1)).trans hx141_1
         replace hx141_2 := (HB.out.cell (World.block_lt_of_cell? w _ hx141_2)).trans hx141_2
         have HR141_1 := Aside0.mk hi141_1
         have HC141_1 := Aside0.mk hl141_1
         clear hi141_1 hl141_1
         replace p141 := eq_true p141
         replace q141 := eq_true q141
         go_wp2_with (first | ((with_reducible refine gate_dst (N := 5) rfl ?_); (try (refine gate_guard (by rfl) ?_; dsimp only)); refine box_event ?hg (N := 5) ?hd (cs := #[.string (⟨#[]⟩ : ByteArray), .slice none 0 0, .int .i64 0]) (t := 138) ?hr ?_; (case hd => rfl); (case hg => rfl); (case hr => (go_simp; done)); intro gb142 hg w40 hbox hb; have n0_ := Aside0.mk (blk_below (g := gb138) (o := .cells #[.string a0_0, .slice A0_1 l0_1.length c0_1, .slice (some ad141) l0_2.length c0_2] 63 (0, 0)) BK138.out hb); have n1_ := Aside0.mk (below_step HB.out hb); have n2_ := Aside0.mk (hbox); have n3_ := Aside0.mk ((by rw [hg]; exact (below_size HB.out) : w.heap.size ≤ gb142)); have n4_ := Aside0.mk ((by rw [hg]; exact (below_size HB.out) : w.heap.size ≤ gb142)); have n5_ := Aside0.mk ((by rw [hg]; exact Nat.ne_of_lt (blk_lt (g := gb138) (o := .cells #[.string a0_0, .slice A0_1 l0_1.length c0_1, .slice (some ad141) l0_2.length c0_2] 63 (0, 0)) BK138.out) : gb138 ≠ gb142)); have n6_ := Aside0.mk ((by rw [hg]; exact Nat.ne_of_gt (blk_lt (g := gb138) (o := .cells #[.string a0_0, .slice A0_1 l0_1.length c0_1, .slice (some ad141) l0_2.length c0_2] 63 (0, 0)) BK138.out) : gb142 ≠ gb138)); clear BK138 HB; have BK138 := n0_; have HB := n1_; have BK142 := n2_; have GW142 := n3_; have GE142 := n4_; have NB138_142 := n5_; have NB142_138 := n6_; clear n0_ n1_ n2_ n3_ n4_ n5_ n6_ hb hbox hg; have hnb41 := NB142_138.out; have hnc41 := NB138_142.out; have hcz42_0 : w40.cell? ⟨gb142, 0, none⟩ = some (.string (⟨#[]⟩ : ByteArray)) := (blk_cell BK142.out 0).trans rfl; have hcz42_1 : w40.cell? ⟨gb142, 1, none⟩ = some (.slice none 0 0) := (blk_cell BK142.out 1).trans rfl; have hcz42_2 : w40.cell? ⟨gb142, 2, none⟩ = some (.int .i64 0) := (blk_cell BK142.out 2).trans rfl; have hfz42_0 := blk_frozen BK142.out 0; have hfz42_1 := blk_frozen BK142.out 1; have hfz42_2 := blk_frozen BK142.out 2; have hcz43_0 : w40.cell? ⟨gb138, 0, none⟩ = some (.string a0_0) := (blk_cell BK138.out 0).trans rfl; have hcz43_1 : w40.cell? ⟨gb138, 1, none⟩ = some (.slice A0_1 l0_1.length c0_1) := (blk_cell BK138.out 1).trans rfl; have hcz43_2 : w40.cell? ⟨gb138, 2, none⟩ = some (.slice (some ad141) l0_2.length c0_2) := (blk_cell BK138.out 2).trans rfl; have hfz43_0 := blk_frozen BK138.out 0; have hfz43_1 := blk_frozen BK138.out 1; have hfz43_2 := blk_frozen BK138.out 2) | (go_at_call 131; (with_reducible refine (peristyleref25_Projection.calls k2 ((rd_T138 l0_2 x4_2).f0) _ _ ((rd_T138 l0_2 x4_2).f1) ((rd_T138 l0_2 x4_2).f2) (l0_1.length : Int) false _ ?side1 ?side2 A14.out).mono ?_); (case side1 => exact Kd.C_below HR141_1.out (by repeat ((with_reducible first | exact HB.out | refine below_set ?_ GE142.out)))); (case side2 => exact HC141_1.out); rintro e w44 ⟨rfl, hb⟩; have n0_ := Aside0.mk (blk_below (g := gb138) (o := .cells #[.string a0_0, .slice A0_1 l0_1.length c0_1, .slice (some ad141) l0_2.length c0_2] 63 (0, 0)) (by refine blk_far ?_ NB138_142.out _; refine blk_far ?_ NB138_142.out _; refine blk_far ?_ NB138_142.out _; exact BK138.out) hb); have n1_ := Aside0.mk (blk_below (g := gb142) (o := .cells #[.string ((rd_T138 l0_2 x4_2).f0), .slice A141_1 ((rd_T138 l0_2 x4_2).f1).length c141_1, .int .i64 ((rd_T138 l0_2 x4_2).f2)] 138 (0, 0)) (by refine blk_put (cs := #[.string ((rd_T138 l0_2 x4_2).f0), .slice A141_1 ((rd_T138 l0_2 x4_2).f1).length c141_1, .int .i64 0]) ?_ 2 _ rfl; refine blk_put (cs := #[.string ((rd_T138 l0_2 x4_2).f0), .slice none 0 0, .int .i64 0]) ?_ 1 _ rfl; refine blk_put (cs := #[.string (⟨#[]⟩ : ByteArray), .slice none 0 0, .int .i64 0]) ?_ 0 _ rfl; exact BK142.out) hb); have n2_ := Aside0.mk (below_step (by repeat ((with_reducible first | exact HB.out | refine below_set ?_ GE142.out))) hb); clear BK138 BK142 HB; have BK138 := n0_; have BK142 := n1_; have HB := n2_; clear n0_ n1_ n2_; (try clear hb)))
         repeat (go_quiet (fail); try go_wp2_with fail)
         go_ret
         exact ⟨by rfl, by repeat exact HB.out⟩
       ·
        rw [if_neg c13] at H
        exact absurd H (by simp)
      ·
       rw [if_neg c12] at H
       have c12b0 : decide (x4_2 < (l0_2.length : Int)) = false := decide_eq_false c12
       clear c12
       obtain rfl := Option.some.inj H
       have hcz45_0 : wr.cell? ⟨gb138, 0, none⟩ = some (.string a0_0) := (blk_cell BK138.out 0).trans rfl
       have hcz45_1 : wr.cell? ⟨gb138, 1, none⟩ = some (.slice A0_1 l0_1.length c0_1) := (blk_cell BK138.out 1).trans rfl
       have hcz45_2 : wr.cell? ⟨gb138, 2, none⟩ = some (.slice A0_2 l0_2.length c0_2) := (blk_cell BK138.out 2).trans rfl
       have hfz45_0 := blk_frozen BK138.out 0
       have hfz45_1 := blk_frozen BK138.out 1
       have hfz45_2 := blk_frozen BK138.out 2
       go_wp2
       repeat (go_quiet (fail); try go_wp2)
       go_ret
       exact ⟨by rfl, by repeat exact HB.out⟩

/-! ### peristyleref25_May: function 35 -/
mutual
def peristyleref25_May.l0 : Nat → List (S63) → Int → Option (Bool)
 | 0, _, _ => none
 | k + 1, x0, x3 => if x3 < (x0.length : Int) then (if 0 ≤ x3 then ((peristyleref25_table.f k ((rd_T63 x0 x3).f0) ((rd_T63 x0 x3).f1) ((rd_T63 x0 x3).f2)).bind fun t147 => (if t147 = true then (peristyleref25_May.l1 k x0 x3 0) else (some false))) else (none)) else (some (decide ((x0.length : Int) ≤ 8)))
def peristyleref25_May.l1 : Nat → List (S63) → Int → Int → Option (Bool)
 | 0, _, _, _ => none
 | k + 1, x0, x3, x4 => if x4 < x3 then (if 0 ≤ x4 then (if x4 < (x0.length : Int) then (if 0 ≤ x3 then (if x3 < (x0.length : Int) then (if ((rd_T63 x0 x4).f0).toList = ((rd_T63 x0 x3).f0).toList then (some false) else (peristyleref25_May.l1 k x0 x3 (wrap64 (x4 + 1)))) else (none)) else (none)) else (none)) else (none)) else (peristyleref25_May.l0 k x0 (wrap64 (x3 + 1)))
end
def peristyleref25_May.f (k : Nat) (l0 : List (S63)) : Option (Bool) := peristyleref25_May.l0 k l0 0
theorem peristyleref25_May.mono_l : ∀ k, (∀ y0 y1, LeO (peristyleref25_May.l0 k y0 y1) (peristyleref25_May.l0 (k + 1) y0 y1)) ∧ (∀ y0 y1 y2, LeO (peristyleref25_May.l1 k y0 y1 y2) (peristyleref25_May.l1 (k + 1) y0 y1 y2))
 | 0 => ⟨fun _ _ r h => by simp [peristyleref25_May.l0] at h, fun _ _ _ r h => by simp [peristyleref25_May.l1] at h⟩
 | k + 1 => by
  obtain ⟨ih0, ih1⟩ := peristyleref25_May.mono_l k
  refine ⟨?_, ?_⟩
  ·
   intro y0 y1
   unfold peristyleref25_May.l0
   repeat' first
   | (with_reducible exact ih0 _ _)
   | (with_reducible exact ih1 _ _ _)
   | (with_reducible exact peristyleref25_table.mono _ _ _ _)
   | (with_reducible exact LeO.refl _)
   | (with_reducible exact LeO.none _)
   | (with_reducible refine LeO.ite ?_ ?_)
   | (with_reducible refine LeO.bind ?_ (fun _ => ?_))
   | exact ih0 _ _
   | exact ih1 _ _ _
   | exact peristyleref25_table.mono _ _ _ _
   | exact LeO.none _
   | refine LeO.ite ?_ ?_
   | refine LeO.bind ?_ (fun _ => ?_)
  ·
   intro y0 y1 y2
   unfold peristyleref25_May.l1
   repeat' first
   | (with_reducible exact ih0 _ _)
   | (with_reducible exact ih1 _ _ _)
   | (with_reducible exact peristyleref25_table.mono _ _ _ _)
   | (with_reducible exact LeO.refl _)
   | (with_reducible exact LeO.none _)
   | (with_reducible refine LeO.ite ?_ ?_)
   | (with_reducible refine LeO.bind ?_ (fun _ => ?_))
   | exact ih0 _ _
   | exact ih1 _ _ _
   | exact peristyleref25_table.mono _ _ _ _
   | exact LeO.none _
   | refine LeO.ite ?_ ?_
   | refine LeO.bind ?_ (fun _ => ?_)
theorem peristyleref25_May.mono : ∀ a0 k, LeO (peristyleref25_May.f k a0) (peristyleref25_May.f (k + 1) a0) := by
 intro a0 k
 obtain ⟨ih0, ih1⟩ := peristyleref25_May.mono_l k
 unfold peristyleref25_May.f
 repeat' first
   | (with_reducible exact ih0 _ _)
   | (with_reducible exact ih1 _ _ _)
   | (with_reducible exact peristyleref25_table.mono _ _ _ _)
   | (with_reducible exact LeO.refl _)
   | (with_reducible exact LeO.none _)
   | (with_reducible refine LeO.ite ?_ ?_)
   | (with_reducible refine LeO.bind ?_ (fun _ => ?_))
   | exact ih0 _ _
   | exact ih1 _ _ _
   | exact peristyleref25_table.mono _ _ _ _
   | exact LeO.none _
   | refine LeO.ite ?_ ?_
   | refine LeO.bind ?_ (fun _ => ?_)
set_option maxHeartbeats 8000000 in
set_option maxRecDepth 100000 in
theorem peristyleref25_May.calls (k : Nat) (A0 : Option Addr) (c0 : Nat) (l0 : List (S63)) (r : Bool) (w : World) (hr0 : Kd.C k63 w A0 l0.length l0) (hc0 : l0.length ≤ c0) (h : peristyleref25_May.f k l0 = some r) :
  Calls Try.prog 35 #[.slice A0 l0.length c0] w fun e w' => e = .returned (.bool r) ∧ Below w.heap.size w w' := by
 have hu63 := Try.underlying63
 have HR0 := Aside0.mk hr0
 have HC0 := Aside0.mk hc0
 clear hr0 hc0
 have HB := Aside0.mk (Below.refl w.heap.size w)
 have H : (peristyleref25_May.l0 k l0 0) = some r := h
 clear h
 have H' := Aside0.mk H
 clear H
 go_enter Try.func35, Try.ntmps35
 go_wp2
 repeat (go_quiet (fail); try go_wp2)
 go_loopg [3] k (fun kq v3 w' => ∃ (x3_1 : Int), v3 = .int .i64 x3_1 ∧ Aside0 (peristyleref25_May.l0 kq l0 x3_1 = some r) ∧ Aside0 (kq ≤ k) ∧ Aside0 (Below w.heap.size w w'))
 case atStart => exact ⟨(0), (by rfl), H', ⟨Nat.le_refl _⟩, ⟨HB.out⟩⟩
 case round =>
  clear H'
  obtain ⟨x3_1, rfl, HA, HK1, HB⟩ := hrel
  cases gk with
  | zero => exact absurd HA.out (by simp [peristyleref25_May.l0])
  | succ k1 =>
   have H := HA.out
   clear HA
   simp only [peristyleref25_May.l0] at H
   by_cases c2 : x3_1 < (l0.length : Int)
   ·
    rw [if_pos c2] at H
    have c2b0 : decide (x3_1 < (l0.length : Int)) = true := decide_eq_true c2
    clear c2
    by_cases c3 : 0 ≤ x3_1
    ·
     rw [if_pos c3] at H
     have c3b0 : decide (0 ≤ x3_1) = true := decide_eq_true c3
     clear c3
     replace H := Option.bind_eq_some_iff.mp H
     obtain ⟨t147, A40, H⟩ := H
     replace H : (if t147 = true then (peristyleref25_May.l1 k1 l0 x3_1 0) else (some false)) = some r := H
     have A4 := Aside0.mk A40
     clear A40
     by_cases c5 : t147 = true
     ·
      subst c5
      have H1 : (peristyleref25_May.l1 k1 l0 x3_1 0) = some r := by rw [if_pos rfl] at H; exact H
      clear H
      have H := H1
      clear H1
      have H' := Aside0.mk H
      clear H
      have p146 : 0 ≤ (x3_1 : Int) := of_decide_eq_true (by (with_reducible assumption))
      have q146 : x3_1 < (l0.length : Int) := of_decide_eq_true (by (with_reducible assumption))
      obtain ⟨ad146, A146_1, c146_1, A146_2, c146_2, e146, hx146_0, hx146_1, hx146_2, hl146_1, hi146_1, hl146_2, hi146_2⟩ := at_T63 HR0.out x3_1 p146 q146
      cases e146
      replace hx146_0 := (HB.out.cell (World.block_lt_of_cell? w _ hx146_0)).trans hx146_0
      replace hx146_1 := (HB.out.cell (World.block_lt_of_cell? w _ hx146_1)).trans hx146_1
      replace hx146_2 := (HB.out.cell (World.block_lt_of_cell? w _ hx146_2)).trans hx146_2
      have HR146_1 := Aside0.mk hi146_1
      have HC146_1 := Aside0.mk hl146_1
      clear hi146_1 hl146_1
      have HR146_2 := Aside0.mk hi146_2
      have HC146_2 := Aside0.mk hl146_2
      clear hi146_2 hl146_2
      replace p146 := eq_true p146
      replace q146 := eq_true q146
      go_wp2_with ((go_at_call 86; (with_reducible refine (peristyleref25_table.calls k1 ((rd_T63 l0 x3_1).f0) _ _ ((rd_T63 l0 x3_1).f1) _ _ ((rd_T63 l0 x3_1).f2) true _ ?side1 ?side2 ?side3 ?side4 A4.out).mono ?_); (case side1 => repeat (exact (Kd.C_below HR146_1.out HB.out))); (case side2 => exact HC146_1.out); (case side3 => repeat (exact (Kd.C_below HR146_2.out HB.out))); (case side4 => exact HC146_2.out); rintro e w6 ⟨rfl, hb⟩; have n0_ := Aside0.mk (below_step HB.out hb); clear HB; have HB := n0_; clear n0_; (try clear hb)))
      repeat (go_quiet (fail); try go_wp2_with fail)
      go_loopg [4] k1 (fun kq v4 w' => ∃ (x4_2 : Int), v4 = .int .i64 x4_2 ∧ Aside0 (peristyleref25_May.l1 kq l0 x3_1 x4_2 = some r) ∧ Aside0 (kq ≤ k1) ∧ Aside0 (Below w.heap.size w w'))
      case atStart => exact ⟨(0), (by rfl), H', ⟨Nat.le_refl _⟩, ⟨HB.out⟩⟩
      case round =>
       clear H'
       try clear c2b0
       try clear c3b0
       try clear hx146_0
       try clear hx146_1
       try clear hx146_2
       try clear p146
       try clear q146
       obtain ⟨x4_2, rfl, HA, HK2, HB⟩ := hrel
       cases gk with
       | zero => exact absurd HA.out (by simp [peristyleref25_May.l1])
       | succ k2 =>
        have H := HA.out
        clear HA
        simp only [peristyleref25_May.l1] at H
        by_cases c7 : x4_2 < x3_1
        ·
         rw [if_pos c7] at H
         have c7b0 : decide (x4_2 < x3_1) = true := decide_eq_true c7
         clear c7
         by_cases c8 : 0 ≤ x4_2
         ·
          rw [if_pos c8] at H
          have c8b0 : decide (0 ≤ x4_2) = true := decide_eq_true c8
          clear c8
          by_cases c9 : x4_2 < (l0.length : Int)
          ·
           rw [if_pos c9] at H
           have c9b0 : decide (x4_2 < (l0.length : Int)) = true := decide_eq_true c9
           clear c9
           by_cases c10 : 0 ≤ x3_1
           ·
            rw [if_pos c10] at H
            have c10b0 : decide (0 ≤ x3_1) = true := decide_eq_true c10
            clear c10
            by_cases c11 : x3_1 < (l0.length : Int)
            ·
             rw [if_pos c11] at H
             have c11b0 : decide (x3_1 < (l0.length : Int)) = true := decide_eq_true c11
             clear c11
             by_cases c12 : ((rd_T63 l0 x4_2).f0).toList = ((rd_T63 l0 x3_1).f0).toList
             ·
              rw [if_pos c12] at H
              have c12b0 : (((rd_T63 l0 x4_2).f0).toList == ((rd_T63 l0 x3_1).f0).toList) = true := beq_iff_eq.mpr c12
              have c12b1 : (((rd_T63 l0 x4_2).f0).toList != ((rd_T63 l0 x3_1).f0).toList) = false := bne_eq_false_iff_eq.mpr c12
              clear c12
              obtain rfl := Option.some.inj H
              have p148 : 0 ≤ (x4_2 : Int) := of_decide_eq_true (by (with_reducible assumption))
              have q148 : x4_2 < (l0.length : Int) := of_decide_eq_true (by (with_reducible assumption))
              obtain ⟨ad148, A148_1, c148_1, A148_2, c148_2, e148, hx148_0, hx148_1, hx148_2, hl148_1, hi148_1, hl148_2, hi148_2⟩ := at_T63 HR0.out x4_2 p148 q148
              obtain rfl : ad146 = ad148 := (by injection e148)
              replace hx148_0 := (HB.out.cell (World.block_lt_of_cell? w _ hx148_0)).trans hx148_0
              replace hx148_1 := (HB.out.cell (World.block_lt_of_cell? w _ hx148_1)).trans hx148_1
              replace hx148_2 := (HB.out.cell (World.block_lt_of_cell? w _ hx148_2)).trans hx148_2
              have HR148_1 := Aside0.mk hi148_1
              have HC148_1 := Aside0.mk hl148_1
              clear hi148_1 hl148_1
              have HR148_2 := Aside0.mk hi148_2
              have HC148_2 := Aside0.mk hl148_2
              clear hi148_2 hl148_2
              replace p148 := eq_true p148
              replace q148 := eq_true q148
              have p149 : 0 ≤ (x3_1 : Int) := of_decide_eq_true (by (with_reducible assumption))
              have q149 : x3_1 < (l0.length : Int) := of_decide_eq_true (by (with_reducible assumption))
              obtain ⟨ad149, A149_1, c149_1, A149_2, c149_2, e149, hx149_0, hx149_1, hx149_2, hl149_1, hi149_1, hl149_2, hi149_2⟩ := at_T63 HR0.out x3_1 p149 q149
              obtain rfl : ad146 = ad149 := (by injection e149)
              replace hx149_0 := (HB.out.cell (World.block_lt_of_cell? w _ hx149_0)).trans hx149_0
              replace hx149_1 := (HB.out.cell (World.block_lt_of_cell? w _ hx149_1)).trans hx149_1
              replace hx149_2 := (HB.out.cell (World.block_lt_of_cell? w _ hx149_2)).trans hx149_2
              have HR149_1 := Aside0.mk hi149_1
              have HC149_1 := Aside0.mk hl149_1
              clear hi149_1 hl149_1
              have HR149_2 := Aside0.mk hi149_2
              have HC149_2 := Aside0.mk hl149_2
              clear hi149_2 hl149_2
              replace p149 := eq_true p149
              replace q149 := eq_true q149
              go_wp2
              repeat (go_quiet (fail); try go_wp2)
              go_ret
              exact ⟨by rfl, by repeat ((with_reducible first | exact HB.out | apply pw_below_drewN))⟩
             ·
              rw [if_neg c12] at H
              have c12b0 : (((rd_T63 l0 x4_2).f0).toList == ((rd_T63 l0 x3_1).f0).toList) = false := beq_eq_false_iff_ne.mpr c12
              have c12b1 : (((rd_T63 l0 x4_2).f0).toList != ((rd_T63 l0 x3_1).f0).toList) = true := bne_iff_ne.mpr c12
              have H' := Aside0.mk H
              clear H
              have p148 : 0 ≤ (x4_2 : Int) := of_decide_eq_true (by (with_reducible assumption))
              have q148 : x4_2 < (l0.length : Int) := of_decide_eq_true (by (with_reducible assumption))
              obtain ⟨ad148, A148_1, c148_1, A148_2, c148_2, e148, hx148_0, hx148_1, hx148_2, hl148_1, hi148_1, hl148_2, hi148_2⟩ := at_T63 HR0.out x4_2 p148 q148
              obtain rfl : ad146 = ad148 := (by injection e148)
              replace hx148_0 := (HB.out.cell (World.block_lt_of_cell? w _ hx148_0)).trans hx148_0
              replace hx148_1 := (HB.out.cell (World.block_lt_of_cell? w _ hx148_1)).trans hx148_1
              replace hx148_2 := (HB.out.cell (World.block_lt_of_cell? w _ hx148_2)).trans hx148_2
              have HR148_1 := Aside0.mk hi148_1
              have HC148_1 := Aside0.mk hl148_1
              clear hi148_1 hl148_1
              have HR148_2 := Aside0.mk hi148_2
              have HC148_2 := Aside0.mk hl148_2
              clear hi148_2 hl148_2
              replace p148 := eq_true p148
              replace q148 := eq_true q148
              have p149 : 0 ≤ (x3_1 : Int) := of_decide_eq_true (by (with_reducible assumption))
              have q149 : x3_1 < (l0.length : Int) := of_decide_eq_true (by (with_reducible assumption))
              obtain ⟨ad149, A149_1, c149_1, A149_2, c149_2, e149, hx149_0, hx149_1, hx149_2, hl149_1, hi149_1, hl149_2, hi149_2⟩ := at_T63 HR0.out x3_1 p149 q149
              obtain rfl : ad146 = ad149 := (by injection e149)
              replace hx149_0 := (HB.out.cell (World.block_lt_of_cell? w _ hx149_0)).trans hx149_0
              replace hx149_1 := (HB.out.cell (World.block_lt_of_cell? w _ hx149_1)).trans hx149_1
              replace hx149_2 := (HB.out.cell (World.block_lt_of_cell? w _ hx149_2)).trans hx149_2
              have HR149_1 := Aside0.mk hi149_1
              have HC149_1 := Aside0.mk hl149_1
              clear hi149_1 hl149_1
              have HR149_2 := Aside0.mk hi149_2
              have HC149_2 := Aside0.mk hl149_2
              clear hi149_2 hl149_2
              replace p149 := eq_true p149
              replace q149 := eq_true q149
              go_wp2
              repeat (go_quiet (fail); try go_wp2)
              go_roundg k2
              case measure => have := HK1.out; have := HK2.out; omega
              case rel => exact ⟨(wrap64 (x4_2 + 1)), (by rfl), H', ⟨by have := HK1.out; have := HK2.out; omega⟩, ⟨by repeat ((with_reducible first | exact HB.out | apply pw_below_drewN))⟩⟩
            ·
             rw [if_neg c11] at H
             exact absurd H (by simp)
           ·
            rw [if_neg c10] at H
            exact absurd H (by simp)
          ·
           rw [if_neg c9] at H
           exact absurd H (by simp)
         ·
          rw [if_neg c8] at H
          exact absurd H (by simp)
        ·
         rw [if_neg c7] at H
         have c7b0 : decide (x4_2 < x3_1) = false := decide_eq_false c7
         clear c7
         have H' := Aside0.mk H
         clear H
         go_wp2
         repeat (go_quiet (fail); try go_wp2)
         go_roundg k2
         case measure => have := HK1.out; have := HK2.out; omega
         case rel => exact ⟨(wrap64 (x3_1 + 1)), (by rfl), H', ⟨by have := HK1.out; have := HK2.out; omega⟩, ⟨HB.out⟩⟩
     ·
      replace c5 := Bool.eq_false_iff.mpr c5
      subst c5
      have H1 : (some false) = some r := by rw [if_neg (show ¬ (false = true) by decide)] at H; exact H
      clear H
      have H := H1
      clear H1
      obtain rfl := Option.some.inj H
      have p146 : 0 ≤ (x3_1 : Int) := of_decide_eq_true (by (with_reducible assumption))
      have q146 : x3_1 < (l0.length : Int) := of_decide_eq_true (by (with_reducible assumption))
      obtain ⟨ad146, A146_1, c146_1, A146_2, c146_2, e146, hx146_0, hx146_1, hx146_2, hl146_1, hi146_1, hl146_2, hi146_2⟩ := at_T63 HR0.out x3_1 p146 q146
      cases e146
      replace hx146_0 := (HB.out.cell (World.block_lt_of_cell? w _ hx146_0)).trans hx146_0
      replace hx146_1 := (HB.out.cell (World.block_lt_of_cell? w _ hx146_1)).trans hx146_1
      replace hx146_2 := (HB.out.cell (World.block_lt_of_cell? w _ hx146_2)).trans hx146_2
      have HR146_1 := Aside0.mk hi146_1
      have HC146_1 := Aside0.mk hl146_1
      clear hi146_1 hl146_1
      have HR146_2 := Aside0.mk hi146_2
      have HC146_2 := Aside0.mk hl146_2
      clear hi146_2 hl146_2
      replace p146 := eq_true p146
      replace q146 := eq_true q146
      go_wp2_with ((go_at_call 86; (with_reducible refine (peristyleref25_table.calls k1 ((rd_T63 l0 x3_1).f0) _ _ ((rd_T63 l0 x3_1).f1) _ _ ((rd_T63 l0 x3_1).f2) false _ ?side1 ?side2 ?side3 ?side4 A4.out).mono ?_); (case side1 => repeat (exact (Kd.C_below HR146_1.out HB.out))); (case side2 => exact HC146_1.out); (case side3 => repeat (exact (Kd.C_below HR146_2.out HB.out))); (case side4 => exact HC146_2.out); rintro e w13 ⟨rfl, hb⟩; have n0_ := Aside0.mk (below_step HB.out hb); clear HB; have HB := n0_; clear n0_; (try clear hb)))
      repeat (go_quiet (fail); try go_wp2_with fail)
      go_ret
      exact ⟨by rfl, by repeat exact HB.out⟩
    ·
     rw [if_neg c3] at H
     exact absurd H (by simp)
   ·
    rw [if_neg c2] at H
    have c2b0 : decide (x3_1 < (l0.length : Int)) = false := decide_eq_false c2
    clear c2
    obtain rfl := Option.some.inj H
    go_wp2
    repeat (go_quiet (fail); try go_wp2)
    go_ret
    exact ⟨by rfl, by repeat exact HB.out⟩

/-! ### peristyleref25_Find: function 146 -/
def peristyleref25_Find.l0 : Nat → List (S63) → ByteArray → Int → Option (Int)
 | 0, _, _, _ => none
 | k + 1, x0, x1, x5 => if x5 < (x0.length : Int) then (if 0 ≤ x5 then (if ((rd_T63 x0 x5).f0).toList = x1.toList then (some x5) else (peristyleref25_Find.l0 k x0 x1 (wrap64 (x5 + 1)))) else (none)) else (some (-1))
def peristyleref25_Find.f (k : Nat) (l0 : List (S63)) (a1 : ByteArray) : Option (Int) := peristyleref25_Find.l0 k l0 a1 0
theorem peristyleref25_Find.mono_l : ∀ k, (∀ y0 y1 y2, LeO (peristyleref25_Find.l0 k y0 y1 y2) (peristyleref25_Find.l0 (k + 1) y0 y1 y2))
 | 0 => fun _ _ _ r h => by simp [peristyleref25_Find.l0] at h
 | k + 1 => by
  have ih0 := peristyleref25_Find.mono_l k
  ·
   intro y0 y1 y2
   unfold peristyleref25_Find.l0
   repeat' first
   | (with_reducible exact ih0 _ _ _)
   | (with_reducible exact LeO.refl _)
   | (with_reducible exact LeO.none _)
   | (with_reducible refine LeO.ite ?_ ?_)
   | (with_reducible refine LeO.bind ?_ (fun _ => ?_))
   | exact ih0 _ _ _
   | exact LeO.none _
   | refine LeO.ite ?_ ?_
   | refine LeO.bind ?_ (fun _ => ?_)
theorem peristyleref25_Find.mono : ∀ a0 a1 k, LeO (peristyleref25_Find.f k a0 a1) (peristyleref25_Find.f (k + 1) a0 a1) := by
 intro a0 a1 k
 have ih0 := peristyleref25_Find.mono_l k
 unfold peristyleref25_Find.f
 repeat' first
   | (with_reducible exact ih0 _ _ _)
   | (with_reducible exact LeO.refl _)
   | (with_reducible exact LeO.none _)
   | (with_reducible refine LeO.ite ?_ ?_)
   | (with_reducible refine LeO.bind ?_ (fun _ => ?_))
   | exact ih0 _ _ _
   | exact LeO.none _
   | refine LeO.ite ?_ ?_
   | refine LeO.bind ?_ (fun _ => ?_)
set_option maxHeartbeats 8000000 in
set_option maxRecDepth 100000 in
theorem peristyleref25_Find.calls (k : Nat) (A0 : Option Addr) (c0 : Nat) (l0 : List (S63)) (a1 : ByteArray) (r : Int) (w : World) (hr0 : Kd.C k63 w A0 l0.length l0) (hc0 : l0.length ≤ c0) (h : peristyleref25_Find.f k l0 a1 = some r) :
  Calls Try.prog 146 #[.slice A0 l0.length c0, .string a1] w fun e w' => e = .returned (.int .i64 r) ∧ Drawn0 w w' := by
 have HR0 := Aside0.mk hr0
 have HC0 := Aside0.mk hc0
 clear hr0 hc0
 have H : (peristyleref25_Find.l0 k l0 a1 0) = some r := h
 clear h
 have H' := Aside0.mk H
 clear H
 go_enter Try.func146, Try.ntmps146
 go_wp2
 go_loopg [5] k (fun kq v5 w' => ∃ (x5_1 : Int), v5 = .int .i64 x5_1 ∧ Aside0 (peristyleref25_Find.l0 kq l0 a1 x5_1 = some r) ∧ Aside0 (kq ≤ k) ∧ Drawn0 w w')
 case atStart => exact ⟨(0), (by rfl), H', ⟨Nat.le_refl _⟩, by repeat (exact Drawn0.refl _)⟩
 case round =>
  clear H'
  obtain ⟨x5_1, rfl, HA, HK1, ⟨m1, rfl⟩⟩ := hrel
  cases gk with
  | zero => exact absurd HA.out (by simp [peristyleref25_Find.l0])
  | succ k1 =>
   have H := HA.out
   clear HA
   simp only [peristyleref25_Find.l0] at H
   by_cases c3 : x5_1 < (l0.length : Int)
   ·
    rw [if_pos c3] at H
    have c3b0 : decide (x5_1 < (l0.length : Int)) = true := decide_eq_true c3
    clear c3
    by_cases c4 : 0 ≤ x5_1
    ·
     rw [if_pos c4] at H
     have c4b0 : decide (0 ≤ x5_1) = true := decide_eq_true c4
     clear c4
     by_cases c5 : ((rd_T63 l0 x5_1).f0).toList = a1.toList
     ·
      rw [if_pos c5] at H
      have c5b0 : (((rd_T63 l0 x5_1).f0).toList == a1.toList) = true := beq_iff_eq.mpr c5
      have c5b1 : (((rd_T63 l0 x5_1).f0).toList != a1.toList) = false := bne_eq_false_iff_eq.mpr c5
      clear c5
      obtain rfl := Option.some.inj H
      have p150 : 0 ≤ (x5_1 : Int) := of_decide_eq_true (by (with_reducible assumption))
      have q150 : x5_1 < (l0.length : Int) := of_decide_eq_true (by (with_reducible assumption))
      obtain ⟨ad150, A150_1, c150_1, A150_2, c150_2, e150, hx150_0, hx150_1, hx150_2, hl150_1, hi150_1, hl150_2, hi150_2⟩ := at_T63 HR0.out x5_1 p150 q150
      cases e150
      have HR150_1 := Aside0.mk hi150_1
      have HC150_1 := Aside0.mk hl150_1
      clear hi150_1 hl150_1
      have HR150_2 := Aside0.mk hi150_2
      have HC150_2 := Aside0.mk hl150_2
      clear hi150_2 hl150_2
      replace p150 := eq_true p150
      replace q150 := eq_true q150
      go_wp2
      go_ret
      exact ⟨by rfl, by repeat (first | exact Drawn0.refl _ | apply Drawn0.step)⟩
     ·
      rw [if_neg c5] at H
      have c5b0 : (((rd_T63 l0 x5_1).f0).toList == a1.toList) = false := beq_eq_false_iff_ne.mpr c5
      have c5b1 : (((rd_T63 l0 x5_1).f0).toList != a1.toList) = true := bne_iff_ne.mpr c5
      have H' := Aside0.mk H
      clear H
      have p150 : 0 ≤ (x5_1 : Int) := of_decide_eq_true (by (with_reducible assumption))
      have q150 : x5_1 < (l0.length : Int) := of_decide_eq_true (by (with_reducible assumption))
      obtain ⟨ad150, A150_1, c150_1, A150_2, c150_2, e150, hx150_0, hx150_1, hx150_2, hl150_1, hi150_1, hl150_2, hi150_2⟩ := at_T63 HR0.out x5_1 p150 q150
      cases e150
      have HR150_1 := Aside0.mk hi150_1
      have HC150_1 := Aside0.mk hl150_1
      clear hi150_1 hl150_1
      have HR150_2 := Aside0.mk hi150_2
      have HC150_2 := Aside0.mk hl150_2
      clear hi150_2 hl150_2
      replace p150 := eq_true p150
      replace q150 := eq_true q150
      go_wp2
      go_roundg k1
      case measure => have := HK1.out; omega
      case rel => exact ⟨(wrap64 (x5_1 + 1)), (by rfl), H', ⟨by have := HK1.out; omega⟩, by repeat (first | exact Drawn0.refl _ | apply Drawn0.step)⟩
    ·
     rw [if_neg c4] at H
     exact absurd H (by simp)
   ·
    rw [if_neg c3] at H
    have c3b0 : decide (x5_1 < (l0.length : Int)) = false := decide_eq_false c3
    clear c3
    obtain rfl := Option.some.inj H
    go_wp2
    go_ret
    exact ⟨by rfl, by repeat (first | exact Drawn0.refl _ | apply Drawn0.step)⟩

end Go.Proofs.Ytgjclhhjigflkab.C
