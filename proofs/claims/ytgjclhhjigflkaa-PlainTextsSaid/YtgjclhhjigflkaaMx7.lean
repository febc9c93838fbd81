-- written by mkprint.py, a program of this session, over the kit's printer
import Derived.Test.YtgjclhhjigflkaaMx0
import Derived.Test.YtgjclhhjigflkaaMx4
import Derived.Test.YtgjclhhjigflkaaWalkPut
namespace Go.Proofs.Ytgjclhhjigflkaa.M
open Go.RowKit Go.Proofs.YtgjclhhjigflkaaW.PrintWords Go.Proofs.YtgjclhhjigflkaaW.PrintLast Go.Proofs.YtgjclhhjigflkaaW.PrintMore
attribute [local go_sem] max2_int min2_int max_two min_two max_three min_three max_four min_four   -- for this text's walks alone
set_option linter.unusedVariables false
set_option linter.unusedSimpArgs false

/-! ### peristylelaw02_VintApart: function 10 -/
mutual
def peristylelaw02_VintApart.j0 : Nat → Int → Int → ByteArray → ByteArray → Bool → Option (Bool)
  | 0, _, _, _, _, _ => none
  | k + 1, x0, x1, x5, x6, x22 => if x22 = true then ((vint_Put.f x1).bind fun t201 => ((vint_Put.f x0).bind fun t202 => (peristylelaw02_VintApart.j1 k x0 x1 t201 t202))) else (peristylelaw02_VintApart.j1 k x0 x1 x5 x6)
def peristylelaw02_VintApart.j1 : Nat → Int → Int → ByteArray → ByteArray → Option (Bool)
  | 0, _, _, _, _ => none
  | k + 1, x0, x1, x5, x6 => if (x5.size : Int) = 0 then (peristylelaw02_VintApart.j2 k x0 x1 x5 x6 true) else (peristylelaw02_VintApart.j2 k x0 x1 x5 x6 (decide ((x5.size : Int) > (x6.size : Int))))
def peristylelaw02_VintApart.j2 : Nat → Int → Int → ByteArray → ByteArray → Bool → Option (Bool)
  | 0, _, _, _, _, _ => none
  | k + 1, x0, x1, x5, x6, x36 => if x36 = true then (some false) else (if 0 ≤ (x5.size : Int) then (if (x5.size : Int) ≤ (x6.size : Int) then (if x0 ≥ 0 then (if x1 ≥ x0 then (if (((x6.extract 0 ((x5.size : Int) : Int).toNat).toList == x5.toList) == (x0 == x1)) = true then ((vint_Len.f k x0).bind fun t203 => ((vint_Len.f k x1).bind fun t204 => (if t203 ≤ t204 then ((peristylelaw02_awake.f k).bind fun t205 => (some t205)) else (some false)))) else (some false)) else (if x0 < 0 then (if (((x6.extract 0 ((x5.size : Int) : Int).toNat).toList == x5.toList) == (x0 == x1)) = true then (if x1 ≤ x0 then ((vint_Len.f k x0).bind fun t206 => ((vint_Len.f k x1).bind fun t207 => (if t206 ≤ t207 then ((peristylelaw02_awake.f k).bind fun t208 => (some t208)) else (some false)))) else ((peristylelaw02_awake.f k).bind fun t209 => (some t209))) else (some false)) else (if (((x6.extract 0 ((x5.size : Int) : Int).toNat).toList == x5.toList) == (x0 == x1)) = true then ((peristylelaw02_awake.f k).bind fun t210 => (some t210)) else (some false)))) else (if x0 < 0 then (if (((x6.extract 0 ((x5.size : Int) : Int).toNat).toList == x5.toList) == (x0 == x1)) = true then (if x1 ≤ x0 then ((vint_Len.f k x0).bind fun t211 => ((vint_Len.f k x1).bind fun t212 => (if t211 ≤ t212 then ((peristylelaw02_awake.f k).bind fun t213 => (some t213)) else (some false)))) else ((peristylelaw02_awake.f k).bind fun t214 => (some t214))) else (some false)) else (if (((x6.extract 0 ((x5.size : Int) : Int).toNat).toList == x5.toList) == (x0 == x1)) = true then ((peristylelaw02_awake.f k).bind fun t215 => (some t215)) else (some false)))) else (none)) else (none))
end
def peristylelaw02_VintApart.f (k : Nat) (a0 : Int) (a1 : Int) : Option (Bool) := (vint_Put.f a0).bind fun t199 => ((vint_Put.f a1).bind fun t200 => (if (t199.size : Int) > (t200.size : Int) then (peristylelaw02_VintApart.j0 k a0 a1 t199 t200 true) else (peristylelaw02_VintApart.j0 k a0 a1 t199 t200 ((t199.size : Int) == 0))))
theorem peristylelaw02_VintApart.mono_l : ∀ k, (∀ y0 y1 y2 y3 y4, LeO (peristylelaw02_VintApart.j0 k y0 y1 y2 y3 y4) (peristylelaw02_VintApart.j0 (k + 1) y0 y1 y2 y3 y4)) ∧ (∀ y0 y1 y2 y3, LeO (peristylelaw02_VintApart.j1 k y0 y1 y2 y3) (peristylelaw02_VintApart.j1 (k + 1) y0 y1 y2 y3)) ∧ (∀ y0 y1 y2 y3 y4, LeO (peristylelaw02_VintApart.j2 k y0 y1 y2 y3 y4) (peristylelaw02_VintApart.j2 (k + 1) y0 y1 y2 y3 y4))
  | 0 => ⟨fun _ _ _ _ _ r h => by simp [peristylelaw02_VintApart.j0] at h, fun _ _ _ _ r h => by simp [peristylelaw02_VintApart.j1] at h, fun _ _ _ _ _ r h => by simp [peristylelaw02_VintApart.j2] at h⟩
  | k + 1 => by
    obtain ⟨ih0, ih1, ih2⟩ := peristylelaw02_VintApart.mono_l k
    refine ⟨?_, ?_, ?_⟩
    · intro y0 y1 y2 y3 y4
      unfold peristylelaw02_VintApart.j0
      repeat' first
      | (with_reducible exact ih0 _ _ _ _ _)
      | (with_reducible exact ih1 _ _ _ _)
      | (with_reducible exact ih2 _ _ _ _ _)
      | (with_reducible exact peristylelaw02_awake.mono _)
      | (with_reducible exact vint_Len.mono _ _)
      | (with_reducible exact LeO.refl _)
      | (with_reducible exact LeO.none _)
      | (with_reducible refine LeO.ite ?_ ?_)
      | (with_reducible refine LeO.bind ?_ (fun _ => ?_))
      | exact ih0 _ _ _ _ _
      | exact ih1 _ _ _ _
      | exact ih2 _ _ _ _ _
      | exact peristylelaw02_awake.mono _
      | exact vint_Len.mono _ _
      | exact LeO.none _
      | refine LeO.ite ?_ ?_
      | refine LeO.bind ?_ (fun _ => ?_)
    · intro y0 y1 y2 y3
      unfold peristylelaw02_VintApart.j1
      repeat' first
      | (with_reducible exact ih0 _ _ _ _ _)
      | (with_reducible exact ih1 _ _ _ _)
      | (with_reducible exact ih2 _ _ _ _ _)
      | (with_reducible exact peristylelaw02_awake.mono _)
      | (with_reducible exact vint_Len.mono _ _)
      | (with_reducible exact LeO.refl _)
      | (with_reducible exact LeO.none _)
      | (with_reducible refine LeO.ite ?_ ?_)
      | (with_reducible refine LeO.bind ?_ (fun _ => ?_))
      | exact ih0 _ _ _ _ _
      | exact ih1 _ _ _ _
      | exact ih2 _ _ _ _ _
      | exact peristylelaw02_awake.mono _
      | exact vint_Len.mono _ _
      | exact LeO.none _
      | refine LeO.ite ?_ ?_
      | refine LeO.bind ?_ (fun _ => ?_)
    · intro y0 y1 y2 y3 y4
      unfold peristylelaw02_VintApart.j2
      repeat' first
      | (with_reducible exact ih0 _ _ _ _ _)
      | (with_reducible exact ih1 _ _ _ _)
      | (with_reducible exact ih2 _ _ _ _ _)
      | (with_reducible exact peristylelaw02_awake.mono _)
      | (with_reducible exact vint_Len.mono _ _)
      | (with_reducible exact LeO.refl _)
      | (with_reducible exact LeO.none _)
      | (with_reducible refine LeO.ite ?_ ?_)
      | (with_reducible refine LeO.bind ?_ (fun _ => ?_))
      | exact ih0 _ _ _ _ _
      | exact ih1 _ _ _ _
      | exact ih2 _ _ _ _ _
      | exact peristylelaw02_awake.mono _
      | exact vint_Len.mono _ _
      | exact LeO.none _
      | refine LeO.ite ?_ ?_
      | refine LeO.bind ?_ (fun _ => ?_)
theorem peristylelaw02_VintApart.mono : ∀ a0 a1 k, LeO (peristylelaw02_VintApart.f k a0 a1) (peristylelaw02_VintApart.f (k + 1) a0 a1) := by
  intro a0 a1 k
  obtain ⟨ih0, ih1, ih2⟩ := peristylelaw02_VintApart.mono_l k
  unfold peristylelaw02_VintApart.f
  repeat' first
      | (with_reducible exact ih0 _ _ _ _ _)
      | (with_reducible exact ih1 _ _ _ _)
      | (with_reducible exact ih2 _ _ _ _ _)
      | (with_reducible exact peristylelaw02_awake.mono _)
      | (with_reducible exact vint_Len.mono _ _)
      | (with_reducible exact LeO.refl _)
      | (with_reducible exact LeO.none _)
      | (with_reducible refine LeO.ite ?_ ?_)
      | (with_reducible refine LeO.bind ?_ (fun _ => ?_))
      | exact ih0 _ _ _ _ _
      | exact ih1 _ _ _ _
      | exact ih2 _ _ _ _ _
      | exact peristylelaw02_awake.mono _
      | exact vint_Len.mono _ _
      | exact LeO.none _
      | refine LeO.ite ?_ ?_
      | refine LeO.bind ?_ (fun _ => ?_)
set_option maxHeartbeats 8000000 in
set_option maxRecDepth 100000 in
theorem peristylelaw02_VintApart.calls (k : Nat) (a0 : Int) (a1 : Int) (r : Bool) (w : World) (h : peristylelaw02_VintApart.f k a0 a1 = some r) :
    Calls Try.prog 10 #[.int .i64 a0, .int .i64 a1] w fun e w' => e = .returned (.bool r) ∧ Below w.heap.size w w' := by
  have HB := Aside0.mk (Below.refl w.heap.size w)
  have H : ((vint_Put.f a0).bind fun t199 => ((vint_Put.f a1).bind fun t200 => (if (t199.size : Int) > (t200.size : Int) then (peristylelaw02_VintApart.j0 k a0 a1 t199 t200 true) else (peristylelaw02_VintApart.j0 k a0 a1 t199 t200 ((t199.size : Int) == 0))))) = some r := h
  clear h
  replace H := Option.bind_eq_some_iff.mp H
  obtain ⟨t199, A30, H⟩ := H
  replace H : ((vint_Put.f a1).bind fun t200 => (if (t199.size : Int) > (t200.size : Int) then (peristylelaw02_VintApart.j0 k a0 a1 t199 t200 true) else (peristylelaw02_VintApart.j0 k a0 a1 t199 t200 ((t199.size : Int) == 0)))) = some r := H
  have A3 := Aside0.mk A30
  clear A30
  replace H := Option.bind_eq_some_iff.mp H
  obtain ⟨t200, A40, H⟩ := H
  replace H : (if (t199.size : Int) > (t200.size : Int) then (peristylelaw02_VintApart.j0 k a0 a1 t199 t200 true) else (peristylelaw02_VintApart.j0 k a0 a1 t199 t200 ((t199.size : Int) == 0))) = some r := H
  have A4 := Aside0.mk A40
  clear A40
  have HC5 := Aside0.mk H
  clear H
  go_enter Try.func10, Try.ntmps10
  go_upto_region 2 with (first | ((with_reducible refine gate_callee (f := 25) rfl ?_); refine goesL_ (some 10) rfl rfl Try.func25 (by kernel_rfl) rfl #[.int .i64 a0] rfl (by (try simp only [List.map_toArray, List.map_cons, List.map_nil]); first | done | rfl | (simp only [List.length_drop, List.length_take]; rfl)) ?_; (with_reducible refine (vint_Put.calls a0 t199 _ A3.out).mono ?_); rintro e w6 ⟨rfl, hb⟩; refine ⟨_, rfl, ?_⟩; have n0_ := Aside0.mk (below_step (by repeat (first | (with_reducible first | exact HB.out | apply below_alloc | apply pw_below_drewN | apply below_drew1) | exact HB.out)) hb); clear HB; have HB := n0_; clear n0_; (try clear hb); (try clear hb2); (try clear hk); (try clear hi)) | ((with_reducible refine gate_callee (f := 25) rfl ?_); refine goesL_ (some 12) rfl rfl Try.func25 (by kernel_rfl) rfl #[.int .i64 a1] rfl (by (try simp only [List.map_toArray, List.map_cons, List.map_nil]); first | done | rfl | (simp only [List.length_drop, List.length_take]; rfl)) ?_; (with_reducible refine (vint_Put.calls a1 t200 _ A4.out).mono ?_); rintro e w7 ⟨rfl, hb⟩; refine ⟨_, rfl, ?_⟩; have n0_ := Aside0.mk (below_step (by repeat (first | (with_reducible first | exact HB.out | apply below_alloc | apply pw_below_drewN | apply below_drew1) | exact HB.out)) hb); clear HB; have HB := n0_; clear n0_; (try clear hb); (try clear hb2); (try clear hk); (try clear hi)))
  (try simp only [Act.put, List.setIfInBounds_toArray, List.set_cons_zero, List.set_cons_succ])
  go_cut [22] (fun v22 wc => ∃ (kq : Nat) (x22_4 : Bool), v22 = .bool x22_4 ∧ Aside0 (peristylelaw02_VintApart.j0 kq a0 a1 t199 t200 x22_4 = some r) ∧ Aside0 (kq ≤ k) ∧ Aside0 (Below w.heap.size w wc))
  case first =>
    have H := HC5.out
    clear HC5
    by_cases c8 : (t199.size : Int) > (t200.size : Int)
    · rw [if_pos c8] at H
      have c8b0 : decide ((t200.size : Int) < (t199.size : Int)) = true := decide_eq_true c8
      have c8b1 : decide (t200.size < t199.size) = true := decide_eq_true (Int.ofNat_lt.mp c8)
      clear c8
      (first | rw [c8b0] | (simp only [i64_w, i32_w]; rw [c8b0]) | skip)
      have H' := Aside0.mk H
      clear H
      go_wp2
      go_meet
      case rel => exact ⟨_, (true), (by first | rfl | (simp; done) | (simp [*]; done)), H', ⟨by first | omega | exact Nat.le_refl _⟩, ⟨by repeat (first | (with_reducible first | exact HB.out | apply below_alloc | apply pw_below_drewN | apply below_drew1) | exact HB.out)⟩⟩
    · rw [if_neg c8] at H
      have c8b0 : decide ((t200.size : Int) < (t199.size : Int)) = false := decide_eq_false c8
      have c8b1 : decide (t200.size < t199.size) = false := decide_eq_false (fun h => c8 (Int.ofNat_lt.mpr h))
      clear c8
      (first | rw [c8b0] | (simp only [i64_w, i32_w]; rw [c8b0]) | skip)
      have H' := Aside0.mk H
      clear H
      go_wp2
      go_meet
      case rel => exact ⟨_, (((t199.size : Int) == 0)), (by first | rfl | (simp; done) | (simp [*]; done)), H', ⟨by first | omega | exact Nat.le_refl _⟩, ⟨by repeat (first | (with_reducible first | exact HB.out | apply below_alloc | apply pw_below_drewN | apply below_drew1) | exact HB.out)⟩⟩
  case rest =>
    clear HC5
    try clear c1
    try clear c2
    try clear p2
    try clear c8
    try clear c8b0
    try clear c8b1
    obtain ⟨kq, x22_4, rfl, HA, HJ4, HB⟩ := hcut
    cases kq with
    | zero => exact absurd HA.out (by simp [peristylelaw02_VintApart.j0])
    | succ kj4 =>
      have H := HA.out
      clear HA
      simp only [peristylelaw02_VintApart.j0] at H
      have HC9 := Aside0.mk H
      clear H
      go_upto_if 22 with (fail)
      go_cut [5, 6] (fun v5 v6 wc => ∃ (kq : Nat) (x5_8 : ByteArray) (x6_8 : ByteArray), v5 = .string x5_8 ∧ v6 = .string x6_8 ∧ Aside0 (peristylelaw02_VintApart.j1 kq a0 a1 x5_8 x6_8 = some r) ∧ Aside0 (kq ≤ kj4) ∧ Aside0 (Below w.heap.size w wc))
      case first =>
        have H := HC9.out
        clear HC9
        by_cases c10 : x22_4 = true
        · subst c10
          have H1 : ((vint_Put.f a1).bind fun t201 => ((vint_Put.f a0).bind fun t202 => (peristylelaw02_VintApart.j1 kj4 a0 a1 t201 t202))) = some r := by rw [if_pos rfl] at H; exact H
          clear H
          have H := H1
          clear H1
          replace H := Option.bind_eq_some_iff.mp H
          obtain ⟨t201, A110, H⟩ := H
          replace H : ((vint_Put.f a0).bind fun t202 => (peristylelaw02_VintApart.j1 kj4 a0 a1 t201 t202)) = some r := H
          have A11 := Aside0.mk A110
          clear A110
          replace H := Option.bind_eq_some_iff.mp H
          obtain ⟨t202, A120, H⟩ := H
          replace H : (peristylelaw02_VintApart.j1 kj4 a0 a1 t201 t202) = some r := H
          have A12 := Aside0.mk A120
          clear A120
          have H' := Aside0.mk H
          clear H
          go_wp2_with (first | ((with_reducible refine gate_callee (f := 25) rfl ?_); refine goesL_ (some 24) rfl rfl Try.func25 (by kernel_rfl) rfl #[.int .i64 a1] rfl (by (try simp only [List.map_toArray, List.map_cons, List.map_nil]); first | done | rfl | (simp only [List.length_drop, List.length_take]; rfl)) ?_; (with_reducible refine (vint_Put.calls a1 t201 _ A11.out).mono ?_); rintro e w13 ⟨rfl, hb⟩; refine ⟨_, rfl, ?_⟩; have n0_ := Aside0.mk (below_step (by repeat (first | (with_reducible first | exact HB.out | apply below_alloc | apply pw_below_drewN | apply below_drew1) | exact HB.out)) hb); clear HB; have HB := n0_; clear n0_; (try clear hb); (try clear hb2); (try clear hk); (try clear hi)) | ((with_reducible refine gate_callee (f := 25) rfl ?_); refine goesL_ (some 26) rfl rfl Try.func25 (by kernel_rfl) rfl #[.int .i64 a0] rfl (by (try simp only [List.map_toArray, List.map_cons, List.map_nil]); first | done | rfl | (simp only [List.length_drop, List.length_take]; rfl)) ?_; (with_reducible refine (vint_Put.calls a0 t202 _ A12.out).mono ?_); rintro e w14 ⟨rfl, hb⟩; refine ⟨_, rfl, ?_⟩; have n0_ := Aside0.mk (below_step (by repeat (first | (with_reducible first | exact HB.out | apply below_alloc | apply pw_below_drewN | apply below_drew1) | exact HB.out)) hb); clear HB; have HB := n0_; clear n0_; (try clear hb); (try clear hb2); (try clear hk); (try clear hi)))
          go_meet
          case rel => exact ⟨_, (t201), (t202), (by first | rfl | (simp; done) | (simp [*]; done)), (by first | rfl | (simp; done) | (simp [*]; done)), H', ⟨by have := HJ4.out; first | omega | exact Nat.le_refl _⟩, ⟨by repeat (first | (with_reducible first | exact HB.out | apply below_alloc | apply pw_below_drewN | apply below_drew1) | exact HB.out)⟩⟩
        · replace c10 := Bool.eq_false_iff.mpr c10
          subst c10
          have H1 : (peristylelaw02_VintApart.j1 kj4 a0 a1 t199 t200) = some r := by rw [if_neg (show ¬ (false = true) by decide)] at H; exact H
          clear H
          have H := H1
          clear H1
          have H' := Aside0.mk H
          clear H
          go_wp2
          go_meet
          case rel => exact ⟨_, (t199), (t200), (by first | rfl | (simp; done) | (simp [*]; done)), (by first | rfl | (simp; done) | (simp [*]; done)), H', ⟨by have := HJ4.out; first | omega | exact Nat.le_refl _⟩, ⟨by repeat (first | (with_reducible first | exact HB.out | apply below_alloc | apply pw_below_drewN | apply below_drew1) | exact HB.out)⟩⟩
      case rest =>
        clear HC9
        try clear c1
        try clear c2
        try clear p2
        try clear c8
        try clear c8b0
        try clear c8b1
        try clear c10
        try clear p2
        obtain ⟨kq, x5_8, x6_8, rfl, rfl, HA, HJ8, HB⟩ := hcut
        cases kq with
        | zero => exact absurd HA.out (by simp [peristylelaw02_VintApart.j1])
        | succ kj8 =>
          have H := HA.out
          clear HA
          simp only [peristylelaw02_VintApart.j1] at H
          have HC15 := Aside0.mk H
          clear H
          go_upto_region 5 with (fail)
          go_cut [36] (fun v36 wc => ∃ (kq : Nat) (x36_14 : Bool), v36 = .bool x36_14 ∧ Aside0 (peristylelaw02_VintApart.j2 kq a0 a1 x5_8 x6_8 x36_14 = some r) ∧ Aside0 (kq ≤ kj8) ∧ Aside0 (Below w.heap.size w wc))
          case first =>
            have H := HC15.out
            clear HC15
            by_cases c16 : (x5_8.size : Int) = 0
            · rw [if_pos c16] at H
              have c16b0 : ((x5_8.size : Int) == 0) = true := beq_iff_eq.mpr c16
              have c16b1 : ((x5_8.size : Int) != 0) = false := bne_eq_false_iff_eq.mpr c16
              clear c16
              (first | rw [c16b0] | (simp only [i64_w, i32_w]; rw [c16b0]) | skip)
              have H' := Aside0.mk H
              clear H
              go_wp2
              go_meet
              case rel => exact ⟨_, (true), (by first | rfl | (simp; done) | (simp [*]; done)), H', ⟨by have := HJ4.out; have := HJ8.out; first | omega | exact Nat.le_refl _⟩, ⟨by repeat (first | (with_reducible first | exact HB.out | apply below_alloc | apply pw_below_drewN | apply below_drew1) | exact HB.out)⟩⟩
            · rw [if_neg c16] at H
              have c16b0 : ((x5_8.size : Int) == 0) = false := beq_eq_false_iff_ne.mpr c16
              have c16b1 : ((x5_8.size : Int) != 0) = true := bne_iff_ne.mpr c16
              (first | rw [c16b0] | (simp only [i64_w, i32_w]; rw [c16b0]) | skip)
              have H' := Aside0.mk H
              clear H
              go_wp2
              go_meet
              case rel => exact ⟨_, (decide ((x5_8.size : Int) > (x6_8.size : Int))), (by first | rfl | (simp; done) | (simp [*]; done)), H', ⟨by have := HJ4.out; have := HJ8.out; first | omega | exact Nat.le_refl _⟩, ⟨by repeat (first | (with_reducible first | exact HB.out | apply below_alloc | apply pw_below_drewN | apply below_drew1) | exact HB.out)⟩⟩
          case rest =>
            clear HC15
            try clear c1
            try clear c2
            try clear p2
            try clear c8
            try clear c8b0
            try clear c8b1
            try clear c10
            try clear c16
            try clear c16b0
            try clear c16b1
            try clear p2
            obtain ⟨kq, x36_14, rfl, HA, HJ14, HB⟩ := hcut
            cases kq with
            | zero => exact absurd HA.out (by simp [peristylelaw02_VintApart.j2])
            | succ kj14 =>
              have H := HA.out
              clear HA
              simp only [peristylelaw02_VintApart.j2] at H
              by_cases c17 : x36_14 = true
              · subst c17
                have H1 : (some false) = some r := by rw [if_pos rfl] at H; exact H
                clear H
                have H := H1
                clear H1
                obtain rfl := Option.some.inj H
                go_wp2
                go_ret
                exact ⟨by first | rfl | (simp [errW_none, errW_some] <;> rfl) | (simp [*, errW_none, errW_some] <;> rfl), by repeat (first | (with_reducible first | exact HB.out | apply below_alloc | apply pw_below_drewN | apply below_drew1) | exact HB.out)⟩
              · replace c17 := Bool.eq_false_iff.mpr c17
                subst c17
                have H1 : (if 0 ≤ (x5_8.size : Int) then (if (x5_8.size : Int) ≤ (x6_8.size : Int) then (if a0 ≥ 0 then (if a1 ≥ a0 then (if (((x6_8.extract 0 ((x5_8.size : Int) : Int).toNat).toList == x5_8.toList) == (a0 == a1)) = true then ((vint_Len.f kj14 a0).bind fun t203 => ((vint_Len.f kj14 a1).bind fun t204 => (if t203 ≤ t204 then ((peristylelaw02_awake.f kj14).bind fun t205 => (some t205)) else (some false)))) else (some false)) else (if a0 < 0 then (if (((x6_8.extract 0 ((x5_8.size : Int) : Int).toNat).toList == x5_8.toList) == (a0 == a1)) = true then (if a1 ≤ a0 then ((vint_Len.f kj14 a0).bind fun t206 => ((vint_Len.f kj14 a1).bind fun t207 => (if t206 ≤ t207 then ((peristylelaw02_awake.f kj14).bind fun t208 => (some t208)) else (some false)))) else ((peristylelaw02_awake.f kj14).bind fun t209 => (some t209))) else (some false)) else (if (((x6_8.extract 0 ((x5_8.size : Int) : Int).toNat).toList == x5_8.toList) == (a0 == a1)) = true then ((peristylelaw02_awake.f kj14).bind fun t210 => (some t210)) else (some false)))) else (if a0 < 0 then (if (((x6_8.extract 0 ((x5_8.size : Int) : Int).toNat).toList == x5_8.toList) == (a0 == a1)) = true then (if a1 ≤ a0 then ((vint_Len.f kj14 a0).bind fun t211 => ((vint_Len.f kj14 a1).bind fun t212 => (if t211 ≤ t212 then ((peristylelaw02_awake.f kj14).bind fun t213 => (some t213)) else (some false)))) else ((peristylelaw02_awake.f kj14).bind fun t214 => (some t214))) else (some false)) else (if (((x6_8.extract 0 ((x5_8.size : Int) : Int).toNat).toList == x5_8.toList) == (a0 == a1)) = true then ((peristylelaw02_awake.f kj14).bind fun t215 => (some t215)) else (some false)))) else (none)) else (none)) = some r := by rw [if_neg (show ¬ (false = true) by decide)] at H; exact H
                clear H
                have H := H1
                clear H1
                by_cases c18 : 0 ≤ (x5_8.size : Int)
                · rw [if_pos c18] at H
                  have c18b0 := eq_true c18
                  have c18b1 : decide (0 ≤ (x5_8.size : Int)) = true := decide_eq_true c18
                  clear c18
                  by_cases c19 : (x5_8.size : Int) ≤ (x6_8.size : Int)
                  · rw [if_pos c19] at H
                    have c19b0 := eq_true c19
                    have c19b1 : decide ((x5_8.size : Int) ≤ (x6_8.size : Int)) = true := decide_eq_true c19
                    clear c19
                    by_cases c20 : a0 ≥ 0
                    · rw [if_pos c20] at H
                      have c20b0 : decide (0 ≤ a0) = true := decide_eq_true c20
                      clear c20
                      by_cases c21 : a1 ≥ a0
                      · rw [if_pos c21] at H
                        have c21b0 : decide (a0 ≤ a1) = true := decide_eq_true c21
                        clear c21
                        by_cases c22 : (((x6_8.extract 0 ((x5_8.size : Int) : Int).toNat).toList == x5_8.toList) == (a0 == a1)) = true
                        · rw [if_pos c22] at H
                          have c22b0 : (((x6_8.extract 0 ((x5_8.size : Int) : Int).toNat).toList == x5_8.toList) == (a0 == a1)) = true := c22
                          (try (have c22b1 : decide (((x6_8.extract 0 x5_8.size).toList == x5_8.toList) = (a0 == a1)) = true := by simpa using c22))
                          (try (have c22b2 : (((x6_8.extract 0 x5_8.size).toList == x5_8.toList) == (a0 == a1)) = true := by simpa using c22))
                          (try (have c22b3 : (((x6_8.extract 0 x5_8.size).toList == x5_8.toList) = (a0 == a1)) := by simpa using c22))
                          (try (have c22b4 : decide (((x6_8.extract 0 ((x5_8.size : Int) : Int).toNat).toList == x5_8.toList) = (a0 == a1)) = true := by simpa using c22))
                          (try (have c22b5 : (((x6_8.extract 0 ((x5_8.size : Int) : Int).toNat).toList == x5_8.toList) == (a0 == a1)) = true := by simpa using c22))
                          clear c22
                          replace H := Option.bind_eq_some_iff.mp H
                          obtain ⟨t203, A230, H⟩ := H
                          replace H : ((vint_Len.f kj14 a1).bind fun t204 => (if t203 ≤ t204 then ((peristylelaw02_awake.f kj14).bind fun t205 => (some t205)) else (some false))) = some r := H
                          have A23 := Aside0.mk A230
                          clear A230
                          replace H := Option.bind_eq_some_iff.mp H
                          obtain ⟨t204, A240, H⟩ := H
                          replace H : (if t203 ≤ t204 then ((peristylelaw02_awake.f kj14).bind fun t205 => (some t205)) else (some false)) = some r := H
                          have A24 := Aside0.mk A240
                          clear A240
                          by_cases c25 : t203 ≤ t204
                          · rw [if_pos c25] at H
                            have c25b0 : decide (t203 ≤ t204) = true := decide_eq_true c25
                            clear c25
                            replace H := Option.bind_eq_some_iff.mp H
                            obtain ⟨t205, A260, H⟩ := H
                            replace H : (some t205) = some r := H
                            have A26 := Aside0.mk A260
                            clear A260
                            obtain rfl := Option.some.inj H
                            go_wp2_with (first | (go_at_call 28; (with_reducible refine (vint_Len.calls kj14 a0 t203 _ A23.out).mono ?_); rintro e w27 ⟨rfl, hb⟩; have n0_ := Aside0.mk (below_step (by repeat (first | (with_reducible first | exact HB.out | apply below_alloc | apply pw_below_drewN | apply below_drew1) | exact HB.out)) hb); clear HB; have HB := n0_; clear n0_; (try clear hb); (try clear hb2); (try clear hk); (try clear hi)) | (go_at_call 28; (with_reducible refine (vint_Len.calls kj14 a1 t204 _ A24.out).mono ?_); rintro e w28 ⟨rfl, hb⟩; have n0_ := Aside0.mk (below_step (by repeat (first | (with_reducible first | exact HB.out | apply below_alloc | apply pw_below_drewN | apply below_drew1) | exact HB.out)) hb); clear HB; have HB := n0_; clear n0_; (try clear hb); (try clear hb2); (try clear hk); (try clear hi)) | (go_at_call 24; (with_reducible refine (peristylelaw02_awake.calls kj14  t205 _ A26.out).mono ?_); rintro e w29 ⟨rfl, hb⟩; have n0_ := Aside0.mk (below_step (by repeat (first | (with_reducible first | exact HB.out | apply below_alloc | apply pw_below_drewN | apply below_drew1) | exact HB.out)) hb); clear HB; have HB := n0_; clear n0_; (try clear hb); (try clear hb2); (try clear hk); (try clear hi)))
                            go_ret
                            exact ⟨by first | rfl | (simp [errW_none, errW_some] <;> rfl) | (simp [*, errW_none, errW_some] <;> rfl), by repeat (first | (with_reducible first | exact HB.out | apply below_alloc | apply pw_below_drewN | apply below_drew1) | exact HB.out)⟩
                          · rw [if_neg c25] at H
                            have c25b0 : decide (t203 ≤ t204) = false := decide_eq_false c25
                            clear c25
                            obtain rfl := Option.some.inj H
                            go_wp2_with (first | (go_at_call 28; (with_reducible refine (vint_Len.calls kj14 a0 t203 _ A23.out).mono ?_); rintro e w30 ⟨rfl, hb⟩; have n0_ := Aside0.mk (below_step (by repeat (first | (with_reducible first | exact HB.out | apply below_alloc | apply pw_below_drewN | apply below_drew1) | exact HB.out)) hb); clear HB; have HB := n0_; clear n0_; (try clear hb); (try clear hb2); (try clear hk); (try clear hi)) | (go_at_call 28; (with_reducible refine (vint_Len.calls kj14 a1 t204 _ A24.out).mono ?_); rintro e w31 ⟨rfl, hb⟩; have n0_ := Aside0.mk (below_step (by repeat (first | (with_reducible first | exact HB.out | apply below_alloc | apply pw_below_drewN | apply below_drew1) | exact HB.out)) hb); clear HB; have HB := n0_; clear n0_; (try clear hb); (try clear hb2); (try clear hk); (try clear hi)))
                            go_ret
                            exact ⟨by first | rfl | (simp [errW_none, errW_some] <;> rfl) | (simp [*, errW_none, errW_some] <;> rfl), by repeat (first | (with_reducible first | exact HB.out | apply below_alloc | apply pw_below_drewN | apply below_drew1) | exact HB.out)⟩
                        · rw [if_neg c22] at H
                          have c22b0 : (((x6_8.extract 0 ((x5_8.size : Int) : Int).toNat).toList == x5_8.toList) == (a0 == a1)) = false := by simpa using c22
                          (try (have c22b1 : decide (((x6_8.extract 0 x5_8.size).toList == x5_8.toList) = (a0 == a1)) = false := by simpa using c22))
                          (try (have c22b2 : (((x6_8.extract 0 x5_8.size).toList == x5_8.toList) == (a0 == a1)) = false := by simpa using c22))
                          (try (have c22b3 : ¬ (((x6_8.extract 0 x5_8.size).toList == x5_8.toList) = (a0 == a1)) := by simpa using c22))
                          (try (have c22b4 : decide (((x6_8.extract 0 ((x5_8.size : Int) : Int).toNat).toList == x5_8.toList) = (a0 == a1)) = false := by simpa using c22))
                          (try (have c22b5 : (((x6_8.extract 0 ((x5_8.size : Int) : Int).toNat).toList == x5_8.toList) == (a0 == a1)) = false := by simpa using c22))
                          (try (have c22b6 : ¬ (((x6_8.extract 0 ((x5_8.size : Int) : Int).toNat).toList == x5_8.toList) = (a0 == a1)) := by simpa using c22))
                          clear c22
                          obtain rfl := Option.some.inj H
                          go_wp2
                          go_ret
                          exact ⟨by first | rfl | (simp [errW_none, errW_some] <;> rfl) | (simp [*, errW_none, errW_some] <;> rfl), by repeat (first | (with_reducible first | exact HB.out | apply below_alloc | apply pw_below_drewN | apply below_drew1) | exact HB.out)⟩
                      · rw [if_neg c21] at H
                        have c21b0 : decide (a0 ≤ a1) = false := decide_eq_false c21
                        clear c21
                        by_cases c32 : a0 < 0
                        · rw [if_pos c32] at H
                          have c32b0 : decide (a0 < 0) = true := decide_eq_true c32
                          clear c32
                          by_cases c33 : (((x6_8.extract 0 ((x5_8.size : Int) : Int).toNat).toList == x5_8.toList) == (a0 == a1)) = true
                          · rw [if_pos c33] at H
                            have c33b0 : (((x6_8.extract 0 ((x5_8.size : Int) : Int).toNat).toList == x5_8.toList) == (a0 == a1)) = true := c33
                            (try (have c33b1 : decide (((x6_8.extract 0 x5_8.size).toList == x5_8.toList) = (a0 == a1)) = true := by simpa using c33))
                            (try (have c33b2 : (((x6_8.extract 0 x5_8.size).toList == x5_8.toList) == (a0 == a1)) = true := by simpa using c33))
                            (try (have c33b3 : (((x6_8.extract 0 x5_8.size).toList == x5_8.toList) = (a0 == a1)) := by simpa using c33))
                            (try (have c33b4 : decide (((x6_8.extract 0 ((x5_8.size : Int) : Int).toNat).toList == x5_8.toList) = (a0 == a1)) = true := by simpa using c33))
                            (try (have c33b5 : (((x6_8.extract 0 ((x5_8.size : Int) : Int).toNat).toList == x5_8.toList) == (a0 == a1)) = true := by simpa using c33))
                            clear c33
                            by_cases c34 : a1 ≤ a0
                            · rw [if_pos c34] at H
                              have c34b0 : decide (a1 ≤ a0) = true := decide_eq_true c34
                              clear c34
                              replace H := Option.bind_eq_some_iff.mp H
                              obtain ⟨t206, A350, H⟩ := H
                              replace H : ((vint_Len.f kj14 a1).bind fun t207 => (if t206 ≤ t207 then ((peristylelaw02_awake.f kj14).bind fun t208 => (some t208)) else (some false))) = some r := H
                              have A35 := Aside0.mk A350
                              clear A350
                              replace H := Option.bind_eq_some_iff.mp H
                              obtain ⟨t207, A360, H⟩ := H
                              replace H : (if t206 ≤ t207 then ((peristylelaw02_awake.f kj14).bind fun t208 => (some t208)) else (some false)) = some r := H
                              have A36 := Aside0.mk A360
                              clear A360
                              by_cases c37 : t206 ≤ t207
                              · rw [if_pos c37] at H
                                have c37b0 : decide (t206 ≤ t207) = true := decide_eq_true c37
                                clear c37
                                replace H := Option.bind_eq_some_iff.mp H
                                obtain ⟨t208, A380, H⟩ := H
                                replace H : (some t208) = some r := H
                                have A38 := Aside0.mk A380
                                clear A380
                                obtain rfl := Option.some.inj H
                                go_wp2_with (first | (go_at_call 28; (with_reducible refine (vint_Len.calls kj14 a0 t206 _ A35.out).mono ?_); rintro e w39 ⟨rfl, hb⟩; have n0_ := Aside0.mk (below_step (by repeat (first | (with_reducible first | exact HB.out | apply below_alloc | apply pw_below_drewN | apply below_drew1) | exact HB.out)) hb); clear HB; have HB := n0_; clear n0_; (try clear hb); (try clear hb2); (try clear hk); (try clear hi)) | (go_at_call 28; (with_reducible refine (vint_Len.calls kj14 a1 t207 _ A36.out).mono ?_); rintro e w40 ⟨rfl, hb⟩; have n0_ := Aside0.mk (below_step (by repeat (first | (with_reducible first | exact HB.out | apply below_alloc | apply pw_below_drewN | apply below_drew1) | exact HB.out)) hb); clear HB; have HB := n0_; clear n0_; (try clear hb); (try clear hb2); (try clear hk); (try clear hi)) | (go_at_call 24; (with_reducible refine (peristylelaw02_awake.calls kj14  t208 _ A38.out).mono ?_); rintro e w41 ⟨rfl, hb⟩; have n0_ := Aside0.mk (below_step (by repeat (first | (with_reducible first | exact HB.out | apply below_alloc | apply pw_below_drewN | apply below_drew1) | exact HB.out)) hb); clear HB; have HB := n0_; clear n0_; (try clear hb); (try clear hb2); (try clear hk); (try clear hi)))
                                go_ret
                                exact ⟨by first | rfl | (simp [errW_none, errW_some] <;> rfl) | (simp [*, errW_none, errW_some] <;> rfl), by repeat (first | (with_reducible first | exact HB.out | apply below_alloc | apply pw_below_drewN | apply below_drew1) | exact HB.out)⟩
                              · rw [if_neg c37] at H
                                have c37b0 : decide (t206 ≤ t207) = false := decide_eq_false c37
                                clear c37
                                obtain rfl := Option.some.inj H
                                go_wp2_with (first | (go_at_call 28; (with_reducible refine (vint_Len.calls kj14 a0 t206 _ A35.out).mono ?_); rintro e w42 ⟨rfl, hb⟩; have n0_ := Aside0.mk (below_step (by repeat (first | (with_reducible first | exact HB.out | apply below_alloc | apply pw_below_drewN | apply below_drew1) | exact HB.out)) hb); clear HB; have HB := n0_; clear n0_; (try clear hb); (try clear hb2); (try clear hk); (try clear hi)) | (go_at_call 28; (with_reducible refine (vint_Len.calls kj14 a1 t207 _ A36.out).mono ?_); rintro e w43 ⟨rfl, hb⟩; have n0_ := Aside0.mk (below_step (by repeat (first | (with_reducible first | exact HB.out | apply below_alloc | apply pw_below_drewN | apply below_drew1) | exact HB.out)) hb); clear HB; have HB := n0_; clear n0_; (try clear hb); (try clear hb2); (try clear hk); (try clear hi)))
                                go_ret
                                exact ⟨by first | rfl | (simp [errW_none, errW_some] <;> rfl) | (simp [*, errW_none, errW_some] <;> rfl), by repeat (first | (with_reducible first | exact HB.out | apply below_alloc | apply pw_below_drewN | apply below_drew1) | exact HB.out)⟩
                            · rw [if_neg c34] at H
                              have c34b0 : decide (a1 ≤ a0) = false := decide_eq_false c34
                              clear c34
                              replace H := Option.bind_eq_some_iff.mp H
                              obtain ⟨t209, A440, H⟩ := H
                              replace H : (some t209) = some r := H
                              have A44 := Aside0.mk A440
                              clear A440
                              obtain rfl := Option.some.inj H
                              go_wp2_with (first | (go_at_call 24; (with_reducible refine (peristylelaw02_awake.calls kj14  t209 _ A44.out).mono ?_); rintro e w45 ⟨rfl, hb⟩; have n0_ := Aside0.mk (below_step (by repeat (first | (with_reducible first | exact HB.out | apply below_alloc | apply pw_below_drewN | apply below_drew1) | exact HB.out)) hb); clear HB; have HB := n0_; clear n0_; (try clear hb); (try clear hb2); (try clear hk); (try clear hi)))
                              go_ret
                              exact ⟨by first | rfl | (simp [errW_none, errW_some] <;> rfl) | (simp [*, errW_none, errW_some] <;> rfl), by repeat (first | (with_reducible first | exact HB.out | apply below_alloc | apply pw_below_drewN | apply below_drew1) | exact HB.out)⟩
                          · rw [if_neg c33] at H
                            have c33b0 : (((x6_8.extract 0 ((x5_8.size : Int) : Int).toNat).toList == x5_8.toList) == (a0 == a1)) = false := by simpa using c33
                            (try (have c33b1 : decide (((x6_8.extract 0 x5_8.size).toList == x5_8.toList) = (a0 == a1)) = false := by simpa using c33))
                            (try (have c33b2 : (((x6_8.extract 0 x5_8.size).toList == x5_8.toList) == (a0 == a1)) = false := by simpa using c33))
                            (try (have c33b3 : ¬ (((x6_8.extract 0 x5_8.size).toList == x5_8.toList) = (a0 == a1)) := by simpa using c33))
                            (try (have c33b4 : decide (((x6_8.extract 0 ((x5_8.size : Int) : Int).toNat).toList == x5_8.toList) = (a0 == a1)) = false := by simpa using c33))
                            (try (have c33b5 : (((x6_8.extract 0 ((x5_8.size : Int) : Int).toNat).toList == x5_8.toList) == (a0 == a1)) = false := by simpa using c33))
                            (try (have c33b6 : ¬ (((x6_8.extract 0 ((x5_8.size : Int) : Int).toNat).toList == x5_8.toList) = (a0 == a1)) := by simpa using c33))
                            clear c33
                            obtain rfl := Option.some.inj H
                            go_wp2
                            go_ret
                            exact ⟨by first | rfl | (simp [errW_none, errW_some] <;> rfl) | (simp [*, errW_none, errW_some] <;> rfl), by repeat (first | (with_reducible first | exact HB.out | apply below_alloc | apply pw_below_drewN | apply below_drew1) | exact HB.out)⟩
                        · rw [if_neg c32] at H
                          have c32b0 : decide (a0 < 0) = false := decide_eq_false c32
                          clear c32
                          by_cases c46 : (((x6_8.extract 0 ((x5_8.size : Int) : Int).toNat).toList == x5_8.toList) == (a0 == a1)) = true
                          · rw [if_pos c46] at H
                            have c46b0 : (((x6_8.extract 0 ((x5_8.size : Int) : Int).toNat).toList == x5_8.toList) == (a0 == a1)) = true := c46
                            (try (have c46b1 : decide (((x6_8.extract 0 x5_8.size).toList == x5_8.toList) = (a0 == a1)) = true := by simpa using c46))
                            (try (have c46b2 : (((x6_8.extract 0 x5_8.size).toList == x5_8.toList) == (a0 == a1)) = true := by simpa using c46))
                            (try (have c46b3 : (((x6_8.extract 0 x5_8.size).toList == x5_8.toList) = (a0 == a1)) := by simpa using c46))
                            (try (have c46b4 : decide (((x6_8.extract 0 ((x5_8.size : Int) : Int).toNat).toList == x5_8.toList) = (a0 == a1)) = true := by simpa using c46))
                            (try (have c46b5 : (((x6_8.extract 0 ((x5_8.size : Int) : Int).toNat).toList == x5_8.toList) == (a0 == a1)) = true := by simpa using c46))
                            clear c46
                            replace H := Option.bind_eq_some_iff.mp H
                            obtain ⟨t210, A470, H⟩ := H
                            replace H : (some t210) = some r := H
                            have A47 := Aside0.mk A470
                            clear A470
                            obtain rfl := Option.some.inj H
                            go_wp2_with (first | (go_at_call 24; (with_reducible refine (peristylelaw02_awake.calls kj14  t210 _ A47.out).mono ?_); rintro e w48 ⟨rfl, hb⟩; have n0_ := Aside0.mk (below_step (by repeat (first | (with_reducible first | exact HB.out | apply below_alloc | apply pw_below_drewN | apply below_drew1) | exact HB.out)) hb); clear HB; have HB := n0_; clear n0_; (try clear hb); (try clear hb2); (try clear hk); (try clear hi)))
                            go_ret
                            exact ⟨by first | rfl | (simp [errW_none, errW_some] <;> rfl) | (simp [*, errW_none, errW_some] <;> rfl), by repeat (first | (with_reducible first | exact HB.out | apply below_alloc | apply pw_below_drewN | apply below_drew1) | exact HB.out)⟩
                          · rw [if_neg c46] at H
                            have c46b0 : (((x6_8.extract 0 ((x5_8.size : Int) : Int).toNat).toList == x5_8.toList) == (a0 == a1)) = false := by simpa using c46
                            (try (have c46b1 : decide (((x6_8.extract 0 x5_8.size).toList == x5_8.toList) = (a0 == a1)) = false := by simpa using c46))
                            (try (have c46b2 : (((x6_8.extract 0 x5_8.size).toList == x5_8.toList) == (a0 == a1)) = false := by simpa using c46))
                            (try (have c46b3 : ¬ (((x6_8.extract 0 x5_8.size).toList == x5_8.toList) = (a0 == a1)) := by simpa using c46))
                            (try (have c46b4 : decide (((x6_8.extract 0 ((x5_8.size : Int) : Int).toNat).toList == x5_8.toList) = (a0 == a1)) = false := by simpa using c46))
                            (try (have c46b5 : (((x6_8.extract 0 ((x5_8.size : Int) : Int).toNat).toList == x5_8.toList) == (a0 == a1)) = false := by simpa using c46))
                            (try (have c46b6 : ¬ (((x6_8.extract 0 ((x5_8.size : Int) : Int).toNat).toList == x5_8.toList) = (a0 == a1)) := by simpa using c46))
                            clear c46
                            obtain rfl := Option.some.inj H
                            go_wp2
                            go_ret
                            exact ⟨by first | rfl | (simp [errW_none, errW_some] <;> rfl) | (simp [*, errW_none, errW_some] <;> rfl), by repeat (first | (with_reducible first | exact HB.out | apply below_alloc | apply pw_below_drewN | apply below_drew1) | exact HB.out)⟩
                    · rw [if_neg c20] at H
                      have c20b0 : decide (0 ≤ a0) = false := decide_eq_false c20
                      clear c20
                      by_cases c49 : a0 < 0
                      · rw [if_pos c49] at H
                        have c49b0 : decide (a0 < 0) = true := decide_eq_true c49
                        clear c49
                        by_cases c50 : (((x6_8.extract 0 ((x5_8.size : Int) : Int).toNat).toList == x5_8.toList) == (a0 == a1)) = true
                        · rw [if_pos c50] at H
                          have c50b0 : (((x6_8.extract 0 ((x5_8.size : Int) : Int).toNat).toList == x5_8.toList) == (a0 == a1)) = true := c50
                          (try (have c50b1 : decide (((x6_8.extract 0 x5_8.size).toList == x5_8.toList) = (a0 == a1)) = true := by simpa using c50))
                          (try (have c50b2 : (((x6_8.extract 0 x5_8.size).toList == x5_8.toList) == (a0 == a1)) = true := by simpa using c50))
                          (try (have c50b3 : (((x6_8.extract 0 x5_8.size).toList == x5_8.toList) = (a0 == a1)) := by simpa using c50))
                          (try (have c50b4 : decide (((x6_8.extract 0 ((x5_8.size : Int) : Int).toNat).toList == x5_8.toList) = (a0 == a1)) = true := by simpa using c50))
                          (try (have c50b5 : (((x6_8.extract 0 ((x5_8.size : Int) : Int).toNat).toList == x5_8.toList) == (a0 == a1)) = true := by simpa using c50))
                          clear c50
                          by_cases c51 : a1 ≤ a0
                          · rw [if_pos c51] at H
                            have c51b0 : decide (a1 ≤ a0) = true := decide_eq_true c51
                            clear c51
                            replace H := Option.bind_eq_some_iff.mp H
                            obtain ⟨t211, A520, H⟩ := H
                            replace H : ((vint_Len.f kj14 a1).bind fun t212 => (if t211 ≤ t212 then ((peristylelaw02_awake.f kj14).bind fun t213 => (some t213)) else (some false))) = some r := H
                            have A52 := Aside0.mk A520
                            clear A520
                            replace H := Option.bind_eq_some_iff.mp H
                            obtain ⟨t212, A530, H⟩ := H
                            replace H : (if t211 ≤ t212 then ((peristylelaw02_awake.f kj14).bind fun t213 => (some t213)) else (some false)) = some r := H
                            have A53 := Aside0.mk A530
                            clear A530
                            by_cases c54 : t211 ≤ t212
                            · rw [if_pos c54] at H
                              have c54b0 : decide (t211 ≤ t212) = true := decide_eq_true c54
                              clear c54
                              replace H := Option.bind_eq_some_iff.mp H
                              obtain ⟨t213, A550, H⟩ := H
                              replace H : (some t213) = some r := H
                              have A55 := Aside0.mk A550
                              clear A550
                              obtain rfl := Option.some.inj H
                              go_wp2_with (first | (go_at_call 28; (with_reducible refine (vint_Len.calls kj14 a0 t211 _ A52.out).mono ?_); rintro e w56 ⟨rfl, hb⟩; have n0_ := Aside0.mk (below_step (by repeat (first | (with_reducible first | exact HB.out | apply below_alloc | apply pw_below_drewN | apply below_drew1) | exact HB.out)) hb); clear HB; have HB := n0_; clear n0_; (try clear hb); (try clear hb2); (try clear hk); (try clear hi)) | (go_at_call 28; (with_reducible refine (vint_Len.calls kj14 a1 t212 _ A53.out).mono ?_); rintro e w57 ⟨rfl, hb⟩; have n0_ := Aside0.mk (below_step (by repeat (first | (with_reducible first | exact HB.out | apply below_alloc | apply pw_below_drewN | apply below_drew1) | exact HB.out)) hb); clear HB; have HB := n0_; clear n0_; (try clear hb); (try clear hb2); (try clear hk); (try clear hi)) | (go_at_call 24; (with_reducible refine (peristylelaw02_awake.calls kj14  t213 _ A55.out).mono ?_); rintro e w58 ⟨rfl, hb⟩; have n0_ := Aside0.mk (below_step (by repeat (first | (with_reducible first | exact HB.out | apply below_alloc | apply pw_below_drewN | apply below_drew1) | exact HB.out)) hb); clear HB; have HB := n0_; clear n0_; (try clear hb); (try clear hb2); (try clear hk); (try clear hi)))
                              go_ret
                              exact ⟨by first | rfl | (simp [errW_none, errW_some] <;> rfl) | (simp [*, errW_none, errW_some] <;> rfl), by repeat (first | (with_reducible first | exact HB.out | apply below_alloc | apply pw_below_drewN | apply below_drew1) | exact HB.out)⟩
                            · rw [if_neg c54] at H
                              have c54b0 : decide (t211 ≤ t212) = false := decide_eq_false c54
                              clear c54
                              obtain rfl := Option.some.inj H
                              go_wp2_with (first | (go_at_call 28; (with_reducible refine (vint_Len.calls kj14 a0 t211 _ A52.out).mono ?_); rintro e w59 ⟨rfl, hb⟩; have n0_ := Aside0.mk (below_step (by repeat (first | (with_reducible first | exact HB.out | apply below_alloc | apply pw_below_drewN | apply below_drew1) | exact HB.out)) hb); clear HB; have HB := n0_; clear n0_; (try clear hb); (try clear hb2); (try clear hk); (try clear hi)) | (go_at_call 28; (with_reducible refine (vint_Len.calls kj14 a1 t212 _ A53.out).mono ?_); rintro e w60 ⟨rfl, hb⟩; have n0_ := Aside0.mk (below_step (by repeat (first | (with_reducible first | exact HB.out | apply below_alloc | apply pw_below_drewN | apply below_drew1) | exact HB.out)) hb); clear HB; have HB := n0_; clear n0_; (try clear hb); (try clear hb2); (try clear hk); (try clear hi)))
                              go_ret
                              exact ⟨by first | rfl | (simp [errW_none, errW_some] <;> rfl) | (simp [*, errW_none, errW_some] <;> rfl), by repeat (first | (with_reducible first | exact HB.out | apply below_alloc | apply pw_below_drewN | apply below_drew1) | exact HB.out)⟩
                          · rw [if_neg c51] at H
                            have c51b0 : decide (a1 ≤ a0) = false := decide_eq_false c51
                            clear c51
                            replace H := Option.bind_eq_some_iff.mp H
                            obtain ⟨t214, A610, H⟩ := H
                            replace H : (some t214) = some r := H
                            have A61 := Aside0.mk A610
                            clear A610
                            obtain rfl := Option.some.inj H
                            go_wp2_with (first | (go_at_call 24; (with_reducible refine (peristylelaw02_awake.calls kj14  t214 _ A61.out).mono ?_); rintro e w62 ⟨rfl, hb⟩; have n0_ := Aside0.mk (below_step (by repeat (first | (with_reducible first | exact HB.out | apply below_alloc | apply pw_below_drewN | apply below_drew1) | exact HB.out)) hb); clear HB; have HB := n0_; clear n0_; (try clear hb); (try clear hb2); (try clear hk); (try clear hi)))
                            go_ret
                            exact ⟨by first | rfl | (simp [errW_none, errW_some] <;> rfl) | (simp [*, errW_none, errW_some] <;> rfl), by repeat (first | (with_reducible first | exact HB.out | apply below_alloc | apply pw_below_drewN | apply below_drew1) | exact HB.out)⟩
                        · rw [if_neg c50] at H
                          have c50b0 : (((x6_8.extract 0 ((x5_8.size : Int) : Int).toNat).toList == x5_8.toList) == (a0 == a1)) = false := by simpa using c50
                          (try (have c50b1 : decide (((x6_8.extract 0 x5_8.size).toList == x5_8.toList) = (a0 == a1)) = false := by simpa using c50))
                          (try (have c50b2 : (((x6_8.extract 0 x5_8.size).toList == x5_8.toList) == (a0 == a1)) = false := by simpa using c50))
                          (try (have c50b3 : ¬ (((x6_8.extract 0 x5_8.size).toList == x5_8.toList) = (a0 == a1)) := by simpa using c50))
                          (try (have c50b4 : decide (((x6_8.extract 0 ((x5_8.size : Int) : Int).toNat).toList == x5_8.toList) = (a0 == a1)) = false := by simpa using c50))
                          (try (have c50b5 : (((x6_8.extract 0 ((x5_8.size : Int) : Int).toNat).toList == x5_8.toList) == (a0 == a1)) = false := by simpa using c50))
                          (try (have c50b6 : ¬ (((x6_8.extract 0 ((x5_8.size : Int) : Int).toNat).toList == x5_8.toList) = (a0 == a1)) := by simpa using c50))
                          clear c50
                          obtain rfl := Option.some.inj H
                          go_wp2
                          go_ret
                          exact ⟨by first | rfl | (simp [errW_none, errW_some] <;> rfl) | (simp [*, errW_none, errW_some] <;> rfl), by repeat (first | (with_reducible first | exact HB.out | apply below_alloc | apply pw_below_drewN | apply below_drew1) | exact HB.out)⟩
                      · rw [if_neg c49] at H
                        have c49b0 : decide (a0 < 0) = false := decide_eq_false c49
                        clear c49
                        by_cases c63 : (((x6_8.extract 0 ((x5_8.size : Int) : Int).toNat).toList == x5_8.toList) == (a0 == a1)) = true
                        · rw [if_pos c63] at H
                          have c63b0 : (((x6_8.extract 0 ((x5_8.size : Int) : Int).toNat).toList == x5_8.toList) == (a0 == a1)) = true := c63
                          (try (have c63b1 : decide (((x6_8.extract 0 x5_8.size).toList == x5_8.toList) = (a0 == a1)) = true := by simpa using c63))
                          (try (have c63b2 : (((x6_8.extract 0 x5_8.size).toList == x5_8.toList) == (a0 == a1)) = true := by simpa using c63))
                          (try (have c63b3 : (((x6_8.extract 0 x5_8.size).toList == x5_8.toList) = (a0 == a1)) := by simpa using c63))
                          (try (have c63b4 : decide (((x6_8.extract 0 ((x5_8.size : Int) : Int).toNat).toList == x5_8.toList) = (a0 == a1)) = true := by simpa using c63))
                          (try (have c63b5 : (((x6_8.extract 0 ((x5_8.size : Int) : Int).toNat).toList == x5_8.toList) == (a0 == a1)) = true := by simpa using c63))
                          clear c63
                          replace H := Option.bind_eq_some_iff.mp H
                          obtain ⟨t215, A640, H⟩ := H
                          replace H : (some t215) = some r := H
                          have A64 := Aside0.mk A640
                          clear A640
                          obtain rfl := Option.some.inj H
                          go_wp2_with (first | (go_at_call 24; (with_reducible refine (peristylelaw02_awake.calls kj14  t215 _ A64.out).mono ?_); rintro e w65 ⟨rfl, hb⟩; have n0_ := Aside0.mk (below_step (by repeat (first | (with_reducible first | exact HB.out | apply below_alloc | apply pw_below_drewN | apply below_drew1) | exact HB.out)) hb); clear HB; have HB := n0_; clear n0_; (try clear hb); (try clear hb2); (try clear hk); (try clear hi)))
                          go_ret
                          exact ⟨by first | rfl | (simp [errW_none, errW_some] <;> rfl) | (simp [*, errW_none, errW_some] <;> rfl), by repeat (first | (with_reducible first | exact HB.out | apply below_alloc | apply pw_below_drewN | apply below_drew1) | exact HB.out)⟩
                        · rw [if_neg c63] at H
                          have c63b0 : (((x6_8.extract 0 ((x5_8.size : Int) : Int).toNat).toList == x5_8.toList) == (a0 == a1)) = false := by simpa using c63
                          (try (have c63b1 : decide (((x6_8.extract 0 x5_8.size).toList == x5_8.toList) = (a0 == a1)) = false := by simpa using c63))
                          (try (have c63b2 : (((x6_8.extract 0 x5_8.size).toList == x5_8.toList) == (a0 == a1)) = false := by simpa using c63))
                          (try (have c63b3 : ¬ (((x6_8.extract 0 x5_8.size).toList == x5_8.toList) = (a0 == a1)) := by simpa using c63))
                          (try (have c63b4 : decide (((x6_8.extract 0 ((x5_8.size : Int) : Int).toNat).toList == x5_8.toList) = (a0 == a1)) = false := by simpa using c63))
                          (try (have c63b5 : (((x6_8.extract 0 ((x5_8.size : Int) : Int).toNat).toList == x5_8.toList) == (a0 == a1)) = false := by simpa using c63))
                          (try (have c63b6 : ¬ (((x6_8.extract 0 ((x5_8.size : Int) : Int).toNat).toList == x5_8.toList) = (a0 == a1)) := by simpa using c63))
                          clear c63
                          obtain rfl := Option.some.inj H
                          go_wp2
                          go_ret
                          exact ⟨by first | rfl | (simp [errW_none, errW_some] <;> rfl) | (simp [*, errW_none, errW_some] <;> rfl), by repeat (first | (with_reducible first | exact HB.out | apply below_alloc | apply pw_below_drewN | apply below_drew1) | exact HB.out)⟩
                  · rw [if_neg c19] at H
                    exact absurd H (by simp)
                · rw [if_neg c18] at H
                  exact absurd H (by simp)

/-- THE ONE PURE STATEMENT of peristylelaw02_VintApart: yours. -/
def peristylelaw02_VintApart.Pure : Prop := ∀ (a0 : Int) (a1 : Int), (Lit.int .i64 a0).wf = true → (Lit.int .i64 a1).wf = true → ∃ k, peristylelaw02_VintApart.f k a0 a1 = some true
theorem peristylelaw02_VintApart.walk (P : peristylelaw02_VintApart.Pure) (a0 : Int) (a1 : Int) (w : World) (w0 : (Lit.int .i64 a0).wf = true) (w1 : (Lit.int .i64 a1).wf = true) :
    Calls Try.prog 10 #[.int .i64 a0, .int .i64 a1] w fun e w' => e = .returned (.bool true) ∧ Below w.heap.size w w' := by
  obtain ⟨k, h⟩ := P a0 a1 w0 w1
  refine (peristylelaw02_VintApart.calls k a0 a1 true w h).mono ?_
  rintro e w' ⟨rfl, hd⟩
  exact ⟨rfl, hd⟩

/-! ### plain_PutInts: function 31 -/
mutual
def plain_PutInts.l0 : Nat → List Int → List Int → Int → Int → Option (ByteArray)
  | 0, _, _, _, _ => none
  | k + 1, x3, x11, x12, x13 => if x13 < x12 then (if 0 ≤ x13 then (if x13 < (x11.length : Int) then (plain_PutInts.l1 k x3 (IntKind.u64.wrap (rd x11 x13)) x11 x12 x13 0) else (none)) else (none)) else (some (strOfNums x3))
def plain_PutInts.l1 : Nat → List Int → Int → List Int → Int → Int → Int → Option (ByteArray)
  | 0, _, _, _, _, _, _ => none
  | k + 1, x3, x6, x11, x12, x13, x19 => if x19 < 8 then (if x3.length < 140737488355328 then (plain_PutInts.l1 k (x3 ++ [(x6) % 256]) (x6 / 256) x11 x12 x13 (wrap64 (x19 + 1))) else (none)) else (plain_PutInts.l0 k x3 x11 x12 (wrap64 (x13 + 1)))
end
def plain_PutInts.f (k : Nat) (l0 : List Int) : Option (ByteArray) := if 0 ≤ (wrap64 (8 * (l0.length : Int))) then (if ((wrap64 (8 * (l0.length : Int))) : Int).toNat ≤ 281474976710656 then (plain_PutInts.l0 k (([] : List Int)) l0 (l0.length : Int) 0) else (none)) else (none)
theorem plain_PutInts.mono_l : ∀ k, (∀ y0 y1 y2 y3, LeO (plain_PutInts.l0 k y0 y1 y2 y3) (plain_PutInts.l0 (k + 1) y0 y1 y2 y3)) ∧ (∀ y0 y1 y2 y3 y4 y5, LeO (plain_PutInts.l1 k y0 y1 y2 y3 y4 y5) (plain_PutInts.l1 (k + 1) y0 y1 y2 y3 y4 y5))
  | 0 => ⟨fun _ _ _ _ r h => by simp [plain_PutInts.l0] at h, fun _ _ _ _ _ _ r h => by simp [plain_PutInts.l1] at h⟩
  | k + 1 => by
    obtain ⟨ih0, ih1⟩ := plain_PutInts.mono_l k
    refine ⟨?_, ?_⟩
    · intro y0 y1 y2 y3
      unfold plain_PutInts.l0
      repeat' first
      | (with_reducible exact ih0 _ _ _ _)
      | (with_reducible exact ih1 _ _ _ _ _ _)
      | (with_reducible exact LeO.refl _)
      | (with_reducible exact LeO.none _)
      | (with_reducible refine LeO.ite ?_ ?_)
      | (with_reducible refine LeO.bind ?_ (fun _ => ?_))
      | exact ih0 _ _ _ _
      | exact ih1 _ _ _ _ _ _
      | exact LeO.none _
      | refine LeO.ite ?_ ?_
      | refine LeO.bind ?_ (fun _ => ?_)
    · intro y0 y1 y2 y3 y4 y5
      unfold plain_PutInts.l1
      repeat' first
      | (with_reducible exact ih0 _ _ _ _)
      | (with_reducible exact ih1 _ _ _ _ _ _)
      | (with_reducible exact LeO.refl _)
      | (with_reducible exact LeO.none _)
      | (with_reducible refine LeO.ite ?_ ?_)
      | (with_reducible refine LeO.bind ?_ (fun _ => ?_))
      | exact ih0 _ _ _ _
      | exact ih1 _ _ _ _ _ _
      | exact LeO.none _
      | refine LeO.ite ?_ ?_
      | refine LeO.bind ?_ (fun _ => ?_)
theorem plain_PutInts.mono : ∀ a0 k, LeO (plain_PutInts.f k a0) (plain_PutInts.f (k + 1) a0) := by
  intro a0 k
  obtain ⟨ih0, ih1⟩ := plain_PutInts.mono_l k
  unfold plain_PutInts.f
  repeat' first
      | (with_reducible exact ih0 _ _ _ _)
      | (with_reducible exact ih1 _ _ _ _ _ _)
      | (with_reducible exact LeO.refl _)
      | (with_reducible exact LeO.none _)
      | (with_reducible refine LeO.ite ?_ ?_)
      | (with_reducible refine LeO.bind ?_ (fun _ => ?_))
      | exact ih0 _ _ _ _
      | exact ih1 _ _ _ _ _ _
      | exact LeO.none _
      | refine LeO.ite ?_ ?_
      | refine LeO.bind ?_ (fun _ => ?_)
set_option maxHeartbeats 8000000 in
set_option maxRecDepth 100000 in
theorem plain_PutInts.calls (k : Nat) (A0 : Option Addr) (c0 : Nat) (l0 : List Int) (r : ByteArray) (w : World) (hr0 : Kd.C (Kd.int .i64) w A0 l0.length l0) (hc0 : l0.length ≤ c0) (h : plain_PutInts.f k l0 = some r) :
    Calls Try.prog 31 #[.slice A0 l0.length c0] w fun e w' => e = .returned (.string r) ∧ Below w.heap.size w w' := by
  have HR0 := Aside0.mk hr0
  have HC0 := Aside0.mk hc0
  clear hr0 hc0
  have HB := Aside0.mk (Below.refl w.heap.size w)
  have H : (if 0 ≤ (wrap64 (8 * (l0.length : Int))) then (if ((wrap64 (8 * (l0.length : Int))) : Int).toNat ≤ 281474976710656 then (plain_PutInts.l0 k (([] : List Int)) l0 (l0.length : Int) 0) else (none)) else (none)) = some r := h
  clear h
  obtain ⟨ji2, hji2⟩ : ∃ j_ : Int, (wrap64 (8 * (l0.length : Int))) = j_ := ⟨_, rfl⟩
  replace H : (if 0 ≤ (ji2) then (if ((ji2) : Int).toNat ≤ 281474976710656 then (plain_PutInts.l0 k (([] : List Int)) l0 (l0.length : Int) 0) else (none)) else (none)) = some r := by first | (rw [hji2] at H; exact H) | (simp only [hji2] at H ⊢; exact H)
  have hji2w : (IntKind.i64.wrap (8 * (l0.length : Int))) = ji2 := (i64_w _).trans hji2
  by_cases c3 : 0 ≤ (ji2)
  · rw [if_pos c3] at H
    have c3b0 := eq_true c3
    have c3b1 : decide (0 ≤ (ji2)) = true := decide_eq_true c3
    clear c3
    by_cases c4 : ((ji2) : Int).toNat ≤ 281474976710656
    · rw [if_pos c4] at H
      have c4b0 := eq_true c4
      have c4b1 : decide (((ji2) : Int).toNat ≤ 281474976710656) = true := decide_eq_true c4
      clear c4
      obtain ⟨y216, hy216⟩ : ∃ y_ : List Int, y_ = (([] : List Int)) := ⟨_, rfl⟩
      replace H : (plain_PutInts.l0 k y216 l0 (l0.length : Int) 0) = some r := by first | (rw [hy216]; with_reducible exact H) | (have H2_ := (Option.bind_some _ _).symm.trans H; rw [hy216]; with_reducible exact H2_) | (have H2_ := (Option.bind_some _ _).symm.trans H; with_reducible exact H2_) | with_reducible exact H | (rw [hy216]; exact H) | exact H
      have Ny216 := Aside0.mk hy216
      clear hy216
      have H' := Aside0.mk H
      clear H
      go_enter Try.func31, Try.ntmps31
      go_wp2_with (first | ((with_reducible refine gate_dst (N := 10) rfl ?_); refine MyWords.R_make0 (Kd.int .u8) _ 5 rfl (N := 10) rfl 31 _ _ rfl ji2 rfl rfl Try.underlying31 (.int .u8 0) 1 info5 rfl (by decide) (ok := fun _ => True) (okp := fun _ => True) (fun _ hk => hk) trivial (of_decide_eq_true (by first | (with_reducible assumption) | assumption)) (Nat.le_trans (Nat.mul_le_mul_right _ (of_decide_eq_true (by first | (with_reducible assumption) | assumption) : (ji2 : Int).toNat ≤ 281474976710656)) (by omega)) (Below.refl _ _) (Nat.le_refl _) ?_; intro v217 w5 ho6 hb hg_ hnew_; clear hg_ hnew_; (first | rw [← Ny216.out] at ho6 | (simp only [Int.reduceToNat] at ho6; rw [← Ny216.out] at ho6)); have n0_ := Aside0.mk (Kd.R_lower ho6 (below_size (by repeat (first | (with_reducible first | exact HB.out | apply below_alloc | apply pw_below_drewN | apply below_drew1) | exact HB.out)))); have n1_ := Aside0.mk (below_step (by repeat (first | (with_reducible first | exact HB.out | apply below_alloc | apply pw_below_drewN | apply below_drew1) | exact HB.out)) hb); clear HB; have HO218 := n0_; have HB := n1_; clear n0_ n1_; clear hb ho6))
      go_loopg [3, 13] k (fun kq v3 v13 w' => ∃ (x3_1 : List Int) (x13_1 : Int), v13 = .int .i64 x13_1 ∧ Aside0 (plain_PutInts.l0 kq x3_1 l0 (l0.length : Int) x13_1 = some r) ∧ Aside0 (kq ≤ k) ∧ Aside0 (Kd.R (Kd.int .u8) 5 w' w.heap.size (fun _ => True) v3 x3_1) ∧ Aside0 (Below w.heap.size w w'))
      case atStart => exact ⟨(y216), (0), (by first | rfl | (simp; done) | (simp [*]; done)), H', ⟨Nat.le_refl _⟩, ⟨by (with_reducible repeat (first | apply Kd.R_alloc | apply Kd.R_drewN | apply Kd.R_drew)); exact HO218.out⟩, ⟨by repeat (first | (with_reducible first | exact HB.out | apply below_alloc | apply pw_below_drewN | apply below_drew1) | exact HB.out)⟩⟩
      case round =>
        clear H'
        try clear p2
        try clear c3
        try clear c3b0
        try clear c3b1
        try clear c4
        try clear c4b0
        try clear c4b1
        try clear p6
        obtain ⟨x3_1, x13_1, rfl, HA, HK1, HO_3, HB⟩ := hrel
        cases gk with
        | zero => exact absurd HA.out (by simp [plain_PutInts.l0])
        | succ k1 =>
          have H := HA.out
          clear HA
          simp only [plain_PutInts.l0] at H
          by_cases c7 : x13_1 < (l0.length : Int)
          · rw [if_pos c7] at H
            have c7b0 : decide (x13_1 < (l0.length : Int)) = true := decide_eq_true c7
            clear c7
            by_cases c8 : 0 ≤ x13_1
            · rw [if_pos c8] at H
              have c8b0 : decide (0 ≤ x13_1) = true := decide_eq_true c8
              clear c8
              by_cases c9 : x13_1 < (l0.length : Int)
              · rw [if_pos c9] at H
                have c9b0 : decide (x13_1 < (l0.length : Int)) = true := decide_eq_true c9
                clear c9
                have H' := Aside0.mk H
                clear H
                have p219 : 0 ≤ (x13_1 : Int) := of_decide_eq_true (by first | (with_reducible assumption) | assumption)
                have q219 : x13_1 < (l0.length : Int) := of_decide_eq_true (by first | (with_reducible assumption) | assumption)
                obtain ⟨ad219, e219, hx219_0⟩ := Kd.at_int HR0.out x13_1 p219 q219
                cases e219
                replace hx219_0 := (HB.out.cell (World.block_lt_of_cell? w _ hx219_0)).trans hx219_0
                replace p219 := eq_true p219
                replace q219 := eq_true q219
                go_wp2
                go_loopg [3, 6, 19] k1 (fun kq v3 v6 v19 w' => ∃ (x3_2 : List Int) (x6_2 : Int) (x19_2 : Int), v6 = .int .u64 x6_2 ∧ v19 = .int .i64 x19_2 ∧ Aside0 (plain_PutInts.l1 kq x3_2 x6_2 l0 (l0.length : Int) x13_1 x19_2 = some r) ∧ Aside0 (kq ≤ k1) ∧ Aside0 (Kd.R (Kd.int .u8) 5 w' w.heap.size (fun _ => True) v3 x3_2) ∧ Aside0 (Below w.heap.size w w'))
                case atStart => exact ⟨(x3_1), (IntKind.u64.wrap (rd l0 x13_1)), (0), (by first | rfl | (simp; done) | (simp [*]; done)), (by first | rfl | (simp; done) | (simp [*]; done)), H', ⟨Nat.le_refl _⟩, ⟨by (with_reducible repeat (first | apply Kd.R_alloc | apply Kd.R_drewN | apply Kd.R_drew)); exact HO_3.out⟩, ⟨by repeat (first | (with_reducible first | exact HB.out | apply below_alloc | apply pw_below_drewN | apply below_drew1) | exact HB.out)⟩⟩
                case round =>
                  clear H'
                  try clear p2
                  try clear q2
                  try clear hx2
                  try clear c3
                  try clear c3b0
                  try clear c3b1
                  try clear c4
                  try clear c4b0
                  try clear c4b1
                  try clear p6
                  try clear c7
                  try clear c7b0
                  try clear c8
                  try clear c8b0
                  try clear c9
                  try clear c9b0
                  try clear hx219_0
                  try clear p2
                  try clear p219
                  try clear p6
                  try clear q219
                  obtain ⟨x3_2, x6_2, x19_2, rfl, rfl, HA, HK2, HO_3, HB⟩ := hrel
                  cases gk with
                  | zero => exact absurd HA.out (by simp [plain_PutInts.l1])
                  | succ k2 =>
                    have H := HA.out
                    clear HA
                    simp only [plain_PutInts.l1] at H
                    by_cases c10 : x19_2 < 8
                    · rw [if_pos c10] at H
                      have c10b0 : decide (x19_2 < 8) = true := decide_eq_true c10
                      clear c10
                      by_cases c11 : x3_2.length < 140737488355328
                      · rw [if_pos c11] at H
                        have LMc11 := Aside0.mk c11
                        clear c11
                        obtain ⟨y220, hy220⟩ : ∃ y_ : List Int, y_ = (x3_2 ++ [(x6_2) % 256]) := ⟨_, rfl⟩
                        replace H : (plain_PutInts.l1 k2 y220 (x6_2 / 256) l0 (l0.length : Int) x13_1 (wrap64 (x19_2 + 1))) = some r := by first | (rw [hy220]; with_reducible exact H) | (have H2_ := (Option.bind_some _ _).symm.trans H; rw [hy220]; with_reducible exact H2_) | (have H2_ := (Option.bind_some _ _).symm.trans H; with_reducible exact H2_) | with_reducible exact H | (rw [hy220]; exact H) | exact H
                        have Ny220 := Aside0.mk hy220
                        clear hy220
                        have H' := Aside0.mk H
                        clear H
                        go_wp2_with (first | ((with_reducible refine gate_builtin (b := .append) (xs := #[.tmp 21, .tmp 24]) rfl ?_); at_builtin; refine Kd.R_append (Kd.int .u8) (w0 := w) w.heap.size rfl (.tmp 21) (.tmp 24) 31 5 (.int .u8 0) 1 rfl Try.underlying31 info5 rfl (by decide) (by omega) u3 x3_2 ((x6_2) % 256) [.int .u8 ((x6_2) % 256)] (fun _ => True) (fun _ => False) rfl rfl ?aP (fun _ hk => hk.elim) ?aF ?aO ?aB ?aS ?aL ?_; (case aP => exact rfl); (case aB => exact (by repeat (first | (with_reducible first | exact HB.out | apply below_alloc | apply pw_below_drewN | apply below_drew1) | exact HB.out))); (case aF => exact (fun _ _ => trivial)); (case aO => exact (by (with_reducible repeat (first | apply Kd.R_alloc | apply Kd.R_drewN | apply Kd.R_drew)); exact HO_3.out)); (case aS => exact (below_size (by repeat (first | (with_reducible first | exact HB.out | apply below_alloc | apply pw_below_drewN | apply below_drew1) | exact HB.out)))); (case aL => have := LMc11.out; omega); intro v221 w12 ho hb hg hat; rw [← Ny220.out] at ho; have n0_ := Aside0.mk (hb); have n1_ := Aside0.mk (ho); clear HB; clear HO_3; have HB := n0_; have HO222 := n1_; clear n0_ n1_; clear ho hb hg hat))
                        go_roundg k2
                        case measure => have := HK1.out; have := HK2.out; omega
                        case rel => exact ⟨(y220), (x6_2 / 256), (wrap64 (x19_2 + 1)), (by first | rfl | (simp; done) | (simp [*]; done)), (by first | rfl | (simp; done) | (simp [*]; done)), H', ⟨by have := HK1.out; have := HK2.out; omega⟩, ⟨by (with_reducible repeat (first | apply Kd.R_alloc | apply Kd.R_drewN | apply Kd.R_drew)); exact HO222.out⟩, ⟨by repeat (first | (with_reducible first | exact HB.out | apply below_alloc | apply pw_below_drewN | apply below_drew1) | exact HB.out)⟩⟩
                      · rw [if_neg c11] at H
                        exact absurd H (by simp)
                    · rw [if_neg c10] at H
                      have c10b0 : decide (x19_2 < 8) = false := decide_eq_false c10
                      clear c10
                      have H' := Aside0.mk H
                      clear H
                      go_wp2
                      go_roundg k2
                      case measure => have := HK1.out; have := HK2.out; omega
                      case rel => exact ⟨(x3_2), (wrap64 (x13_1 + 1)), (by first | rfl | (simp; done) | (simp [*]; done)), H', ⟨by have := HK1.out; have := HK2.out; omega⟩, ⟨by (with_reducible repeat (first | apply Kd.R_alloc | apply Kd.R_drewN | apply Kd.R_drew)); exact HO_3.out⟩, ⟨by repeat (first | (with_reducible first | exact HB.out | apply below_alloc | apply pw_below_drewN | apply below_drew1) | exact HB.out)⟩⟩
              · rw [if_neg c9] at H
                exact absurd H (by simp)
            · rw [if_neg c8] at H
              exact absurd H (by simp)
          · rw [if_neg c7] at H
            have c7b0 : decide (x13_1 < (l0.length : Int)) = false := decide_eq_false c7
            clear c7
            obtain rfl := Option.some.inj H
            have hcv13 := own_string (P := Try.prog) Try.underlying31 Try.underlying5 Try.underlying9 (Kd.own_of_R HO_3.out)
            go_wp2
            go_ret
            exact ⟨by first | rfl | (simp [errW_none, errW_some] <;> rfl) | (simp only [← hji2]; first | rfl | (simp [errW_none, errW_some] <;> rfl)) | (simp [*, errW_none, errW_some] <;> rfl), by repeat (first | (with_reducible first | exact HB.out | apply below_alloc | apply pw_below_drewN | apply below_drew1) | exact HB.out)⟩
    · rw [if_neg c4] at H
      exact absurd H (by simp)
  · rw [if_neg c3] at H
    exact absurd H (by simp)

end Go.Proofs.Ytgjclhhjigflkaa.M
