/- The walks of a device's small calls: given, has, Size, Off, Fuse, does. -/
import Derived.Test.YtgjclhhjigflkabProg
import Derived.Test.YtgjclhhjigflkabDevKinds
import Derived.Outline
namespace Go.Proofs.Ytgjclhhjigflkab.Dev
open Go Go.RowKit Go.Proofs.Ytgjclhhjigflkab.MyWords Go.Proofs.YtgjclhhjigflkabW.PrintWords Go.Proofs.YtgjclhhjigflkabW.PrintLast Go.Proofs.YtgjclhhjigflkabW.PrintMore
set_option linter.unusedVariables false
set_option linter.unusedSimpArgs false
/-- a device, opened -/
structure Op (w : World) (base : Nat) (ok : Nat → Prop) (g : Nat) (D : DS) (s c : Nat) (A : Option Addr) (c1 : Nat) : Prop where
  okg : ok g
  bg : base ≤ g
  good : Ok D
  blk : w.heap[g]? = some (.cells #[.slice (some ⟨s, 0, none⟩) D.sure.length c, .slice A D.wait.length c1, .int .i64 D.fuse, .bool D.off] TD (0, 0))
  sure : kB.R TB w base ok (.slice (some ⟨s, 0, none⟩) D.sure.length c) D.sure
  wait : kW.R TW w base ok (.slice A D.wait.length c1) D.wait
section
variable {w w1 : World} {base g s c c1 : Nat} {ok ok' : Nat → Prop} {D : DS} {A : Option Addr}
theorem Dev.open_ (h : Dev w base ok g D) : ∃ s c A c1, Op w base ok g D s c A c1 := by
  obtain ⟨h1, h2, h3, v0, v1, hg, r0, r1⟩ := h
  obtain ⟨s, c, rfl, _⟩ := Kd.R_form r0 h3.pos
  obtain ⟨A, c1, rfl⟩ := Kd.R_slice r1
  exact ⟨s, c, A, c1, h1, h2, h3, hg, r0, r1⟩
theorem Op.dev (h : Op w base ok g D s c A c1) : Dev w base ok g D := ⟨h.okg, h.bg, h.good, _, _, h.blk, h.sure, h.wait⟩
theorem Op.cell0 (h : Op w base ok g D s c A c1) : w.cell? ⟨g, 0, none⟩ = some (.slice (some ⟨s, 0, none⟩) D.sure.length c) := (cell_of_row w g 0 _ _ _ h.blk).trans rfl
theorem Op.cell1 (h : Op w base ok g D s c A c1) : w.cell? ⟨g, 1, none⟩ = some (.slice A D.wait.length c1) := (cell_of_row w g 1 _ _ _ h.blk).trans rfl
theorem Op.cell2 (h : Op w base ok g D s c A c1) : w.cell? ⟨g, 2, none⟩ = some (.int .i64 D.fuse) := (cell_of_row w g 2 _ _ _ h.blk).trans rfl
theorem Op.cell3 (h : Op w base ok g D s c A c1) : w.cell? ⟨g, 3, none⟩ = some (.bool D.off) := (cell_of_row w g 3 _ _ _ h.blk).trans rfl
theorem Op.froz (h : Op w base ok g D s c A c1) (j : Nat) : w.frozen? ⟨g, j, none⟩ = false := frozen_of_row w g j _ _ h.blk
/-- a field is written: the fuse -/
theorem Op.set2 (h : Op w base ok g D s c A c1) (n : Int) (hD : Ok ⟨D.sure, D.wait, n, D.off⟩) : Op (w.setCell ⟨g, 2, none⟩ (.int .i64 n)) base ok g ⟨D.sure, D.wait, n, D.off⟩ s c A c1 :=
  ⟨h.okg, h.bg, hD, (heap_setCell_same w g 2 _ _ _ h.blk).trans rfl, Kd.R_set h.sure h.blk (by intro q hq; simp [kB] at hq; subst hq; decide) 2 _, Kd.R_set h.wait h.blk (by intro q hq; simp [kW] at hq; subst hq; decide) 2 _⟩
/-- .. the switch -/
theorem Op.set3 (h : Op w base ok g D s c A c1) (b : Bool) (hD : Ok ⟨D.sure, D.wait, D.fuse, b⟩) : Op (w.setCell ⟨g, 3, none⟩ (.bool b)) base ok g ⟨D.sure, D.wait, D.fuse, b⟩ s c A c1 :=
  ⟨h.okg, h.bg, hD, (heap_setCell_same w g 3 _ _ _ h.blk).trans rfl, Kd.R_set h.sure h.blk (by intro q hq; simp [kB] at hq; subst hq; decide) 3 _, Kd.R_set h.wait h.blk (by intro q hq; simp [kW] at hq; subst hq; decide) 3 _⟩
end
/-! given -/
theorem given_yes (g s n c : Nat) (w : World) (hc : w.cell? ⟨g, 0, none⟩ = some (.slice (some ⟨s, 0, none⟩) n c)) (hn : 0 < n) :
    Calls Try.prog 62 #[.pointer (some ⟨g, 0, none⟩)] w fun e w' => e = .returned (.bool true) ∧ w = w' := by
  go_enter Try.func62, Try.ntmps62
  go_wp2
  go_ret
  exact ⟨rfl, rfl⟩
theorem given_nil (w : World) :
    Calls Try.prog 62 #[.pointer none] w fun e w' => e = .returned (.bool false) ∧ w = w' := by
  go_enter Try.func62, Try.ntmps62
  go_wp2
  go_ret
  exact ⟨rfl, rfl⟩
theorem given_no (g : Nat) (w : World) (hc : w.cell? ⟨g, 0, none⟩ = some (.slice none 0 0)) :
    Calls Try.prog 62 #[.pointer (some ⟨g, 0, none⟩)] w fun e w' => e = .returned (.bool false) ∧ w = w' := by
  go_enter Try.func62, Try.ntmps62
  go_wp2
  go_ret
  exact ⟨rfl, rfl⟩
/-! has -/
theorem has_some (g s n c : Nat) (a : Int) (b : Bool) (w : World) (hc : w.cell? ⟨g, 0, none⟩ = some (.slice (some ⟨s, 0, none⟩) n c)) (hn : 0 < n) (hb : decide (0 ≤ a ∧ a < (n : Int)) = b) :
    Calls Try.prog 64 #[.pointer (some ⟨g, 0, none⟩), .int .i64 a] w fun e w' => e = .returned (.bool b) ∧ w = w' := by
  subst hb
  by_cases h0 : 0 ≤ a
  · by_cases h1 : a < (n : Int)
    · go_enter Try.func64, Try.ntmps64
      go_wp2_with (first | (go_at_call 62; refine (given_yes g s n c _ hc hn).mono ?_; rintro e w' ⟨rfl, rfl⟩))
      go_ret
      exact ⟨by simp [h0, h1], rfl⟩
    · have h2 : decide (a < (n : Int)) = false := decide_eq_false h1
      go_enter Try.func64, Try.ntmps64
      go_wp2_with (first | (go_at_call 62; refine (given_yes g s n c _ hc hn).mono ?_; rintro e w' ⟨rfl, rfl⟩))
      go_ret
      exact ⟨by simp [h0, h1], rfl⟩
  · have h2 : decide (0 ≤ a) = false := decide_eq_false h0
    go_enter Try.func64, Try.ntmps64
    go_wp2_with (first | (go_at_call 62; refine (given_yes g s n c _ hc hn).mono ?_; rintro e w' ⟨rfl, rfl⟩))
    go_ret
    exact ⟨by rw [decide_eq_false (show ¬ (0 ≤ a ∧ a < (n : Int)) by omega)]; rfl, rfl⟩
theorem has_nil (a : Int) (w : World) :
    Calls Try.prog 64 #[.pointer none, .int .i64 a] w fun e w' => e = .returned (.bool false) ∧ w = w' := by
  go_enter Try.func64, Try.ntmps64
  go_wp2_with (first | (go_at_call 62; refine (given_nil _).mono ?_; rintro e w' ⟨rfl, rfl⟩))
  go_ret
  exact ⟨rfl, rfl⟩
theorem has_no (g : Nat) (a : Int) (w : World) (hc : w.cell? ⟨g, 0, none⟩ = some (.slice none 0 0)) :
    Calls Try.prog 64 #[.pointer (some ⟨g, 0, none⟩), .int .i64 a] w fun e w' => e = .returned (.bool false) ∧ w = w' := by
  go_enter Try.func64, Try.ntmps64
  go_wp2_with (first | (go_at_call 62; refine (given_no g _ hc).mono ?_; rintro e w' ⟨rfl, rfl⟩))
  go_ret
  exact ⟨rfl, rfl⟩
/-! Size, Off -/
theorem size_calls {base : Nat} {ok : Nat → Prop} {g : Nat} {D : DS} {w : World} (H : Dev w base ok g D) :
    Calls Try.prog 28 #[.pointer (some ⟨g, 0, none⟩)] w fun e w' => e = .returned (.int .i64 (D.sure.length : Int)) ∧ w = w' := by
  obtain ⟨s, c, A, c1, h⟩ := H.open_
  have hc := h.cell0
  have hn := h.good.pos
  clear H h
  go_enter Try.func28, Try.ntmps28
  go_wp2_with (first | (go_at_call 62; refine (given_yes g s _ c _ hc hn).mono ?_; rintro e w' ⟨rfl, rfl⟩))
  go_ret
  exact ⟨rfl, rfl⟩
theorem off_calls {base : Nat} {ok : Nat → Prop} {g : Nat} {D : DS} {w : World} (H : Dev w base ok g D) :
    Calls Try.prog 20 #[.pointer (some ⟨g, 0, none⟩)] w fun e w' => e = .returned (.bool D.off) ∧ w = w' := by
  obtain ⟨s, c, A, c1, h⟩ := H.open_
  have hc := h.cell0
  have hc3 := h.cell3
  have hn := h.good.pos
  clear H h
  go_enter Try.func20, Try.ntmps20
  go_wp2_with (first | (go_at_call 62; refine (given_yes g s _ c _ hc hn).mono ?_; rintro e w' ⟨rfl, rfl⟩))
  go_ret
  exact ⟨rfl, rfl⟩
/-! Fuse -/
theorem fuse_calls {base : Nat} {ok : Nat → Prop} {g : Nat} {D : DS} {w : World} (n : Int) (hn64 : n ≤ 9223372036854775807) (H : Dev w base ok g D) :
    Calls Try.prog 16 #[.pointer (some ⟨g, 0, none⟩), .int .i64 n] w fun e w' => e = .returned (.int .i64 0) ∧ Dev w' base ok g (fuseD D n) ∧ Chg w w' ok := by
  obtain ⟨s, c, A, c1, h⟩ := H.open_
  have hc := h.cell0
  have hc2 := h.cell2
  have hf2 := h.froz 2
  have hn := h.good.pos
  have HH := Aside0.mk h
  clear H h
  by_cases hlt : n < -1
  · go_enter Try.func16, Try.ntmps16
    go_wp2_with (first | (go_at_call 62; refine (given_yes g s _ c _ hc hn).mono ?_; rintro e w' ⟨rfl, rfl⟩))
    go_ret
    have hD := fuse_ok HH.out.good n hn64
    unfold fuseD at hD ⊢
    rw [if_pos (show n < -1 by omega)] at hD ⊢
    exact ⟨rfl, (HH.out.set2 (-1) hD).dev, Chg.setCell w g 2 _ HH.out.okg⟩
  · go_enter Try.func16, Try.ntmps16
    go_wp2_with (first | (go_at_call 62; refine (given_yes g s _ c _ hc hn).mono ?_; rintro e w' ⟨rfl, rfl⟩))
    go_ret
    have hD := fuse_ok HH.out.good n hn64
    unfold fuseD at hD ⊢
    rw [if_neg (show ¬ n < -1 by omega)] at hD ⊢
    exact ⟨rfl, (HH.out.set2 n hD).dev, Chg.setCell w g 2 _ HH.out.okg⟩
/-! does -/
theorem does_calls {base : Nat} {ok : Nat → Prop} {g : Nat} {D : DS} {w : World} (H : Dev w base ok g D) :
    Calls Try.prog 63 #[.pointer (some ⟨g, 0, none⟩)] w fun e w' => e = .returned (.bool (doesD D).2) ∧ Dev w' base ok g (doesD D).1 ∧ Chg w w' ok := by
  obtain ⟨s, c, A, c1, h⟩ := H.open_
  have hc2 := h.cell2
  have hc3 := h.cell3
  have hf2 := h.froz 2
  have hf3 := h.froz 3
  have h0 := h.good.fuse0
  have h1 := h.good.fuse1
  have hok := does_ok h.good
  have HH := Aside0.mk h
  have HO := Aside0.mk hok
  clear H h hok
  obtain ⟨sure, wait, fuse, off⟩ := D
  simp only at hc2 hc3 h0 h1
  cases off with
  | true =>
    go_enter Try.func63, Try.ntmps63
    go_wp2
    go_ret
    exact ⟨rfl, HH.out.dev, Chg.refl _ _⟩
  | false =>
    by_cases hz : fuse = 0
    · subst hz
      go_enter Try.func63, Try.ntmps63
      go_wp2
      go_ret
      have hd1 : Ok (⟨sure, wait, 0, true⟩ : DS) := ⟨HH.out.good.pos, HH.out.good.most, HH.out.good.sz, HH.out.good.wsz, HH.out.good.wat, HH.out.good.fuse0, HH.out.good.fuse1⟩
      have hd2 : Ok (⟨sure, wait, -1, true⟩ : DS) := HO.out
      have H3 := HH.out.set3 true hd1
      exact ⟨rfl, (H3.set2 (-1) hd2).dev, (Chg.setCell w g 3 _ HH.out.okg).trans (Chg.setCell _ g 2 _ HH.out.okg)⟩
    · by_cases hp : 0 < fuse
      · have hz1 : (fuse == 0) = false := by simp [hz]
        have hd2 : Ok (⟨sure, wait, fuse - 1, false⟩ : DS) := by
          have := HO.out
          simpa [doesD, hz, hp] using this
        have HD2 := Aside0.mk hd2
        clear hd2
        go_enter Try.func63, Try.ntmps63
        go_wp2
        go_ret
        have he : doesD (⟨sure, wait, fuse, false⟩ : DS) = (⟨sure, wait, fuse - 1, false⟩, true) := by simp [doesD, hp]; omega
        rw [he]
        exact ⟨rfl, (HH.out.set2 (fuse - 1) HD2.out).dev, Chg.setCell w g 2 _ HH.out.okg⟩
      · have hz1 : (fuse == 0) = false := by simp [hz]
        have he : doesD (⟨sure, wait, fuse, false⟩ : DS) = (⟨sure, wait, fuse, false⟩, true) := by simp [doesD, hz, hp]
        have HE := Aside0.mk he
        clear he
        go_enter Try.func63, Try.ntmps63
        go_wp2
        go_ret
        rw [HE.out]
        exact ⟨rfl, HH.out.dev, Chg.refl _ _⟩
end Go.Proofs.Ytgjclhhjigflkab.Dev
