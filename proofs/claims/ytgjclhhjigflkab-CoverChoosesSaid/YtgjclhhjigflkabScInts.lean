/- slices.Index and Contains over whole numbers: what the printed ones come to. -/
import Derived.Test.YtgjclhhjigflkabScPlain
import Derived.Test.YtgjclhhjigflkabPlainEv
import Derived.Test.YtgjclhhjigflkabCx1
namespace Go.Proofs.Ytgjclhhjigflkab.Sc
open Go Go.RowKit Go.Proofs.Ytgjclhhjigflkab.C Go.Proofs.Ytgjclhhjigflkab.Hand Go.Proofs.Ytgjclhhjigflkab.EvW Go.Proofs.YtgjclhhjigflkabW.PrintWords
set_option linter.unusedVariables false
set_option linter.unusedSimpArgs false
theorem w64 (i : Nat) (h : i ≤ 100000000) : wrap64 ((i : Int) + 1) = ((i + 1 : Nat) : Int) := by unfold wrap64; omega
theorem rd_at (l : List Int) (i : Nat) (h : i < l.length) : rd l (i : Int) = l[i] := by
  unfold rd
  rw [Int.toNat_natCast, List.getD_eq_getElem?_getD, List.getElem?_eq_getElem h]
  rfl
def idxI (l : List Int) (x : Int) : Int := idxF (fun y => decide (x = y)) l 0
theorem idx_l0 (l : List Int) (hl : l.length ≤ 1000000) (x : Int) : ∀ (d i : Nat), i + d = l.length → Ev (fun k => slices_Index_int_int.l0 k l x (l.length : Int) (i : Int)) (idxF (fun y => decide (x = y)) (l.drop i) i) := by
  intro d
  induction d with
  | zero =>
    intro i hi
    refine Ev.step (f := fun _ => some (-1)) (fun k => ?_) ?_
    · rw [slices_Index_int_int.l0, if_neg (by omega)]
    · rw [List.drop_of_length_le (by omega)]
      exact Ev.now _
  | succ d ih =>
    intro i hi
    have hlt : i < l.length := by omega
    rw [idxF_drop _ l i hlt]
    by_cases he : x = l[i]
    · rw [if_pos (by simpa using he)]
      refine Ev.step (f := fun _ => some (i : Int)) (fun k => ?_) (Ev.now _)
      rw [slices_Index_int_int.l0, if_pos (by omega), if_pos (by omega), if_pos (by omega), rd_at l i hlt, if_pos he]
    · rw [if_neg (by simpa using he)]
      refine Ev.step (f := fun k => slices_Index_int_int.l0 k l x (l.length : Int) ((i + 1 : Nat) : Int)) (fun k => ?_) (ih (i + 1) (by omega))
      rw [slices_Index_int_int.l0, if_pos (by omega), if_pos (by omega), if_pos (by omega), rd_at l i hlt, if_neg he, w64 i (by omega)]
theorem idx_ev (l : List Int) (hl : l.length ≤ 1000000) (x : Int) : Ev (fun k => slices_Index_int_int.f k l x) (idxI l x) := by
  have := idx_l0 l hl x l.length 0 (Nat.zero_add _)
  rw [List.drop_zero] at this
  exact this
theorem idxI_has (l : List Int) (x : Int) : decide (idxI l x ≥ 0) = decide (x ∈ l) := by
  unfold idxI
  rcases idxF_range (fun y => decide (x = y)) l 0 with ⟨h1, h2⟩ | ⟨i, hi, h1, h2, h3⟩
  · rw [h1]
    have : ¬ x ∈ l := fun h => by have := h2 x h; simp at this
    rw [decide_eq_false this]
    rfl
  · rw [h1]
    have : x ∈ l := by
      have h4 : x = l[i] := by simpa using h2
      rw [h4]
      exact List.getElem_mem hi
    rw [decide_eq_true this, decide_eq_true (by omega)]
theorem has_ev (l : List Int) (hl : l.length ≤ 1000000) (x : Int) : Ev (fun k => slices_Contains_int_int.f k l x) (decide (x ∈ l)) := by
  unfold slices_Contains_int_int.f
  rw [← idxI_has]
  exact Ev.bind (idx_ev l hl x) (Ev.now _)
end Go.Proofs.Ytgjclhhjigflkab.Sc
