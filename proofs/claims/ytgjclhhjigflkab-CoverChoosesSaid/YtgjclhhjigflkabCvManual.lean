/- The contracts of cover's functions that are walked by hand, in the printer's form. -/
import Derived.Test.YtgjclhhjigflkabCvBetter
namespace Go.Proofs.Ytgjclhhjigflkab.C
open Go Go.RowKit Go.Proofs.Ytgjclhhjigflkab.Sc Go.Proofs.Ytgjclhhjigflkab.Hand Go.Proofs.YtgjclhhjigflkabW.PrintWords Go.Proofs.YtgjclhhjigflkabW.PrintLast Go.Proofs.YtgjclhhjigflkabW.PrintMore
set_option linter.unusedVariables false
set_option linter.unusedSimpArgs false
def gtB (t : Tab) : Bool := decide (t.f0.size ≤ 1000000) && decide (t.f1.length ≤ 1000000) && decide (t.f2.length ≤ 1000000) && t.f1.all (fun x => decide (x.f0.size ≤ 1000000)) && t.f2.all (fun x => decide (x.f0.size ≤ 1000000) && decide (x.f1.length ≤ 1000000))
theorem gtB_spec {t : Tab} (h : gtB t = true) : GT t := by
  unfold gtB at h
  simp only [Bool.and_eq_true, decide_eq_true_eq, List.all_eq_true] at h
  obtain ⟨⟨⟨⟨h1, h2⟩, h3⟩, h4⟩, h5⟩ := h
  exact ⟨by omega, h2, h3, fun x hx => by have := h4 x hx; omega, fun x hx => ⟨by have := (h5 x hx).1; omega, (h5 x hx).2⟩⟩
def peristyleref32_better.f (k : Nat) (a0_0 : ByteArray) (l0_1 : List Col) (l0_2 : List Prj) (a1 a2 : Int) (l3 : List Int) : Option Bool :=
  if (gtB ⟨a0_0, l0_1, l0_2⟩ && l0_2.all (fun q => decide (1 ≤ q.f1.length)) && decide (0 ≤ a1 ∧ a1 < l0_2.length ∧ 0 ≤ a2 ∧ a2 < l0_2.length ∧ l3.length ≤ 1000000)) = true then some (betterP (prj ⟨a0_0, l0_1, l0_2⟩ a1) (prj ⟨a0_0, l0_1, l0_2⟩ a2) l3) else none
theorem peristyleref32_better.calls (k : Nat) (a0_0 : ByteArray) (A0_1 : Option Addr) (c0_1 : Nat) (l0_1 : List Col) (A0_2 : Option Addr) (c0_2 : Nat) (l0_2 : List Prj) (a1 a2 : Int) (A3 : Option Addr) (c3 : Nat) (l3 : List Int) (r : Bool) (w : World) (hr0_1 : Kd.C kC w A0_1 l0_1.length l0_1) (hc0_1 : l0_1.length ≤ c0_1) (hr0_2 : Kd.C kP w A0_2 l0_2.length l0_2) (hc0_2 : l0_2.length ≤ c0_2) (hr3 : Kd.C (Kd.int .i64) w A3 l3.length l3) (hc3 : l3.length ≤ c3) (h : peristyleref32_better.f k a0_0 l0_1 l0_2 a1 a2 l3 = some r) :
    Calls Try.prog 84 #[.agg #[.string a0_0, .slice A0_1 l0_1.length c0_1, .slice A0_2 l0_2.length c0_2], .int .i64 a1, .int .i64 a2, .slice A3 l3.length c3] w fun e w' => e = .returned (.bool r) ∧ Below w.heap.size w w' := by
  unfold peristyleref32_better.f at h
  split at h
  case isFalse => cases h
  case isTrue hc =>
    simp only [Bool.and_eq_true, decide_eq_true_eq, List.all_eq_true] at hc
    obtain ⟨⟨hg, hq⟩, h1, h2, h3, h4, h5⟩ := hc
    injection h with h
    subst h
    obtain ⟨p, rfl⟩ := Int.eq_ofNat_of_zero_le h1
    obtain ⟨o, rfl⟩ := Int.eq_ofNat_of_zero_le h3
    have hp : p < l0_2.length := by omega
    have ho : o < l0_2.length := by omega
    have e1 : prj ⟨a0_0, l0_1, l0_2⟩ ((p : Nat) : Int) = l0_2[p] := prj_at ⟨a0_0, l0_1, l0_2⟩ p hp
    have e2 : prj ⟨a0_0, l0_1, l0_2⟩ ((o : Nat) : Int) = l0_2[o] := prj_at ⟨a0_0, l0_1, l0_2⟩ o ho
    rw [e1, e2]
    exact better_calls (t := ⟨a0_0, l0_1, l0_2⟩) ⟨hr0_1, hc0_1, hr0_2, hc0_2, gtB_spec hg⟩ p o hp ho (hq _ (List.getElem_mem hp)) (hq _ (List.getElem_mem ho)) l3 A3 c3 hr3 hc3 h5
def cover_Choose.f (k : Nat) (a0_0 : ByteArray) (l0_1 : List Col) (l0_2 : List Prj) (l1 l2 : List Int) (l3 : List ByteArray) : Option (Int × List Int × Int) :=
  if (gtB ⟨a0_0, l0_1, l0_2⟩ && decide (l1.length ≤ 1000000) && decide (l2.length ≤ 1000000) && decide (l3.length ≤ 1000000)) = true then some ((chooseP ⟨a0_0, l0_1, l0_2⟩ l1 l2 l3).2.1, (chooseP ⟨a0_0, l0_1, l0_2⟩ l1 l2 l3).2.2, (chooseP ⟨a0_0, l0_1, l0_2⟩ l1 l2 l3).1) else none
theorem cover_Choose.mono : ∀ a0 a1 a2 a3 a4 a5 k, LeO (cover_Choose.f k a0 a1 a2 a3 a4 a5) (cover_Choose.f (k + 1) a0 a1 a2 a3 a4 a5) := fun _ _ _ _ _ _ _ => LeO.refl _
theorem cover_Choose.calls (k : Nat) (a0_0 : ByteArray) (A0_1 : Option Addr) (c0_1 : Nat) (l0_1 : List Col) (A0_2 : Option Addr) (c0_2 : Nat) (l0_2 : List Prj) (A1 : Option Addr) (c1 : Nat) (l1 : List Int) (A2 : Option Addr) (c2 : Nat) (l2 : List Int) (A3 : Option Addr) (c3 : Nat) (l3 : List ByteArray) (r1 : Int) (r2 : List Int) (r3 : Int) (w : World) (hr0_1 : Kd.C kC w A0_1 l0_1.length l0_1) (hc0_1 : l0_1.length ≤ c0_1) (hr0_2 : Kd.C kP w A0_2 l0_2.length l0_2) (hc0_2 : l0_2.length ≤ c0_2) (hr1 : Kd.C (Kd.int .i64) w A1 l1.length l1) (hc1 : l1.length ≤ c1) (hr2 : Kd.C (Kd.int .i64) w A2 l2.length l2) (hc2 : l2.length ≤ c2) (hr3 : Kd.C Kd.string w A3 l3.length l3) (hc3 : l3.length ≤ c3) (h : cover_Choose.f k a0_0 l0_1 l0_2 l1 l2 l3 = some (r1, r2, r3)) :
    Calls Try.prog 32 #[.agg #[.string a0_0, .slice A0_1 l0_1.length c0_1, .slice A0_2 l0_2.length c0_2], .slice A1 l1.length c1, .slice A2 l2.length c2, .slice A3 l3.length c3] w fun e w' => ∃ v1_ : Value, e = .returned (.tuple #[.agg #[.int .i64 r1, v1_], .int .i64 r3]) ∧ Kd.R (Kd.int .i64) 3 w' w.heap.size (fun k_ => True) v1_ r2 ∧ Below w.heap.size w w' := by
  unfold cover_Choose.f at h
  split at h
  case isFalse => cases h
  case isTrue hc =>
    simp only [Bool.and_eq_true, decide_eq_true_eq] at hc
    obtain ⟨⟨⟨hg, h1⟩, h2⟩, h3⟩ := hc
    injection h with h
    injection h with e1 h
    injection h with e2 e3
    subst e1 e2 e3
    refine (choose_calls (t := ⟨a0_0, l0_1, l0_2⟩) ⟨hr0_1, hc0_1, hr0_2, hc0_2, gtB_spec hg⟩ l1 A1 c1 hr1 hc1 h1 l2 A2 c2 hr2 hc2 h2 l3 A3 c3 hr3 h3).mono ?_
    rintro e w' ⟨v, rfl, hR, hB⟩
    exact ⟨v, rfl, Kd.R_mono hR (fun _ _ => trivial), hB⟩
def cover_Check.f (k : Nat) (a0_0 : ByteArray) (l0_1 : List Col) (l0_2 : List Prj) (l1 : List Int) (a2_0 : Int) (l2_1 : List Int) : Option Int :=
  if (gtB ⟨a0_0, l0_1, l0_2⟩ && decide (l1.length ≤ 1000000) && decide (l2_1.length ≤ 1000000)) = true then some (covE ⟨a0_0, l0_1, l0_2⟩ l1 a2_0 l2_1) else none
theorem cover_Check.mono : ∀ a0 a1 a2 a3 a4 a5 k, LeO (cover_Check.f k a0 a1 a2 a3 a4 a5) (cover_Check.f (k + 1) a0 a1 a2 a3 a4 a5) := fun _ _ _ _ _ _ _ => LeO.refl _
theorem cover_Check.calls (k : Nat) (a0_0 : ByteArray) (A0_1 : Option Addr) (c0_1 : Nat) (l0_1 : List Col) (A0_2 : Option Addr) (c0_2 : Nat) (l0_2 : List Prj) (A1 : Option Addr) (c1 : Nat) (l1 : List Int) (a2_0 : Int) (A2_1 : Option Addr) (c2_1 : Nat) (l2_1 : List Int) (r : Int) (w : World) (hr0_1 : Kd.C kC w A0_1 l0_1.length l0_1) (hc0_1 : l0_1.length ≤ c0_1) (hr0_2 : Kd.C kP w A0_2 l0_2.length l0_2) (hc0_2 : l0_2.length ≤ c0_2) (hr1 : Kd.C (Kd.int .i64) w A1 l1.length l1) (hc1 : l1.length ≤ c1) (hr2_1 : Kd.C (Kd.int .i64) w A2_1 l2_1.length l2_1) (hc2_1 : l2_1.length ≤ c2_1) (h : cover_Check.f k a0_0 l0_1 l0_2 l1 a2_0 l2_1 = some r) :
    Calls Try.prog 36 #[.agg #[.string a0_0, .slice A0_1 l0_1.length c0_1, .slice A0_2 l0_2.length c0_2], .slice A1 l1.length c1, .agg #[.int .i64 a2_0, .slice A2_1 l2_1.length c2_1]] w fun e w' => e = .returned (.int .i64 r) ∧ Below w.heap.size w w' := by
  unfold cover_Check.f at h
  split at h
  case isFalse => cases h
  case isTrue hc =>
    simp only [Bool.and_eq_true, decide_eq_true_eq] at hc
    obtain ⟨⟨hg, h1⟩, h2⟩ := hc
    injection h with h
    subst h
    exact ccheck_calls (t := ⟨a0_0, l0_1, l0_2⟩) ⟨hr0_1, hc0_1, hr0_2, hc0_2, gtB_spec hg⟩ l1 A1 c1 hr1 hc1 h1 a2_0 l2_1 A2_1 c2_1 hr2_1 h2
end Go.Proofs.Ytgjclhhjigflkab.C
