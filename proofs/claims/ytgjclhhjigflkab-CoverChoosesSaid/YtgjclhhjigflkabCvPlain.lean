/- Covers, plain. -/
import Derived.Test.YtgjclhhjigflkabScInts
import Derived.Test.YtgjclhhjigflkabScMay
import Derived.Test.YtgjclhhjigflkabCx1
namespace Go.Proofs.Ytgjclhhjigflkab.Sc
open Go Go.RowKit Go.Proofs.Ytgjclhhjigflkab.C Go.Proofs.Ytgjclhhjigflkab.Hand Go.Proofs.Ytgjclhhjigflkab.EvW Go.Proofs.YtgjclhhjigflkabW.PrintWords
set_option linter.unusedVariables false
set_option linter.unusedSimpArgs false
theorem ba_len (s : ByteArray) : s.data.toList.length = s.size := by rw [Array.length_toList]; rfl
theorem ba_loop (bs : ByteArray) : ∀ (d i : Nat) (r : List UInt8), i + d = bs.size → ByteArray.toList.loop bs i r = r.reverse ++ (bs.data.toList.drop i) := by
  intro d
  induction d with
  | zero =>
    intro i r h
    rw [ByteArray.toList.loop, if_neg (by omega), List.drop_of_length_le (by rw [ba_len]; omega), List.append_nil]
  | succ d ih =>
    intro i r h
    have hi : i < bs.data.toList.length := by rw [ba_len]; omega
    rw [ByteArray.toList.loop, if_pos (by omega), ih (i + 1) _ (by omega), List.drop_eq_getElem_cons hi]
    have e : bs.get! i = bs.data.toList[i] := by
      have h2 : i < bs.data.size := by rw [ba_len] at hi; exact hi
      rw [Array.getElem_toList]
      unfold ByteArray.get!
      exact getElem!_pos bs.data i h2
    rw [e]
    simp
theorem ba_data (bs : ByteArray) : bs.toList = bs.data.toList := by
  unfold ByteArray.toList
  rw [ba_loop bs bs.size 0 [] (by omega)]
  rfl
theorem ba_inj {a b : ByteArray} (h : a.toList = b.toList) : a = b := by
  rw [ba_data, ba_data] at h
  exact ByteArray.ext (Array.ext' h)
def zP : Prj := ⟨ByteArray.empty, [], 0⟩
def prj (t : Tab) (p : Int) : Prj := t.f2.getD p.toNat zP
def placeP (t : Tab) (p col : Int) : Int := if p < 0 ∨ (t.f2.length : Int) ≤ p then -1 else idxI (prj t p).f1 col
def colsIn (t : Tab) (l : List Int) : Bool := l.all (inP t.f1.length)
def byName (n : ByteArray) (q : Prj) : Bool := q.f0.toList == n.toList
def usedStep (t : Tab) (out : List Int) (n : ByteArray) : List Int := if 0 ≤ idxF (byName n) t.f2 0 ∧ ¬ idxF (byName n) t.f2 0 ∈ out then out ++ [idxF (byName n) t.f2 0] else out
def usedP (t : Tab) (l : List ByteArray) : List Int := l.foldl (usedStep t) []
def sortedBy (t : Tab) (tested : List Int) (p : Int) : Bool := !decide ((prj t p).f2 = 0) && decide ((prj t p).f1.getD 0 0 ∈ tested)
def rankP (t : Tab) (tested : List Int) (p : Int) : Int := if sortedBy t tested p = true then (prj t p).f1.length else (prj t p).f1.length + 8
def lacks (t : Tab) (need : List Int) (p : Int) : Bool := need.any fun c => decide (placeP t p c < 0)
def bestStep (t : Tab) (need tested : List Int) (out : Int) (p : Nat) : Int := if lacks t need p = false ∧ (out < 0 ∨ rankP t tested p < rankP t tested out) then (p : Int) else out
def bestP (t : Tab) (need tested : List Int) : Int := (List.range t.f2.length).foldl (bestStep t need tested) (-1)
def someP (t : Tab) (need tested : List Int) (us : List ByteArray) : List Int := if (usedP t us).length = 0 then [bestP t need tested] else usedP t us
/-- of which projection a column is read; none: of none that may be -/
def fromP (t : Tab) (need some_ : List Int) (c : Nat) : Option Int :=
  if (c : Int) ∈ need then (if idxF (fun p => decide (0 ≤ placeP t p c)) some_ 0 < 0 then none else some (some_.getD (idxF (fun p => decide (0 ≤ placeP t p c)) some_ 0).toNat 0)) else some (-1)
def fromsP (t : Tab) (need some_ : List Int) : Nat → Option (List Int)
  | 0 => some []
  | n + 1 => match fromsP t need some_ n with
    | none => none
    | some l => match fromP t need some_ n with
      | none => none
      | some x => some (l ++ [x])
/-- what Choose answers: the error, the main projection, and of which each column is read -/
def chooseP (t : Tab) (need tested : List Int) (us : List ByteArray) : Int × Int × List Int :=
  if checkP [t] = true ∧ colsIn t need = true ∧ colsIn t tested = true then
    (match fromsP t need (someP t need tested us) t.f1.length with
    | none => (320, 0, [])
    | some l => (0, (someP t need tested us).getD 0 0, l))
  else (1, 0, [])
theorem prj_at (t : Tab) (i : Nat) (h : i < t.f2.length) : prj t (i : Int) = t.f2[i] := by
  unfold prj
  rw [Int.toNat_natCast, List.getD_eq_getElem?_getD, List.getElem?_eq_getElem h]
  rfl
theorem rdT_prj (t : Tab) (p : Int) : rd_T138 t.f2 p = prj t p := rfl
theorem place_ev (t : Tab) (hg : GT t) (p col : Int) : Ev (fun k => cover_Place.f k t.f0 t.f1 t.f2 p col) (placeP t p col) := by
  unfold cover_Place.f placeP
  by_cases h1 : p < 0
  · rw [if_pos (Or.inl h1)]
    exact ev_pos h1 (Ev.now _)
  · refine ev_neg h1 ?_
    by_cases h2 : (t.f2.length : Int) ≤ p
    · rw [if_pos (Or.inr h2)]
      exact ev_pos h2 (Ev.now _)
    · rw [if_neg (by omega)]
      refine ev_neg h2 (ev_pos (by omega) (ev_pos (by omega) ?_))
      rw [rdT_prj]
      have hl : (prj t p).f1.length ≤ 1000000 := by
        obtain ⟨i, rfl⟩ := Int.eq_ofNat_of_zero_le (by omega : 0 ≤ p)
        rw [prj_at t i (by omega)]
        exact (hg.ps _ (List.getElem_mem (by omega))).2
      exact Ev.bind (idx_ev _ hl col) (Ev.now _)
end Go.Proofs.Ytgjclhhjigflkab.Sc
