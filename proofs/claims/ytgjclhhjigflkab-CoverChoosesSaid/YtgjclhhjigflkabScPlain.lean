/- Tables, plain: which names, columns, projections and tables may be. -/
import Derived.Test.YtgjclhhjigflkabCx0
import Derived.Test.YtgjclhhjigflkabHand
namespace Go.Proofs.Ytgjclhhjigflkab.Sc
open Go Go.RowKit Go.Proofs.Ytgjclhhjigflkab.C Go.Proofs.Ytgjclhhjigflkab.Hand Go.Proofs.YtgjclhhjigflkabW.PrintWords
set_option linter.unusedVariables false
set_option linter.unusedSimpArgs false
abbrev Tab := S63
abbrev Col := S177
abbrev Prj := S138
abbrev kT := k63
abbrev kC := k177
abbrev kP := k138
abbrev TT : Nat := 63
abbrev TC : Nat := 177
abbrev TP : Nat := 138
/-- may a byte stand there in a name? -/
def okc (k : Nat) (c : Int) : Bool := decide (97 ≤ c ∧ c ≤ 122) || (!decide (k = 0) && (decide (c = 95) || decide (48 ≤ c ∧ c ≤ 57)))
def okAll (s : ByteArray) : Bool := (List.range s.size).all fun (i : Nat) => okc i (bt s (i : Int))
def nameP (s : ByteArray) : Bool := okAll s && decide (1 ≤ s.size) && decide (s.size ≤ 16)
def onceP {α : Type} [DecidableEq α] (l : List α) : Bool := decide l.Nodup
def colP (c : Col) : Bool := nameP c.f0 && (decide (c.f1 = 1) || decide (c.f1 = 2))
def colsP (l : List Col) : Bool := l.all colP && decide (1 ≤ l.length) && decide (l.length ≤ 8) && onceP (l.map (·.f0))
def inP (n : Int) (c : Int) : Bool := decide (0 ≤ c ∧ c < n)
def projP (p : Prj) (n : Int) : Bool := p.f1.all (inP n) && nameP p.f0 && decide (1 ≤ p.f1.length) && decide ((p.f1.length : Int) ≤ n) && decide (0 ≤ p.f2) && decide (p.f2 ≤ p.f1.length) && onceP p.f1
def superP (t : Tab) (p : Prj) : Bool := (List.range t.f1.length).all (fun (c : Nat) => decide ((c : Int) ∈ p.f1)) && decide (p.f1.length = t.f1.length)
def mayP (t : Tab) : Bool := t.f2.all (fun p => projP p t.f1.length) && nameP t.f0 && colsP t.f1 && t.f2.any (superP t) && decide (t.f2.length ≤ 6) && onceP (t.f2.map (·.f0))
def checkP (l : List Tab) : Bool := l.all mayP && decide (l.length ≤ 8) && onceP (l.map (·.f0))
theorem nameP_size {s : ByteArray} (h : nameP s = true) : s.size ≤ 16 := by
  unfold nameP at h
  simp only [Bool.and_eq_true, decide_eq_true_eq] at h
  exact h.2
theorem any_not {α : Type} (p : α → Bool) (l : List α) : l.any (fun x => !p x) = !l.all p := by
  induction l with
  | nil => rfl
  | cons x l ih => simp [ih]
end Go.Proofs.Ytgjclhhjigflkab.Sc
