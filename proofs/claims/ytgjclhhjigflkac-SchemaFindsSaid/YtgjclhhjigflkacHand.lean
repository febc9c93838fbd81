/- Events of hand walks: a function value is called; a struct is loaded out of a row; a variable is laid; the rest of a row is cleared. -/
import Derived.Test.YtgjclhhjigflkacMyWords
import Derived.Test.YtgjclhhjigflkacWNEv
import Derived.DataElems
namespace Go.Proofs.Ytgjclhhjigflkac.Hand
open Go Go.RowKit Go.Proofs.YtgjclhhjigflkacW.PrintWords Go.Proofs.YtgjclhhjigflkacW.PrintLast Go.Proofs.YtgjclhhjigflkacW.PrintMore
set_option linter.unusedVariables false
set_option linter.unusedSimpArgs false
/-- a function value is called -/
def CallsV (P : Program) (fv : Value) (args : Array Value) (w : World) (R : Ending → World → Prop) : Prop :=
  ∃ f caps fn, fv = .func (.func f) #[] caps ∧ P.funcs[f]? = some fn ∧ (fn.name == "runtime.NumGoroutine") = false ∧ fn.body.isSome = true ∧ Calls P f (args ++ caps) w R
theorem CallsV.of {P : Program} {args : Array Value} {w : World} {R : Ending → World → Prop} {f : FuncId} {caps : Array Value} {fn : Func} (h1 : P.funcs[f]? = some fn) (h2 : (fn.name == "runtime.NumGoroutine") = false) (h3 : fn.body.isSome = true) (h : Calls P f (args ++ caps) w R) :
    CallsV P (.func (.func f) #[] caps) args w R := ⟨f, caps, fn, rfl, h1, h2, h3, h⟩
section
variable {P : Program} {ops : Array Oper} {rest : List Oper} {o : Oper} {a : Act} {Q : Exit → Act → World → Prop}
theorem callsV_event {w : World} (hg : o.guard = none) (N : Tmp) (hd : o.dst = some N) (t : Operand) (as : List Operand) (ts : Array TypeId) (ho : o.op = .call { callee := .value t, args := as.toArray, argTypes := ts }) (fv : Value) (ht : a.eval t = fv)
    (args : List Value) (hargs : as.map a.eval = args) (h : CallsV P fv args.toArray w fun e w' => ∃ v, e = .returned v ∧ wpList P ops Q rest (a.put o.dst v) w') : wpList P ops Q (o :: rest) a w := by
  obtain ⟨f, caps, fn, rfl, hf, hname, hb, hc⟩ := h
  have hargs : as.toArray.map a.eval = args.toArray := by rw [← hargs]; simp
  generalize args.toArray = args at *
  generalize as.toArray = as at *
  refine wpList_plain hg fun K hK => ?_
  have he := enters_ hf hname hb (args ++ caps) w
  have hrun : (execOp a.eval o).run P w = .ok (.enter f (args ++ caps)) w := by
    unfold execOp
    simp [ho, resolve, Deferred.ofValue, invoke, ht, hargs, he]
  unfold Oper.wp
  rw [hrun]
  refine hc.mono ?_
  rintro e w' ⟨v, rfl, hk⟩
  exact hK _ _ hk
/-- a struct, or an array, whose cells are known -/
theorem load_event {w : World} (hgd : o.guard = none) (ty : TypeId) (x : Operand) (ho : o.op = .load ty x) (ad : Addr) (hx : a.eval x = .pointer (some ad)) (c : List Value)
    (hc : ∀ j v, c[j]? = some v → w.cell? (ad.add j) = some v) (d : TypeDesc) (hu : P.underlying ty = some d) (hd : (match d with | .struct _ | .array _ _ => true | _ => false) = true) (hi : (P.info? ty).map (·.size) = some c.length)
    (h : wpList P ops Q rest (a.put o.dst (.agg c.toArray)) w) : wpList P ops Q (o :: rest) a w := by
  have hl := run_loadCells_list (P := P) w ad c hc
  refine wpList_plain hgd fun K hK => ?_
  cases hq : P.info? ty with
  | none => simp [hq] at hi
  | some i =>
    have hs : i.size = c.length := by simpa [hq] using hi
    have hagg : (isAgg ty).run P w = .ok true w := by
      unfold isAgg
      rw [Sem.run_bind, run_underlying hu w]
      cases d <;> simp_all
    have hv : (loadVar ty ad).run P w = .ok (.agg c.toArray) w := by simp [loadVar, Sem.run_bind, hagg, sizeOf, typeInfo, hq, hs, hl]
    unfold Oper.wp execOp
    simp only [ho, hx, Instr.loadAt, Instr.sureAddr, Sem.run_bind, Sem.run_pure, Result.andThen_ok, hv]
    exact hK _ _ h
end
/-- the first element that is so -/
def idxF {α : Type} (p : α → Bool) : List α → Nat → Int
  | [], _ => -1
  | x :: l, n => if p x = true then (n : Int) else idxF p l (n + 1)
theorem idxF_drop {α : Type} (p : α → Bool) (l : List α) (k : Nat) (h : k < l.length) : idxF p (l.drop k) k = if p l[k] = true then (k : Int) else idxF p (l.drop (k + 1)) (k + 1) := by
  rw [List.drop_eq_getElem_cons h, idxF]
theorem idxF_range {α : Type} (p : α → Bool) : ∀ (l : List α) (n : Nat), idxF p l n = -1 ∧ (∀ x ∈ l, p x = false) ∨ ∃ i, ∃ h : i < l.length, idxF p l n = ((n + i : Nat) : Int) ∧ p l[i] = true ∧ ∀ j (hj : j < i), p (l[j]'(by omega)) = false := by
  intro l
  induction l with
  | nil => intro n; exact .inl ⟨rfl, by simp⟩
  | cons x l ih =>
    intro n
    rw [idxF]
    by_cases h : p x = true
    · rw [if_pos h]
      exact .inr ⟨0, by simp, by simp, h, by intro j hj; omega⟩
    · rw [if_neg h]
      rcases ih (n + 1) with ⟨h1, h2⟩ | ⟨i, hi, h1, h2, h3⟩
      · exact .inl ⟨h1, by intro y hy; rcases List.mem_cons.1 hy with hy | hy; · subst hy; simpa using h
                           · exact h2 y hy⟩
      · refine .inr ⟨i + 1, by simp; omega, by rw [h1]; congr 1; omega, h2, ?_⟩
        intro j hj
        cases j with
        | zero => simpa using h
        | succ j => exact h3 j (by omega)
/-- a row's element: its cells -/
theorem at_cells {α : Type} {d : Kd α} {w : World} {A : Option Addr} {n : Nat} {xs : List α} (h : Kd.C d w A n xs) (i : Nat) (hi : i < xs.length) : ∃ ad c, A = some ad ∧ c.length = d.sz ∧ d.K w xs[i] c ∧ ∀ j u, c[j]? = some u → w.cell? ((ad.add (i * d.sz)).add j) = some u := by
  have hn : xs.length = n := h.1
  obtain ⟨ad, c, e, hl, hK, hc⟩ := Kd.C_get h xs[i] (i : Int) (by omega) (by omega)
  rw [Int.toNat_natCast] at hK hc
  have e2 : xs.getD i xs[i] = xs[i] := by simp [List.getD_eq_getElem?_getD, List.getElem?_eq_getElem hi]
  rw [e2] at hK
  refine ⟨ad, c, e, hl, hK, fun j u hu => ?_⟩
  rw [Go.Addr.add_add]
  exact hc j u hu
end Go.Proofs.Ytgjclhhjigflkac.Hand
