/- A map of truths that the call has made: which keys it holds. -/
import Derived.Maps.OwnOps
import Derived.Maps.Views
import Derived.Test.YtgjclhhjigflkabMyWords
namespace Go.Proofs.Ytgjclhhjigflkab.Seen
open Go Go.RowKit Go.Maps Go.Proofs.YtgjclhhjigflkabW.PrintWords
set_option linter.unusedVariables false
set_option linter.unusedSimpArgs false
/-- block b is a map of at most n entries, true at the keys xs, and at no others -/
def Has (P : Program) (kt et : TypeId) (w : World) (b n : Nat) (xs : List Lit) : Prop :=
  ∃ D : DataW Unit, w.ownsMap P kt (plainElem P et) b n D ∧ IsMap D ∧ ∀ kl, (kl ∈ xs → D.atKey kl (.lit (.bool false)) = .lit (.bool true)) ∧ (¬ kl ∈ xs → D.atKey kl (.lit (.bool false)) = .lit (.bool false))
section
variable {P : Program} {kt et : TypeId} {w w1 : World} {b n : Nat} {xs : List Lit}
theorem Has.made (w : World) (P : Program) (kt et : TypeId) : Has P kt et (w.alloc (.map #[] 0)) w.heap.size 0 [] :=
  ⟨.map [], World.ownsMap_made w P kt _, isMap_empty, fun kl => ⟨fun h => by simp at h, fun _ => rfl⟩⟩
theorem Has.kept {row : Option Nat} (h : Has P kt et w b n xs) (hg : w.grownBy w1 row) (hne : some b ≠ row) : Has P kt et w1 b n xs := by
  obtain ⟨D, h1, h2⟩ := h
  exact ⟨D, h1.kept hg hne, h2⟩
theorem Has.below (h : Has P kt et w b n xs) (hb : Below w.heap.size w w1) : Has P kt et w1 b n xs := h.kept (grown_of_below hb none) (by simp)
theorem bool_inv (he : P.underlying et = some .bool) {v : Value} {z : DataW Unit × List MemPlace} (h : plainElem P et v = some z) : ∃ c, v = .bool c ∧ z = (.lit (.bool c), []) := by
  unfold plainElem at h
  rw [he] at h
  cases v <;> simp at h
  exact ⟨_, rfl, h.symm⟩
variable {ops : Array Oper} {rest : List Oper} {o : Oper} {a : Act} {Q : Exit → Act → World → Prop}
theorem lookup_event (hg : o.guard = none) (m x : Operand) (t : TypeId) (hop : o.op = Op.lookup t m x false) (K : Keyed P kt) (ht : P.underlying t = some (.map kt et)) (he : P.underlying et = some .bool)
    (hz : (zeroValue et).run P w = .ok (.bool false) w) (hm : a.eval m = .map (some b)) (H : Has P kt et w b n xs) (key : Value) (kl : Lit) (hx : a.eval x = key) (hkey : keyOf P kt key = some kl)
    (h : ∀ c : Bool, (c = true ↔ kl ∈ xs) → wpList P ops Q rest (a.put o.dst (.bool c)) w) : wpList P ops Q (o :: rest) a w := by
  obtain ⟨D, h1, h2, h3⟩ := H
  refine wpList_plain hg fun K' hK' => ?_
  obtain ⟨v, ps, hrun, hv⟩ := h1.lookup K ht hz (plainElem_bool he false) hkey
  obtain ⟨c, rfl, hc⟩ := bool_inv he hv
  simp only [Prod.mk.injEq] at hc
  unfold Oper.wp
  simp [execOp, hop, hm, hx, hrun, Result.andThen]
  refine hK' _ _ (h c ?_)
  have h4 := h3 kl
  by_cases hin : kl ∈ xs
  · have h5 := hc.1.symm.trans (h4.1 hin)
    simp only [DataW.lit.injEq, Lit.bool.injEq] at h5
    simp [h5, hin]
  · have h5 := hc.1.symm.trans (h4.2 hin)
    simp only [DataW.lit.injEq, Lit.bool.injEq] at h5
    simp [h5, hin]
theorem update_event (hg : o.guard = none) (m x v : Operand) (t : TypeId) (hop : o.op = Op.mapUpdate t m x v) (K : Keyed P kt) (ht : P.underlying t = some (.map kt et)) (he : P.underlying et = some .bool)
    (hm : a.eval m = .map (some b)) (H : Has P kt et w b n xs) (hn : n < maxLen) (key : Value) (kl : Lit) (hx : a.eval x = key) (hv : a.eval v = .bool true) (hkey : keyOf P kt key = some kl)
    (h : ∀ w', Has P kt et w' b (n + 1) (kl :: xs) → w.grownBy w' (some b) → wpList P ops Q rest (a.put o.dst undef) w') : wpList P ops Q (o :: rest) a w := by
  obtain ⟨D, h1, h2, h3⟩ := H
  refine wpList_mapUpdate_own w hg m x v t hop kt et K ht _ b n D hm h1 hn key _ kl hx hv hkey _ [] (plainElem_bool he true) ?_
  intro w' h4 h5
  refine h w' ⟨_, h4, h2.put _ _, fun k => ?_⟩ h5
  by_cases e : k = kl
  · subst e
    have := atKey_put_same h2 (K.key hkey) (.lit (.bool true)) (.lit (.bool false) : DataW Unit)
    simp [this]
  · have h6 := h3 k
    rw [atKey_put_other e]
    simpa [e] using h6
end
end Go.Proofs.Ytgjclhhjigflkab.Seen
