/- Our own words beside the printer's: make([]T, 0, c). -/
import Derived.Test.YtgjclhhjigflkacWWords
import Derived.Test.YtgjclhhjigflkacWLast
import Derived.Test.YtgjclhhjigflkacWMore
import Derived.Laws.CopyOwn
import Derived.Laws.Rows
namespace Go.Proofs.Ytgjclhhjigflkac
/-- the printed regions' lists of what is done, in few letters -/
abbrev Y : Bool := true
abbrev Z : Bool := false
end Go.Proofs.Ytgjclhhjigflkac
namespace Go.Proofs.Ytgjclhhjigflkac.MyWords
open Go Go.RowKit Go.Proofs.YtgjclhhjigflkacW.PrintWords Go.Proofs.YtgjclhhjigflkacW.PrintLast Go.Proofs.YtgjclhhjigflkacW.PrintMore
set_option linter.unusedVariables false
set_option linter.unusedSimpArgs false
section
variable {P : Program} {ops : Array Oper} {rest : List Oper} {o : Oper} {a : Act} {Q : Exit → Act → World → Prop} {α : Type}
/-- a variable in memory: its block gets a letter -/
theorem alloc_event {W : World} (hgd : o.guard = none) {N : Tmp} (_hd : o.dst = some N) {cs : Array Value} {t : TypeId}
    (hrun : (execOp a.eval o).run P W = .ok (.value (.pointer (some ⟨W.heap.size, 0, none⟩))) (W.alloc (.cells cs t (0, 0))))
    (h : ∀ g w1, Aside0 (g = W.heap.size) → Aside0 (w1.heap[g]? = some (.cells cs t (0, 0))) → Aside0 (Below W.heap.size W w1) → Aside0 (w1.heap.size = W.heap.size + 1) → wpList P ops Q rest (a.put o.dst (.pointer (some ⟨g, 0, none⟩))) w1) : wpList P ops Q (o :: rest) a W :=
  Kd.event_run hgd hrun (h _ _ ⟨rfl⟩ ⟨blk_new W _⟩ ⟨below_alloc (Below.refl _ _) _⟩ ⟨by simp⟩)
/-- what is known of the world behind the store of a whole variable -/
structure RowSet (W w1 : World) (g : Nat) (cells : Array Value) (t : TypeId) : Prop where
  at_ : w1.heap[g]? = some (.cells cells t (0, 0))
  other : ∀ k, k ≠ g → w1.heap[k]? = W.heap[k]?
  size : w1.heap.size = W.heap.size
  below : ∀ {B : Nat} {w0 : World}, Below B w0 W → B ≤ g → Below B w0 w1
theorem rowSet_mk {W : World} {g : Nat} {old cells : Array Value} {t : TypeId} (hg : W.heap[g]? = some (.cells old t (0, 0))) : RowSet W (W.setRow g cells) g cells t :=
  ⟨setRow_heap W g old cells t (0, 0) hg, fun k hk => setRow_other W g k cells hk, by simp, fun hb hB => below_setRow hb hB cells⟩
theorem row_store_event {W : World} (hgd : o.guard = none) (ty : TypeId) (x y : Operand) (ho : o.op = .store ty x y)
    (g : Nat) (cells : Array Value) (hx : a.eval x = .pointer (some ⟨g, 0, none⟩)) (hy : a.eval y = .agg cells)
    (t : TypeId) (old : Array Value) (hg : W.heap[g]? = some (.cells old t (0, 0))) (hi : (P.info? ty).map (·.size) = some cells.size)
    (hold : old.size = cells.size) (h1 : cells.all (·.oneCell') = true)
    (h : ∀ w1, RowSet W w1 g cells t → wpList P ops Q rest (a.put o.dst undef) w1) : wpList P ops Q (o :: rest) a W :=
  wpList_store_row hgd ty x y ho g cells hx hy t old hg hi hold h1 (h _ (rowSet_mk hg))
/-- the store of one cell -/
structure CellSet (W w1 : World) (g i : Nat) (v : Value) (cs : Array Value) (t : TypeId) : Prop where
  at_ : w1.heap[g]? = some (.cells (cs.setIfInBounds i v) t (0, 0))
  other : ∀ k, k ≠ g → w1.heap[k]? = W.heap[k]?
  size : w1.heap.size = W.heap.size
  below : ∀ {B : Nat} {w0 : World}, Below B w0 W → B ≤ g → Below B w0 w1
theorem cellSet_mk {W : World} {g i : Nat} {v : Value} {cs : Array Value} {t : TypeId} (hg : W.heap[g]? = some (.cells cs t (0, 0))) : CellSet W (W.setCell ⟨g, i, none⟩ v) g i v cs t :=
  ⟨blk_set hg i v, fun k hk => heap_setCell_other W _ k v hk, by simp, fun hb hB => hb.setCell hB _⟩
end
/-! sixty-four truths in a variable -/
end Go.Proofs.Ytgjclhhjigflkac.MyWords
