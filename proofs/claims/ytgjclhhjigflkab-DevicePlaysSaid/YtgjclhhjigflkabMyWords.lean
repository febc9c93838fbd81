/- Our own words beside the printer's: make([]T, 0, c). -/
import Derived.Test.YtgjclhhjigflkabWWords
import Derived.Test.YtgjclhhjigflkabWLast
import Derived.Test.YtgjclhhjigflkabWMore
import Derived.Laws.CopyOwn
import Derived.Laws.Rows
namespace Go.Proofs.Ytgjclhhjigflkab
/-- the printed regions' lists of what is done, in few letters -/
abbrev Y : Bool := true
abbrev Z : Bool := false
end Go.Proofs.Ytgjclhhjigflkab
namespace Go.Proofs.Ytgjclhhjigflkab.MyWords
open Go Go.RowKit Go.Proofs.YtgjclhhjigflkabW.PrintWords Go.Proofs.YtgjclhhjigflkabW.PrintLast Go.Proofs.YtgjclhhjigflkabW.PrintMore
set_option linter.unusedVariables false
set_option linter.unusedSimpArgs false
section
variable {P : Program} {ops : Array Oper} {rest : List Oper} {o : Oper} {a : Act} {Q : Exit → Act → World → Prop} {α : Type}
/-- make([]T, 0, c): an empty row with room. -/
theorem R_make0 (d : Kd α) {w0 W : World} (base e : Nat) (hgd : o.guard = none) {N : Tmp} (hd : o.dst = some N) (t : TypeId) (x y : Operand) (ho : o.op = .makeSlice t x y) (c : Int) (hx : a.eval x = .int .i64 0) (hy : a.eval y = .int .i64 c)
    (ht : P.underlying t = some (.slice e)) (z : Value) (bytes : Nat) (hinfo : (P.info? e).map (fun i => (i.zero, i.size, i.bytes)) = some (some z, d.sz, bytes)) (hz : z.cells.size = d.sz) (hb0 : 0 < bytes)
    {ok okp : Nat → Prop} (hok : ∀ k, okp k → ok k) (hfresh : ok W.heap.size) (h0 : 0 ≤ c) (hl : c.toNat * bytes ≤ 281474976710656) (HB : Below base w0 W) (hbase : base ≤ W.heap.size)
    (h : ∀ v1 w1, d.R e w1 base ok v1 [] → Below base w0 w1 → W.grownBy w1 none → (∃ b, v1.ownBlock = some b ∧ W.heap.size ≤ b) → wpList P ops Q rest (a.put o.dst v1) w1) : wpList P ops Q (o :: rest) a W := by
  obtain ⟨m, rfl⟩ := Int.eq_ofNat_of_zero_le h0
  simp only [Int.toNat_natCast] at hl
  obtain ⟨i0, hi, hzz⟩ := Option.map_eq_some_iff.1 hinfo
  simp only [Prod.mk.injEq] at hzz
  obtain ⟨hz0, hz1, hz2⟩ := hzz
  have hm : m ≤ 281474976710656 := Nat.le_trans (Nat.le_mul_of_pos_right _ hb0) hl
  have hr := run_make (P := P) W t e i0 z ht hi hz0 .i64 .i64 0 (m : Int) (by omega) (by omega)
    (by
      have h3 : ((i0.bytes * m : Nat) : Int) ≤ 281474976710656 := by rw [hz2, Nat.mul_comm]; omega
      rwa [Int.natCast_mul] at h3) (by omega)
  simp only [Int.toNat_natCast, Int.toNat_zero] at hr
  rw [hz1] at hr
  have hrun : (execOp a.eval o).run P W = .ok (.value (.slice (some ⟨W.heap.size, 0, none⟩) 0 m)) (W.alloc (.cells (madeCells z.cells (m * d.sz)) e)) := by
    simp [execOp, ho, hx, hy, hr]
  refine Kd.event_run hgd hrun (h _ _ ⟨fun k hk => ?_, [], ⟨by simp, .inr ⟨W.heap.size, m, _, rfl, hbase, heap_alloc_new W _, Nat.zero_le _, by simp only [maxLen]; omega, size_madeCells _ _, by simp⟩⟩, Reps.none _ _⟩ (HB.alloc hbase _) (World.grownBy_alloc W _ none) ⟨W.heap.size, by simp [Value.ownBlock], Nat.le_refl _⟩)
  have : W.heap.size = k := by simpa [Value.ownBlock] using hk
  subst this
  exact hfresh
/-- a variable in memory: its block gets a letter -/
theorem alloc_event {W : World} (hgd : o.guard = none) {N : Tmp} (_hd : o.dst = some N) {cs : Array Value} {t : TypeId}
    (hrun : (execOp a.eval o).run P W = .ok (.value (.pointer (some ⟨W.heap.size, 0, none⟩))) (W.alloc (.cells cs t (0, 0))))
    (h : ∀ g w1, Aside0 (g = W.heap.size) → Aside0 (w1.heap[g]? = some (.cells cs t (0, 0))) → Aside0 (Below W.heap.size W w1) → Aside0 (w1.heap.size = W.heap.size + 1) → wpList P ops Q rest (a.put o.dst (.pointer (some ⟨g, 0, none⟩))) w1) : wpList P ops Q (o :: rest) a W :=
  Kd.event_run hgd hrun (h _ _ ⟨rfl⟩ ⟨blk_new W _⟩ ⟨below_alloc (Below.refl _ _) _⟩ ⟨by simp⟩)
/-- what is known of the world behind the store of a whole variable -/
structure RowSet (W w1 : World) (g : Nat) (cells : Array Value) (t : TypeId) : Prop where
  at_ : w1.heap[g]? = some (.cells cells t (0, 0))
  other : ∀ k, k ≠ g → w1.heap[k]? = W.heap[k]?
  size : w1.heap.size = W.heap.size
  below : ∀ {B : Nat} {w0 : World}, Below B w0 W → B ≤ g → Below B w0 w1
theorem rowSet_mk {W : World} {g : Nat} {old cells : Array Value} {t : TypeId} (hg : W.heap[g]? = some (.cells old t (0, 0))) : RowSet W (W.setRow g cells) g cells t :=
  ⟨setRow_heap W g old cells t (0, 0) hg, fun k hk => setRow_other W g k cells hk, by simp, fun hb hB => below_setRow hb hB cells⟩
theorem row_store_event {W : World} (hgd : o.guard = none) (ty : TypeId) (x y : Operand) (ho : o.op = .store ty x y)
    (g : Nat) (cells : Array Value) (hx : a.eval x = .pointer (some ⟨g, 0, none⟩)) (hy : a.eval y = .agg cells)
    (t : TypeId) (old : Array Value) (hg : W.heap[g]? = some (.cells old t (0, 0))) (hi : (P.info? ty).map (·.size) = some cells.size)
    (hold : old.size = cells.size) (h1 : cells.all (·.oneCell') = true)
    (h : ∀ w1, RowSet W w1 g cells t → wpList P ops Q rest (a.put o.dst undef) w1) : wpList P ops Q (o :: rest) a W :=
  wpList_store_row hgd ty x y ho g cells hx hy t old hg hi hold h1 (h _ (rowSet_mk hg))
/-- the store of one cell -/
structure CellSet (W w1 : World) (g i : Nat) (v : Value) (cs : Array Value) (t : TypeId) : Prop where
  at_ : w1.heap[g]? = some (.cells (cs.setIfInBounds i v) t (0, 0))
  other : ∀ k, k ≠ g → w1.heap[k]? = W.heap[k]?
  size : w1.heap.size = W.heap.size
  below : ∀ {B : Nat} {w0 : World}, Below B w0 W → B ≤ g → Below B w0 w1
theorem cellSet_mk {W : World} {g i : Nat} {v : Value} {cs : Array Value} {t : TypeId} (hg : W.heap[g]? = some (.cells cs t (0, 0))) : CellSet W (W.setCell ⟨g, i, none⟩ v) g i v cs t :=
  ⟨blk_set hg i v, fun k hk => heap_setCell_other W _ k v hk, by simp, fun hb hB => hb.setCell hB _⟩
end
/-! sixty-four truths in a variable -/
def arr (f : Nat → Bool) : Array Value := ((List.range 64).map fun j => Value.bool (f j)).toArray
theorem arr_size (f : Nat → Bool) : (arr f).size = 64 := by simp [arr]
theorem arr_get (f : Nat → Bool) (j : Nat) (h : j < 64) : (arr f)[j]? = some (.bool (f j)) := by simp [arr, h]
theorem arr_set (f : Nat → Bool) (i : Nat) (v : Bool) : (arr f).setIfInBounds i (.bool v) = arr (fun j => if j = i then v else f j) := by
  apply Array.ext_getElem?
  intro j
  rw [Array.getElem?_setIfInBounds]
  by_cases h : j < 64
  · rw [arr_get _ j h, arr_get _ j h, arr_size]
    by_cases e : i = j
    · subst e; simp [h]
    · simp [e, Ne.symm e]
  · rw [Array.getElem?_eq_none (by rw [arr_size]; omega), Array.getElem?_eq_none (by rw [arr_size]; omega)]
    by_cases e : i = j
    · subst e; simp [arr_size, h]
    · simp [e]
theorem arr_one (f : Nat → Bool) : (arr f).all (·.oneCell') = true := by
  rw [Array.all_eq_true]
  intro i h
  have h2 : i < 64 := by rw [arr_size] at h; exact h
  have := arr_get f i h2
  rw [Array.getElem?_eq_getElem h] at this
  rw [Option.some.inj this]
  rfl
theorem arr_congr {f g : Nat → Bool} (h : ∀ j, j < 64 → f j = g j) : arr f = arr g := by
  unfold arr
  congr 1
  apply List.map_congr_left
  intro j hj
  rw [h j (by simpa using hj)]
end Go.Proofs.Ytgjclhhjigflkab.MyWords
