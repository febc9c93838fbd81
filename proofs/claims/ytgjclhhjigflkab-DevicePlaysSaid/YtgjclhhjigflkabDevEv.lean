/- Events of a device's walks: a variable filled out of a row; a block's bytes as a text; bytes copied in. -/
import Derived.Test.YtgjclhhjigflkabDevWalk1
import Derived.Test.YtgjclhhjigflkabHand
import Derived.Lib.BufferWrite
import Derived.Lib.LazyBuf
import Derived.Deep.MidRow
import Derived.Great.BuildSlice
namespace Go.Proofs.Ytgjclhhjigflkab.Dev
open Go Go.RowKit Go.Proofs.Ytgjclhhjigflkab.MyWords Go.Proofs.Ytgjclhhjigflkab.Hand Go.Proofs.YtgjclhhjigflkabW.PrintWords Go.Proofs.YtgjclhhjigflkabW.PrintLast Go.Proofs.YtgjclhhjigflkabW.PrintMore
set_option linter.unusedVariables false
set_option linter.unusedSimpArgs false
def wrCells (x : Wr) : List Value := .int .i64 x.at_ :: blkCells x.b
theorem wrCells_one (x : Wr) : ∀ u ∈ wrCells x, u.oneCell' = true := by
  intro u hu
  rcases List.mem_cons.1 hu with rfl | hu
  · rfl
  · exact blkCells_one x.b u hu
theorem wrCells_len (n : Int) (b : ByteArray) : (wrCells ⟨n, b⟩).length = b.size + 1 := by rw [wrCells, List.length_cons, blkCells_len]
theorem all_one {cs : List Value} (h : ∀ u ∈ cs, u.oneCell' = true) : cs.toArray.all (·.oneCell') = true := by
  rw [Array.all_eq_true]
  intro i hi
  have hi2 : i < cs.length := by simpa using hi
  have := h cs[i] (List.getElem_mem hi2)
  simpa using this
theorem info_B : (Try.prog.info? TB).map (fun i => (i.zero, i.size, i.bytes)) = some (some (.agg (blkCells zeroB).toArray), 128, 128) := by kernel_rfl
theorem info_W : (Try.prog.info? TW).map (fun i => (i.zero, i.size, i.bytes)) = some (some (.agg (wrCells ⟨0, zeroB⟩).toArray), 129, 136) := by kernel_rfl
theorem size_B : (Try.prog.info? TB).map (·.size) = some 128 := by kernel_rfl
theorem size_W : (Try.prog.info? TW).map (·.size) = some 129 := by kernel_rfl
section
variable {e : Operand → Value} {o : Oper} {W : World}
theorem run_alloc_B (ho : o.op = .alloc TB) : (execOp e o).run Try.prog W = .ok (.value (.pointer (some ⟨W.heap.size, 0, none⟩))) (W.alloc (.cells (blkCells zeroB).toArray TB (0, 0))) := by
  unfold execOp
  simp only [ho]
  kernel_rfl
theorem run_alloc_W (ho : o.op = .alloc TW) : (execOp e o).run Try.prog W = .ok (.value (.pointer (some ⟨W.heap.size, 0, none⟩))) (W.alloc (.cells (wrCells ⟨0, zeroB⟩).toArray TW (0, 0))) := by
  unfold execOp
  simp only [ho]
  kernel_rfl
end
/-- what is known behind a variable that was made and filled -/
structure VarMade (W w1 : World) (g : Nat) (cells : List Value) (t : TypeId) : Prop where
  g_ : g = W.heap.size
  at_ : w1.heap[g]? = some (.cells cells.toArray t (0, 0))
  below : Below W.heap.size W w1
  size : w1.heap.size = W.heap.size + 1
section
variable {P : Program} {ops : Array Oper} {rest : List Oper} {o o1 o2 o3 : Oper} {a : Act} {Q : Exit → Act → World → Prop} {W : World}
theorem gate_store {t : TypeId} {p x : Operand} (_ho : o.op = .store t p x) (h : wpList P ops Q (o :: rest) a W) : wpList P ops Q (o :: rest) a W := h
/-- load a struct (or array) out of memory, make a variable of its type, store it there -/
theorem var_event (ty : TypeId) {N1 N2 : Tmp} (hg1 : o1.guard = none) (hd1 : o1.dst = some N1) (x : Operand) (ho1 : o1.op = .load ty x) (hg2 : o2.guard = none) (hd2 : o2.dst = some N2) (z : List Value)
    (hr2 : ∀ (e : Operand → Value) (W : World), (execOp e o2).run P W = .ok (.value (.pointer (some ⟨W.heap.size, 0, none⟩))) (W.alloc (.cells z.toArray ty (0, 0))))
    (hg3 : o3.guard = none) (hd3 : o3.dst = none) (ho3 : o3.op = .store ty (.tmp N2) (.tmp N1)) (ad : Addr) (hx : a.eval x = .pointer (some ad)) (c : List Value)
    (hc : ∀ j v, c[j]? = some v → W.cell? (ad.add j) = some v) (d : TypeDesc) (hu : P.underlying ty = some d) (hd : (match d with | .struct _ | .array _ _ => true | _ => false) = true) (hi : (P.info? ty).map (·.size) = some c.length)
    (hz : z.length = c.length) (hone : ∀ u ∈ c, u.oneCell' = true)
    (he : ∀ p, ((a.put (some N1) (.agg c.toArray)).put (some N2) p).eval (.tmp N2) = p ∧ ((a.put (some N1) (.agg c.toArray)).put (some N2) p).eval (.tmp N1) = .agg c.toArray)
    (h : ∀ g w1, VarMade W w1 g c ty → wpList P ops Q rest ((a.put o1.dst (.agg c.toArray)).put o2.dst (.pointer (some ⟨g, 0, none⟩))) w1) : wpList P ops Q (o1 :: o2 :: o3 :: rest) a W := by
  refine load_event hg1 ty x ho1 ad hx c hc d hu hd hi ?_
  rw [hd1]
  refine Kd.event_run hg2 (hr2 _ W) ?_
  rw [hd2]
  obtain ⟨he1, he2⟩ := he (.pointer (some ⟨W.heap.size, 0, none⟩))
  refine row_store_event hg3 ty (.tmp N2) (.tmp N1) ho3 W.heap.size c.toArray he1 he2 ty z.toArray (heap_alloc_new W _) (by simpa using hi) (by simpa using hz) (all_one hone) ?_
  intro w1 hs
  have := h W.heap.size w1 ⟨rfl, hs.at_, hs.below ((Below.refl _ _).alloc (Nat.le_refl _) _) (Nat.le_refl _), by rw [hs.size]; simp⟩
  rw [hd1, hd2] at this
  have e3 : ∀ b : Act, b.put o3.dst undef = b := by intro b; rw [hd3]; rfl
  rw [e3]
  exact this
end
theorem strOf_bytes (x : ByteArray) : strOfNums (bytesOf x) = x := by
  apply ByteArray.ext
  apply Array.ext'
  unfold strOfNums bytesOf
  simp [Function.comp_def]
theorem run_slice_B (ad : Addr) (W : World) : (Instr.sliceAt TB (.pointer (some ad)) none none none).run Try.prog W = .ok (.slice (some ad) 128 128) W := by kernel_rfl
/-- a block's bytes as a text -/
theorem run_text (W : World) (b : ByteArray) (hb : b.size = 128) (g : Nat) (hg : W.heap[g]? = some (.cells (blkCells b).toArray TB (0, 0))) :
    (convert 115 9 (.slice (some ⟨g, 0, none⟩) 128 128)).run Try.prog W = .ok (.string b) W := by
  have h := run_convert_bytes_arg (P := Try.prog) W 115 5 Try.underlying115 Try.underlying5 g 0 128 128 (bytesOf b) (by rw [bytesOf_length, hb]) (fun i hi => ?_) 9 Try.underlying9
  · rw [strOf_bytes] at h
    exact h
  · rw [cell_of_row W g _ _ _ _ hg, Nat.zero_add]
    have hi2 : i < (bytesOf b).length := by rw [bytesOf_length, hb]; exact hi
    simp [blkCells, nums, List.getElem?_eq_getElem hi2, List.getD_eq_getElem?_getD]
theorem byteCells_blk (s : ByteArray) : Lib.byteCells s.data.toList = blkCells s := by
  simp [Lib.byteCells, blkCells, nums, bytesOf, Function.comp_def]
section
variable {e : Operand → Value} {o : Oper} {W : World}
theorem run_build_W (x : Operand) (n : Int) (ho : o.op = .build TW #[(0, x)]) (hx : e x = .int .i64 n) : (execOp e o).run Try.prog W = .ok (.value (.agg (wrCells ⟨n, zeroB⟩).toArray)) W := by
  unfold execOp
  simp only [ho, List.map_toArray, List.map_cons, List.map_nil, hx]
  kernel_rfl
end
section
variable {ops : Array Oper} {rest : List Oper} {o : Oper} {a : Act} {Q : Exit → Act → World → Prop} {W : World}
/-- the bytes of a text copied into a write's block -/
theorem copy_event (hgd : o.guard = none) (x y : Operand) (ho : o.op = .call { callee := .builtin .copy, args := #[x, y], argTypes := #[115, 9] }) (g : Nat) (n : Int) (b0 s : ByteArray)
    (hx : a.eval x = .slice (some ⟨g, 1, none⟩) 128 128) (hy : a.eval y = .string s) (hs : s.size = 128) (hb0 : b0.size = 128) (hg : W.heap[g]? = some (.cells (wrCells ⟨n, b0⟩).toArray TW (0, 0)))
    (h : ∀ w1, RowSet W w1 g (wrCells ⟨n, s⟩).toArray TW → wpList Try.prog ops Q rest (a.put o.dst (.int .i64 128)) w1) : wpList Try.prog ops Q (o :: rest) a W := by
  have hrun := Lib.run_copy_row_string (P := Try.prog) W 115 9 o.type 5 g 1 128 128 s (wrCells ⟨n, b0⟩).toArray TW Try.underlying115 (by kernel_rfl) hg (by omega) (by rw [List.size_toArray, wrCells_len]; omega)
  have e1 : ((wrCells ⟨n, b0⟩).toArray.toList.take 1 ++ Lib.byteCells s.data.toList ++ (wrCells ⟨n, b0⟩).toArray.toList.drop (1 + s.size)) = wrCells ⟨n, s⟩ := by
    rw [byteCells_blk, hs]
    have hd : (wrCells ⟨n, b0⟩).drop (1 + 128) = [] := by rw [List.drop_eq_nil_iff, wrCells_len]; omega
    show List.take 1 (wrCells ⟨n, b0⟩) ++ blkCells s ++ (wrCells ⟨n, b0⟩).drop (1 + 128) = _
    rw [hd]
    simp [wrCells]
  rw [e1, hs] at hrun
  refine wpList_plain hgd fun K hK => ?_
  unfold Oper.wp execOp
  simp only [ho, resolve, invoke, builtin, Sem.run_bind, Sem.run_pure, Result.andThen_ok, List.map_toArray, List.map_cons, List.map_nil, hx, hy, hrun]
  exact hK _ _ (h _ (rowSet_mk hg))
end
/-- a write's variable, as it is loaded -/
theorem run_load_W (W : World) (g : Nat) (n : Int) (b : ByteArray) (hb : b.size = 128) (hg : W.heap[g]? = some (.cells (wrCells ⟨n, b⟩).toArray TW (0, 0))) :
    (Instr.loadAt 113 (.pointer (some ⟨g, 0, none⟩))).run Try.prog W = .ok (.agg (wrCells ⟨n, b⟩).toArray) W := by
  refine run_loadAt_mid W g 0 113 (wrCells ⟨n, b⟩) _ (fun j v hv => ?_) Try.underlying113 rfl (by rw [wrCells_len, hb]; exact size_W)
  rw [cell_of_row W g _ _ _ _ hg]
  simpa using hv
theorem foldl_set (l : List Value) : ∀ (n : Nat) (z : Array Value), ((l.zipIdx n).foldl (fun (cs : Array Value) (x : Value × Nat) => cs.setIfInBounds (0 + x.2) x.1) z).size = z.size ∧
    ∀ i, ((l.zipIdx n).foldl (fun (cs : Array Value) (x : Value × Nat) => cs.setIfInBounds (0 + x.2) x.1) z)[i]? = if n ≤ i ∧ i < n + l.length ∧ i < z.size then l[i - n]? else z[i]? := by
  induction l with
  | nil => intro n z; exact ⟨rfl, fun i => by rw [if_neg (by simp; omega)]; rfl⟩
  | cons v l ih =>
    intro n z
    rw [List.zipIdx_cons, List.foldl_cons]
    obtain ⟨h1, h2⟩ := ih (n + 1) (z.setIfInBounds (0 + n) v)
    refine ⟨by rw [h1]; simp, fun i => ?_⟩
    rw [h2 i, Array.size_setIfInBounds, Array.getElem?_setIfInBounds]
    simp only [List.length_cons]
    by_cases c1 : n + 1 ≤ i ∧ i < n + 1 + l.length ∧ i < z.size
    · rw [if_pos c1, if_pos (by omega)]
      obtain ⟨q, rfl⟩ : ∃ q, i = n + 1 + q := ⟨i - (n + 1), by omega⟩
      rw [show n + 1 + q - (n + 1) = q by omega, show n + 1 + q - n = q + 1 by omega, List.getElem?_cons_succ]
    · rw [if_neg c1]
      by_cases c2 : 0 + n = i
      · subst c2
        rw [if_pos rfl, Nat.zero_add]
        by_cases c3 : n < z.size
        · rw [if_pos c3, if_pos (by omega), Nat.sub_self, List.getElem?_cons_zero]
        · rw [if_neg c3, if_neg (by omega), Array.getElem?_eq_none (by omega)]
      · rw [if_neg c2, if_neg (by omega)]
theorem fill_one (z : Array Value) (l : List Value) (n : Nat) (hl : l.length = n) (hz : z.size = n) (place : Nat → Option (Nat × Nat)) (hp : place 0 = some (0, n)) : Instr.fill place z [(0, .agg l.toArray)] = some l.toArray := by
  have hc : (Value.agg l.toArray).cells = l.toArray := rfl
  unfold Instr.fill
  rw [hp]
  simp only [hc, List.size_toArray]
  rw [if_neg (by simp [hl, hz])]
  unfold Instr.fill
  congr 1
  rw [← Array.foldl_toList, Array.toList_zipIdx]
  obtain ⟨h1, h2⟩ := foldl_set l 0 z
  apply Array.ext_getElem?
  intro i
  have h3 := h2 i
  refine (show _ = _ from h3).trans ?_
  by_cases c : i < n
  · rw [if_pos (by omega), Nat.sub_zero]
    simp
  · have e1 : z[i]? = none := Array.getElem?_eq_none (by omega)
    have e2 : l.toArray[i]? = none := Array.getElem?_eq_none (by rw [List.size_toArray]; omega)
    rw [if_neg (by omega), e1, e2]
section
variable {e : Operand → Value} {o : Oper} {W : World}
theorem run_slice1_W (x : Operand) (n : Int) (b : ByteArray) (hb : b.size = 128) (ho : o.op = .buildSlice 54 1 #[(0, x)]) (hx : e x = .agg (wrCells ⟨n, b⟩).toArray) :
    (execOp e o).run Try.prog W = .ok (.value (.slice (some ⟨W.heap.size, 0, none⟩) 1 1)) (W.alloc (.cells (wrCells ⟨n, b⟩).toArray TW (0, 0))) := by
  obtain ⟨i0, hi, hzz⟩ := Option.map_eq_some_iff.1 info_W
  simp only [Prod.mk.injEq] at hzz
  obtain ⟨hz0, hz1, hz2⟩ := hzz
  have hr := run_buildSlice (P := Try.prog) W 54 TW 1 #[(0, .agg (wrCells ⟨n, b⟩).toArray)] (wrCells ⟨n, b⟩).toArray i0 _ Try.underlying54 hi hz0 (by rw [hz1]; decide) (by rw [hz1]; decide) (by
    rw [hz1]
    exact fill_one _ _ 129 (by rw [wrCells_len, hb]) (by simp) _ rfl)
  unfold execOp
  simp only [ho, List.map_toArray, List.map_cons, List.map_nil, hx, Sem.run_bind, hr, Result.andThen_ok]
  rfl
end
end Go.Proofs.Ytgjclhhjigflkab.Dev
