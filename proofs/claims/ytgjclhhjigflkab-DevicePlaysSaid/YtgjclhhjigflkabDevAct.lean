/- The calls of law DevicePlays: what they are, plain; small laws of its walk. -/
import Derived.Test.YtgjclhhjigflkabDevCrashR
namespace Go.Proofs.Ytgjclhhjigflkab.Dev
open Go Go.RowKit Go.Proofs.Ytgjclhhjigflkab.D Go.Proofs.Ytgjclhhjigflkab.MyWords Go.Proofs.Ytgjclhhjigflkab.Hand Go.Proofs.YtgjclhhjigflkabW.PrintWords Go.Proofs.YtgjclhhjigflkabW.PrintLast Go.Proofs.YtgjclhhjigflkabW.PrintMore
set_option linter.unusedVariables false
set_option linter.unusedSimpArgs false
abbrev TA : Nat := 48
structure Act where
  kind : Int
  at_ : Int
  c : Int
  text : ByteArray
  keep : List Int
def strA (x : Act) : ByteArray := if (!x.text.toList.isEmpty) = true then x.text else filledB x.c
def actD (D : DS) (x : Act) : DS := if x.kind = 1 then (writeD D x.at_ (strA x)).1 else if x.kind = 2 then (syncD D).1 else if x.kind = 3 then fuseD D x.at_ else if x.kind = 4 then crashD D x.keep else if x.kind = 5 then (spoilD D x.at_ (strA x)).1 else D
theorem strA_size (x : Act) (h : x.text.size ≤ 9223372036854775807) : (strA x).size ≤ 9223372036854775807 := by
  unfold strA
  split
  · exact h
  · rw [filledB_size]; decide
theorem actD_wait (D : DS) (x : Act) : (actD D x).wait.length ≤ D.wait.length + 1 := by
  unfold actD
  have hd := (does_sure D).2
  split
  · unfold writeD
    split
    · split
      · show ((doesD D).1.wait ++ [_]).length ≤ _
        rw [hd]; simp
      · rw [hd]; omega
    · show D.wait.length ≤ _; omega
  · split
    · unfold syncD
      split
      · show ([] : List Wr).length ≤ _; simp
      · rw [hd]; omega
    · split
      · show D.wait.length ≤ _; omega
      · split
        · show ([] : List Wr).length ≤ _; simp
        · split
          · unfold spoilD
            split
            · show (D.wait.filter _).length ≤ _
              exact Nat.le_trans (List.length_filter_le _ _) (by omega)
            · show D.wait.length ≤ _; omega
          · omega
theorem actD_sure (D : DS) (x : Act) : (actD D x).sure.length = D.sure.length := by
  unfold actD
  have hd := (does_sure D).1
  split
  · unfold writeD
    split
    · split
      · show (doesD D).1.sure.length = _; rw [hd]
      · rw [hd]
    · rfl
  · split
    · unfold syncD
      split
      · show ((doesD D).1.wait.foldl putW (doesD D).1.sure).length = _; rw [foldl_len, hd]
      · rw [hd]
    · split
      · rfl
      · split
        · show (keptD x.keep D.sure 0 D.wait).length = _; rw [kept_len]
        · split
          · unfold spoilD
            split
            · show (D.sure.set _ _).length = _; rw [List.length_set]
            · rfl
          · rfl
theorem size_A : (Try.prog.info? TA).map (·.size) = some 5 := by kernel_rfl
/-- the store of a whole row, in a region that draws -/
theorem run_store_row {e : Operand → Value} {o : Oper} {W : World} (ty : TypeId) (x y : Operand) (ho : o.op = .store ty x y) (g : Nat) (cells : Array Value) (hx : e x = .pointer (some ⟨g, 0, none⟩)) (hy : e y = .agg cells)
    (t : TypeId) (old : Array Value) (hg : W.heap[g]? = some (.cells old t (0, 0))) (hi : (Try.prog.info? ty).map (·.size) = some cells.size) (hold : old.size = cells.size) (h1 : cells.all (·.oneCell') = true) :
    (execOp e o).run Try.prog W = .ok .skip (W.setRow g cells) := by
  unfold execOp
  simp only [ho, hx, hy, Instr.storeAt, Instr.sureAddr, Sem.run_bind, Sem.run_pure, Result.andThen_ok, run_storeVar_row W g t ty old cells hg hi hold h1]
/-- what stays in the blocks of X, and in three more -/
abbrev X3 (X : Nat → Prop) (a b c : Nat) : Nat → Prop := fun k => ((X k ∨ k = a) ∨ k = b) ∨ k = c
theorem Stay.less {X Y : Nat → Prop} {w w1 : World} (h : Stay X w w1) (hy : ∀ k, Y k → X k) : Stay Y w w1 := fun k hk => h k (hy k hk)
end Go.Proofs.Ytgjclhhjigflkab.Dev
