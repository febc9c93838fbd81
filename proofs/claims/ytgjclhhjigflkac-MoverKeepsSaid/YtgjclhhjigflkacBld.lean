/- A number's bytes; a strings.Builder that is laid anew, and behind other calls. -/
import Derived.Test.YtgjclhhjigflkacWalkBuilder
import Derived.Test.YtgjclhhjigflkacWalkPut
import Derived.Test.YtgjclhhjigflkacShelf
namespace Go.Proofs.Ytgjclhhjigflkac.M
open Go.RowKit Go.Proofs.Ytgjclhhjigflkac.MyWords Go.Proofs.YtgjclhhjigflkacW.PrintWords Go.Proofs.YtgjclhhjigflkacW.PrintLast Go.Proofs.YtgjclhhjigflkacW.PrintMore
set_option linter.unusedVariables false
set_option linter.unusedSimpArgs false
def vputB (a : Int) : ByteArray := strOfNums (vb 9 (IntKind.u64.wrap (zigw a)).toNat)
theorem vb_length (k : Nat) : ∀ n, (vb k n).length ≤ k + 1 := by
  induction k with
  | zero => intro n; simp [vb]
  | succ k ih =>
    intro n
    rw [vb]
    split
    · simp
    · have := ih (n / 128)
      simp only [List.length_cons]
      omega
theorem vputB_size (a : Int) : (vputB a).size ≤ 10 := by
  unfold vputB
  rw [strOfNums_size]
  exact vb_length 9 _
/-- the bytes of numbers, one behind the other -/
def vputs (l : List Int) : List UInt8 := l.flatMap fun a => (vputB a).data.toList
theorem vputs_snoc (l : List Int) (a : Int) : vputs (l ++ [a]) = vputs l ++ (vputB a).data.toList := by simp [vputs]
theorem vputs_length (l : List Int) : (vputs l).length ≤ 10 * l.length := by
  induction l with
  | nil => simp [vputs]
  | cons a l ih =>
    have h : vputs (a :: l) = (vputB a).data.toList ++ vputs l := by simp [vputs]
    rw [h, List.length_append, data_length, List.length_cons]
    have := vputB_size a
    omega
theorem bld_new (w : World) : Bld w.heap.size w.heap.size (Lib.byteCells []) (w.alloc (.cells #[.pointer none, .slice none 0 0] 108)) := Lib.fresh_isBuilder _ _ w
theorem take_rd (l : List Int) (k : Nat) (h : k < l.length) : l.take (k + 1) = l.take k ++ [rd l (k : Int)] := by
  rw [List.take_succ_eq_append_getElem h]
  simp [rd, List.getD_eq_getElem?_getD, List.getElem?_eq_getElem h]
theorem bld_below {B b : Nat} {bs : List Value} {w w1 : World} (h : Bld B b bs w) (hb : Below w.heap.size w w1) : Bld B b bs w1 := by
  have go : ∀ p, Lib.BuilderAt 108 5 B b p bs w → Lib.BuilderAt 108 5 B b p bs w1 := by
    rintro p ⟨hB, v, hk, ho, hn⟩
    exact ⟨hB, v, blk_below hk hb, pw_own_below ho hb, hn⟩
  rcases h with h | h
  · exact .inl (go _ h)
  · exact .inr (go _ h)
end Go.Proofs.Ytgjclhhjigflkac.M
