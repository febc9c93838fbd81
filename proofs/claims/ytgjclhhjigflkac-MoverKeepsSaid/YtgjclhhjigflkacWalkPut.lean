/- The walk of vint.Put: the bytes of a word, seven bits each, in an array of ten. -/
import Derived.Test.YtgjclhhjigflkacMyWords
import Derived.Test.YtgjclhhjigflkacProg
import Derived.Laws.BitsAllLaws
namespace Go.Proofs.Ytgjclhhjigflkac.M
open Go.RowKit Go.Proofs.YtgjclhhjigflkacW.PrintWords Go.Proofs.YtgjclhhjigflkacW.PrintLast Go.Proofs.YtgjclhhjigflkacW.PrintMore
set_option linter.unusedVariables false
set_option linter.unusedSimpArgs false
/-- a word's bytes, with room for k more -/
def vb : Nat → Nat → List Int
  | 0, n => [(n : Int)]
  | k + 1, n => if n < 128 then [(n : Int)] else ((n % 128 + 128 : Nat) : Int) :: vb k (n / 128)
def zigw (a0 : Int) : Int := wrap64 (Go.bits .xor .u64 (IntKind.u64.wrap ((IntKind.u64.wrap (a0)) * 2)) (IntKind.u64.wrap (a0 / 9223372036854775808)))
def vint_Put.f (a0 : Int) : Option ByteArray := some (strOfNums (vb 9 (IntKind.u64.wrap (zigw a0)).toNat))
theorem vb_step (k m : Nat) (h : 128 ≤ m) : vb (k + 1) m = ((m % 128 + 128 : Nat) : Int) :: vb k (m / 128) := by rw [vb, if_neg (by omega)]
theorem vb_last (k m : Nat) (h : m < 128) : vb k m = [(m : Int)] := by cases k with | zero => rfl | succ k => rw [vb, if_pos h]
theorem vb_pow (k m : Nat) (h : m * 128 ^ k < 18446744073709551616) (hk : k ≤ 9) (hm : 128 ≤ m) : k ≤ 8 := by
  rcases Nat.lt_or_ge k 9 with h9 | h9
  · omega
  · obtain rfl : k = 9 := by omega
    simp at h
    omega
theorem vb_down (k m : Nat) (h : m * 128 ^ k < 18446744073709551616) : m / 128 * 128 ^ (k + 1) < 18446744073709551616 := by
  refine Nat.lt_of_le_of_lt ?_ h
  rw [Nat.pow_succ, Nat.mul_comm (128 ^ k), ← Nat.mul_assoc]
  exact Nat.mul_le_mul_right _ (Nat.div_mul_le_self m 128)
theorem byte_or (m : Nat) : Go.bits .or .u8 (((m : Int)) % 256) 128 = ((m % 128 + 128 : Nat) : Int) := by
  have h := u8_or_nat (m % 256) 128 (Nat.mod_lt _ (by decide)) (by decide)
  have e : ((m % 256 : Nat) : Int) = (m : Int) % 256 := by omega
  rw [e] at h
  have h2 : (m % 256) ||| 128 = m % 128 + 128 := by
    apply Nat.eq_of_testBit_eq
    intro i
    rw [Nat.testBit_or, show m % 128 + 128 = 2 ^ 7 * 1 + m % 2 ^ 7 by omega, Nat.testBit_two_pow_mul_add 1 (Nat.mod_lt _ (by decide)), show m % 256 = m % 2 ^ 8 from rfl, show (128 : Nat) = 2 ^ 7 from rfl, Nat.testBit_two_pow, Nat.testBit_mod_two_pow, Nat.testBit_mod_two_pow]
    by_cases h7 : i < 7
    · rw [if_pos h7]
      simp [h7, show i < 8 by omega, show ¬ 7 = i by omega]
    · rw [if_neg h7]
      by_cases h8 : i = 7
      · subst h8; simp
      · simp [show ¬ i < 8 by omega, show ¬ 7 = i by omega]
        cases hj : i - 7 with
        | zero => omega
        | succ j => simp [Nat.testBit_succ]
  rw [h2] at h
  exact h
/-- the array while it is filled: the first bytes are p -/
def Filled (cur : Array Value) (p : List Int) : Prop := cur.size = 10 ∧ cur.toList.take p.length = nums .u8 p ∧ p.length ≤ 10
theorem filled_set {cur : Array Value} {p : List Int} (h : Filled cur p) (hp : p.length ≤ 9) (x : Int) : Filled (cur.setIfInBounds p.length (.int .u8 x)) (p ++ [x]) := by
  obtain ⟨h1, h2, h3⟩ := h
  refine ⟨by simp [h1], ?_, by simp; omega⟩
  rw [Array.toList_setIfInBounds, List.length_append, List.length_singleton, nums_append, ← h2]
  have hsz : cur.toList.length = 10 := by rw [Array.length_toList]; exact h1
  have hl : p.length < cur.toList.length := by omega
  rw [List.take_succ_eq_append_getElem (by rw [List.length_set]; exact hl), List.getElem_set_self, List.take_set_of_le (Nat.le_refl _)]
  rfl
theorem filled_cell {w : World} {g : Nat} {cur : Array Value} {p : List Int} (h : Filled cur p) (hp : p.length ≤ 9) (hc : w.heap[g]? = some (.cells cur 172 (0, 0))) : ∃ v, w.cell? ⟨g, p.length, none⟩ = some v := by
  rw [blk_cell hc]
  exact ⟨_, Array.getElem?_eq_getElem (by rw [h.1]; omega)⟩
theorem run_cut10 (g n : Nat) (hn : n ≤ 10) (k : Int) (hk : k = (n : Int)) (W : World) : (Instr.sliceAt 172 (.pointer (some ⟨g, 0, none⟩)) none (some (.int .i64 k)) none).run Try.prog W = .ok (.slice (some ⟨g, 0, none⟩) n 10) W := by
  subst hk
  have hl : Try.prog.arrayLen 172 = 10 := by kernel_rfl
  have he : Try.prog.elem 172 = 5 := by kernel_rfl
  have hu : Try.prog.underlying 172 = some (.array (Try.prog.arrayLen 172) (Try.prog.elem 172)) := by rw [hl, he]; exact Try.underlying172
  have hs : (sizeOf 5).run Try.prog W = .ok 1 W := by kernel_rfl
  rw [run_sliceAt_array_h (P := Try.prog) W 172 ⟨g, 0, none⟩ hu .i64 (n : Int) (by omega) (by rw [hl]; omega), he, hs, hl]
  simp [slicedAt, sliced, Result.andThen, Addr.add]
theorem filled_string {w : World} {g : Nat} {cur : Array Value} {p : List Int} (h : Filled cur p) (hc : w.heap[g]? = some (.cells cur 172 (0, 0))) (n : Nat) (hn : p.length = n) : (convert 106 9 (.slice (some ⟨g, 0, none⟩) n 10)).run Try.prog w = .ok (.string (strOfNums p)) w := by
  refine run_convert_bytes_arg w 106 5 Try.underlying106 Try.underlying5 g 0 n 10 p hn (fun i hi => ?_) 9 Try.underlying9
  obtain ⟨h1, h2, h3⟩ := h
  rw [Nat.zero_add, blk_cell hc, ← Array.getElem?_toList]
  have : (cur.toList.take p.length)[i]? = (nums .u8 p)[i]? := by rw [h2]
  rw [List.getElem?_take, if_pos (by omega)] at this
  rw [this]
  simp [nums, List.getElem?_eq_getElem (show i < p.length by omega), List.getD_eq_getElem?_getD]
set_option maxHeartbeats 1000000 in
set_option maxRecDepth 100000 in
theorem vint_Put.calls (a0 : Int) (r : ByteArray) (w : World) (h : vint_Put.f a0 = some r) :
    Calls Try.prog 97 #[.int .i64 a0] w fun e w' => e = .returned (.string r) ∧ Below w.heap.size w w' := by
  obtain ⟨z, hz⟩ : ∃ z, z = zigw a0 := ⟨_, rfl⟩
  have hz2 : 0 ≤ IntKind.u64.wrap z ∧ IntKind.u64.wrap z < 18446744073709551616 := by rw [IntKind.wrap_u64]; omega
  obtain ⟨m0, hm0⟩ := Int.eq_ofNat_of_zero_le hz2.1
  have H : strOfNums (vb 9 m0) = r := by
    have h2 : strOfNums (vb 9 (IntKind.u64.wrap (zigw a0)).toNat) = r := Option.some.inj h
    rw [← hz, hm0] at h2
    exact h2
  clear h
  have H := Aside0.mk H
  have Hm : m0 < 18446744073709551616 := by omega
  have Hz := Aside0.mk (show IntKind.u64.wrap (zigw a0) = (m0 : Int) by rw [← hz]; exact hm0)
  clear hz hz2 hm0
  go_enter Try.func97, Try.ntmps97
  go_wp2
  go_loopw [4, 5] (fun v4 v5 wr => ∃ (m : Nat) (p : List Int) (cur : Array Value), v4 = .int .u64 (m : Int) ∧ v5 = .int .i64 (p.length : Int) ∧ p.length ≤ 9 ∧ Aside0 (m * 128 ^ p.length < 18446744073709551616) ∧ Aside0 (vb 9 m0 = p ++ vb (9 - p.length) m) ∧ Aside0 (Filled cur p) ∧ Aside0 (wr.heap[w.heap.size]? = some (.cells cur 172 (0, 0))) ∧ Aside0 (Below w.heap.size w wr) ∧ w.heap.size < wr.heap.size) (fun v4 v5 _ => 9 - (intOf v5).toNat)
  case atStart => exact ⟨m0, [], _, (by rw [← Hz.out]; rfl), rfl, by decide, ⟨by simpa using Hm⟩, ⟨rfl⟩, ⟨rfl, rfl, by decide⟩, ⟨blk_new _ _⟩, ⟨(Below.refl _ _).alloc (Nat.le_refl _) _⟩, by simp⟩
  case round =>
    obtain ⟨m, p, cur, rfl, rfl, hp, HP, HV, HF, HC, HB, hsz⟩ := hrel
    have hfz : wr.frozen? ⟨w.heap.size, p.length, none⟩ = false := blk_frozen HC.out _
    obtain ⟨v, hcell⟩ := filled_cell HF.out hp HC.out
    by_cases hm : 128 ≤ m
    · have hk := vb_pow _ _ HP.out hp hm
      have hset := filled_set HF.out hp ((m % 128 + 128 : Nat) : Int)
      have HS := Aside0.mk hset
      clear hset
      go_wp2
      refine ⟨⟨m / 128, p ++ [((m % 128 + 128 : Nat) : Int)], _, by rw [Int.natCast_ediv]; rfl, by simp, by simp; omega, ⟨by have := vb_down _ _ HP.out; simpa using this⟩, ⟨?_⟩, HS, ⟨?_⟩, ⟨below_set HB.out (Nat.le_refl _)⟩, by simpa using hsz⟩, by simp [intOf]; omega⟩
      · rw [HV.out, show 9 - p.length = (9 - (p ++ [((m % 128 + 128 : Nat) : Int)]).length) + 1 by simp; omega, vb_step _ _ hm, List.append_assoc]
        rfl
      · rw [byte_or]
        exact blk_set HC.out _ _
    · have hcut := run_cut10 w.heap.size (p.length + 1) (by omega) ((p.length : Int) + 1) (by omega)
      have hstr := filled_string (filled_set HF.out hp (m : Int)) (blk_set HC.out p.length (.int .u8 (m : Int))) (p.length + 1) (by simp)
      go_wp2
      go_ret
      refine ⟨?_, below_set HB.out (Nat.le_refl _)⟩
      have e : strOfNums (p ++ [(m : Int)]) = r := by rw [← H.out, HV.out, vb_last _ _ (by omega)]
      show Ending.returned (.string (strOfNums (p ++ [(m : Int)]))) = _
      rw [e]
end Go.Proofs.Ytgjclhhjigflkac.M
