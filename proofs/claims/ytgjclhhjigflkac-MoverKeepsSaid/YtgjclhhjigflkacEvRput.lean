/- What the reference's Put of a number comes to (the parts of EvVintBits and EvVint that this takes). -/
import Derived.Test.YtgjclhhjigflkacMx8
import Derived.Test.YtgjclhhjigflkacPlainVint
import Derived.Test.YtgjclhhjigflkacPlainEv
namespace Go.Proofs.Ytgjclhhjigflkac.Vr
set_option linter.unusedVariables false
set_option linter.unusedSimpArgs false
open Go.RowKit Go.Proofs.Ytgjclhhjigflkac.M Go.Proofs.Ytgjclhhjigflkac.Vi Go.Proofs.Ytgjclhhjigflkac.EvW Go.Proofs.YtgjclhhjigflkacW.PrintWords Go.Proofs.YtgjclhhjigflkacW.PrintLast Go.Proofs.YtgjclhhjigflkacW.PrintMore
theorem w64 (n : Int) (h0 : -9223372036854775808 ≤ n) (h1 : n ≤ 9223372036854775807) : wrap64 n = n := by unfold wrap64; omega
/-- a word of a number -/
def I (m : Nat) : Int := (BitVec.ofNat 64 m).toInt
theorem bitOf_I (m k : Nat) : bitOf (I m) k = (decide (k < 64) && m.testBit k) := by
  unfold bitOf I
  rw [BitVec.ofInt_toInt, BitVec.getLsbD_ofNat]
theorem wordOf_I (f : Nat → Bool) (m : Nat) (h : ∀ i, i < 64 → f i = m.testBit i) : wordOf f = I m := by
  unfold wordOf I
  congr 1
  apply BitVec.eq_of_getLsbD_eq
  intro i hi
  rw [bvOf_bit, BitVec.getLsbD_ofNat, h i hi]
theorem tb0 (m : Nat) (h : m < 18446744073709551616) (i : Nat) (hi : 64 ≤ i) : m.testBit i = false :=
  Nat.testBit_lt_two_pow (Nat.lt_of_lt_of_le h (Nat.pow_le_pow_right (n := 2) (by decide) hi))
theorem field_low (m : Nat) : wordOf (fieldF (I m) 0 7) = I (m % 128) := by
  apply wordOf_I
  intro i hi
  unfold fieldF fieldIn
  rw [bitOf_I, show (128 : Nat) = 2 ^ 7 from rfl, Nat.testBit_mod_two_pow]
  by_cases h : i < 7
  · rw [decide_eq_true (show (i : Int) < 7 ∧ (0 : Int) ≤ 0 ∧ (0 : Int) < 64 ∧ (i : Int) < 64 - 0 by omega), decide_eq_true (show (0 : Int).toNat + i < 64 by simp; omega), decide_eq_true h]
    simp
  · rw [decide_eq_false (show ¬ ((i : Int) < 7 ∧ (0 : Int) ≤ 0 ∧ (0 : Int) < 64 ∧ (i : Int) < 64 - 0) by omega), decide_eq_false h]
    simp
theorem field_high (m : Nat) (hm : m < 18446744073709551616) : wordOf (fieldF (I m) 7 64) = I (m / 128) := by
  apply wordOf_I
  intro i hi
  unfold fieldF fieldIn
  rw [bitOf_I, show (128 : Nat) = 2 ^ 7 from rfl, Nat.testBit_div_two_pow]
  have e : (7 : Int).toNat + i = 7 + i := rfl
  rw [e]
  by_cases h : i < 57
  · rw [decide_eq_true (show (i : Int) < 64 ∧ (0 : Int) ≤ 7 ∧ (7 : Int) < 64 ∧ (i : Int) < 64 - 7 by omega), decide_eq_true (show 7 + i < 64 by omega), Nat.add_comm 7 i]
    simp
  · rw [decide_eq_false (show ¬ ((i : Int) < 64 ∧ (0 : Int) ≤ 7 ∧ (7 : Int) < 64 ∧ (i : Int) < 64 - 7) by omega), tb0 m hm (i + 7) (by omega)]
    simp
theorem bitOf_pos (n : Int) (h : wf64 n) (h0 : 0 ≤ n) (i : Nat) (hi : i < 64) : bitOf n i = n.toNat.testBit i := by
  unfold wf64 at h
  unfold bitOf
  have e : BitVec.ofInt 64 n = BitVec.ofNat 64 n.toNat := by
    apply BitVec.eq_of_toNat_eq
    rw [BitVec.toNat_ofInt, BitVec.toNat_ofNat]
    simp only [Nat.reducePow]
    omega
  rw [e, BitVec.getLsbD_ofNat, decide_eq_true hi]
  rfl
theorem bitOf_neg (n : Int) (h : wf64 n) (h0 : n < 0) (i : Nat) (hi : i < 64) : bitOf n i = !(-n - 1).toNat.testBit i := by
  unfold wf64 at h
  unfold bitOf
  have e : BitVec.ofInt 64 n = ~~~ (BitVec.ofNat 64 (-n - 1).toNat) := by
    apply BitVec.eq_of_toNat_eq
    rw [BitVec.toNat_ofInt, BitVec.toNat_not, BitVec.toNat_ofNat]
    simp only [Nat.reducePow]
    omega
  rw [e, BitVec.getLsbD_not, BitVec.getLsbD_ofNat, decide_eq_true hi]
  rfl
theorem tb63 (m : Nat) (h : m < 9223372036854775808) : m.testBit 63 = false := Nat.testBit_lt_two_pow h
theorem bitOf_sign (n : Int) (h : wf64 n) : bitOf n 63 = decide (n < 0) := by
  by_cases h0 : 0 ≤ n
  · rw [bitOf_pos n h h0 63 (by decide), tb63 _ (by unfold wf64 at h; omega), decide_eq_false (by omega)]
  · rw [bitOf_neg n h (by omega) 63 (by decide), tb63 _ (by unfold wf64 at h; omega), decide_eq_true (by omega)]
    rfl
theorem zig_word (n : Int) (h : wf64 n) : wordOf (zigF n) = I (zz n) := by
  apply wordOf_I
  intro i hi
  unfold zigF zz
  rw [bitOf_sign n h]
  cases i with
  | zero =>
    rw [if_pos rfl, Nat.testBit_zero]
    by_cases h0 : 0 ≤ n
    · rw [if_pos h0, decide_eq_false (by omega)]
      exact (decide_eq_false (by omega)).symm
    · rw [if_neg h0, decide_eq_true (by omega)]
      exact (decide_eq_true (by omega)).symm
  | succ i =>
    rw [if_neg (by omega), Nat.testBit_succ]
    by_cases h0 : 0 ≤ n
    · rw [if_pos h0, decide_eq_false (by omega), Nat.add_sub_cancel, bitOf_pos n h h0 i (by omega), show (2 * n).toNat / 2 = n.toNat by omega]
      simp
    · rw [if_neg h0, decide_eq_true (by omega), Nat.add_sub_cancel, bitOf_neg n h (by omega) i (by omega), show (-2 * n - 1).toNat / 2 = (-n - 1).toNat by omega]
      simp
theorem I_small (v : Nat) (h : v < 9223372036854775808) : I v = (v : Int) := by
  unfold I
  rw [BitVec.toInt_eq_toNat_cond, BitVec.toNat_ofNat]
  simp only [Nat.reducePow]
  rw [Nat.mod_eq_of_lt (by omega), if_pos (by omega)]
theorem rput_l0 (d : Nat) : ∀ (m : Nat) (p : List Int), m < 128 ^ (d + 1) → m < 18446744073709551616 → p.length + d ≤ 1000 → Ev (fun k => peristyleref02_Put.l0 k (I m) p) (strOfNums (p ++ vb d m)) := by
  induction d with
  | zero =>
    intro m p h1 h2 h3
    have h1 : m < 128 := by simpa using h1
    refine Ev.step (fun k => ?_) (Ev.now _)
    rw [peristyleref02_Put.l0, peristyleref01_Field.f, peristyleref01_Field.f, field_low, field_high m h2, I_small (m % 128) (by omega), I_small (m / 128) (by omega)]
    show (if ((m / 128 : Nat) : Int) = 0 then _ else _) = _
    rw [if_pos (by omega), if_pos (by omega), vb, show ((m % 128 : Nat) : Int) % 256 = (m : Int) by omega]
  | succ d ih =>
    intro m p h1 h2 h3
    rw [vb]
    by_cases h : m < 128
    · rw [if_pos h]
      refine Ev.step (fun k => ?_) (Ev.now _)
      rw [peristyleref02_Put.l0, peristyleref01_Field.f, peristyleref01_Field.f, field_low, field_high m h2, I_small (m % 128) (by omega), I_small (m / 128) (by omega)]
      show (if ((m / 128 : Nat) : Int) = 0 then _ else _) = _
      rw [if_pos (by omega), if_pos (by omega), show ((m % 128 : Nat) : Int) % 256 = (m : Int) by omega]
    · rw [if_neg h]
      have := ih (m / 128) (p ++ [((m % 128 + 128 : Nat) : Int)]) (by rw [Nat.pow_succ] at h1; exact Nat.div_lt_of_lt_mul (by rw [Nat.mul_comm]; exact h1)) (by omega) (by simp; omega)
      rw [List.append_assoc] at this
      refine Ev.step (fun k => ?_) this
      rw [peristyleref02_Put.l0, peristyleref01_Field.f, peristyleref01_Field.f, field_low, field_high m h2, I_small (m % 128) (by omega), I_small (m / 128) (by omega)]
      show (if ((m / 128 : Nat) : Int) = 0 then _ else _) = _
      rw [if_neg (by omega), if_pos (by omega), w64 _ (by omega) (by omega), show (128 + ((m % 128 : Nat) : Int)) % 256 = ((m % 128 + 128 : Nat) : Int) by omega]
theorem rput_ev (n : Int) (h : wf64 n) : Ev (fun k => peristyleref02_Put.f k n) (vputB n) := by
  have hz := zz_lt n h
  have := rput_l0 9 (zz n) [] (by rw [p64]; omega) hz (by simp)
  rw [List.nil_append] at this
  refine Ev.congr (f := fun k => peristyleref02_Put.l0 k (I (zz n)) []) (fun k => ?_) ?_
  · rw [peristyleref02_Put.f, peristyleref01_Zig.f, zig_word n h]
    rfl
  · unfold vputB
    rw [zigw_zz n h, Int.toNat_natCast]
    exact this


end Go.Proofs.Ytgjclhhjigflkac.Vr
