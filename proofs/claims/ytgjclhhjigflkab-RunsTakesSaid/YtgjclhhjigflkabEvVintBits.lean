/- Words as lists of bits: what the reference's Zig, Zag, Field and With come to, as numbers; the width of a number. -/
import Derived.Test.YtgjclhhjigflkabMx13
import Derived.Test.YtgjclhhjigflkabMx14
import Derived.Test.YtgjclhhjigflkabPlainVint
import Derived.Test.YtgjclhhjigflkabPlainEv
import Derived.Lib.VarintBits
namespace Go.Proofs.Ytgjclhhjigflkab.Vi
set_option linter.unusedVariables false
set_option linter.unusedSimpArgs false
open Go.RowKit Go.Proofs.Ytgjclhhjigflkab.M Go.Proofs.Ytgjclhhjigflkab.EvW Go.Proofs.YtgjclhhjigflkabW.PrintWords Go.Proofs.YtgjclhhjigflkabW.PrintLast Go.Proofs.YtgjclhhjigflkabW.PrintMore

theorem w64 (n : Int) (h0 : -9223372036854775808 ≤ n) (h1 : n ≤ 9223372036854775807) : wrap64 n = n := by unfold wrap64; omega
/-- a word of a number -/
def I (m : Nat) : Int := (BitVec.ofNat 64 m).toInt
theorem bitOf_I (m k : Nat) : bitOf (I m) k = (decide (k < 64) && m.testBit k) := by
  unfold bitOf I
  rw [BitVec.ofInt_toInt, BitVec.getLsbD_ofNat]
theorem wordOf_I (f : Nat → Bool) (m : Nat) (h : ∀ i, i < 64 → f i = m.testBit i) : wordOf f = I m := by
  unfold wordOf I
  congr 1
  apply BitVec.eq_of_getLsbD_eq
  intro i hi
  rw [bvOf_bit, BitVec.getLsbD_ofNat, h i hi]
theorem tb0 (m : Nat) (h : m < 18446744073709551616) (i : Nat) (hi : 64 ≤ i) : m.testBit i = false :=
  Nat.testBit_lt_two_pow (Nat.lt_of_lt_of_le h (Nat.pow_le_pow_right (n := 2) (by decide) hi))
theorem field_low (m : Nat) : wordOf (fieldF (I m) 0 7) = I (m % 128) := by
  apply wordOf_I
  intro i hi
  unfold fieldF fieldIn
  rw [bitOf_I, show (128 : Nat) = 2 ^ 7 from rfl, Nat.testBit_mod_two_pow]
  by_cases h : i < 7
  · rw [decide_eq_true (show (i : Int) < 7 ∧ (0 : Int) ≤ 0 ∧ (0 : Int) < 64 ∧ (i : Int) < 64 - 0 by omega), decide_eq_true (show (0 : Int).toNat + i < 64 by simp; omega), decide_eq_true h]
    simp
  · rw [decide_eq_false (show ¬ ((i : Int) < 7 ∧ (0 : Int) ≤ 0 ∧ (0 : Int) < 64 ∧ (i : Int) < 64 - 0) by omega), decide_eq_false h]
    simp
theorem field_high (m : Nat) (hm : m < 18446744073709551616) : wordOf (fieldF (I m) 7 64) = I (m / 128) := by
  apply wordOf_I
  intro i hi
  unfold fieldF fieldIn
  rw [bitOf_I, show (128 : Nat) = 2 ^ 7 from rfl, Nat.testBit_div_two_pow]
  have e : (7 : Int).toNat + i = 7 + i := rfl
  rw [e]
  by_cases h : i < 57
  · rw [decide_eq_true (show (i : Int) < 64 ∧ (0 : Int) ≤ 7 ∧ (7 : Int) < 64 ∧ (i : Int) < 64 - 7 by omega), decide_eq_true (show 7 + i < 64 by omega), Nat.add_comm 7 i]
    simp
  · rw [decide_eq_false (show ¬ ((i : Int) < 64 ∧ (0 : Int) ≤ 7 ∧ (7 : Int) < 64 ∧ (i : Int) < 64 - 7) by omega), tb0 m hm (i + 7) (by omega)]
    simp
theorem bitOf_pos (n : Int) (h : wf64 n) (h0 : 0 ≤ n) (i : Nat) (hi : i < 64) : bitOf n i = n.toNat.testBit i := by
  unfold wf64 at h
  unfold bitOf
  have e : BitVec.ofInt 64 n = BitVec.ofNat 64 n.toNat := by
    apply BitVec.eq_of_toNat_eq
    rw [BitVec.toNat_ofInt, BitVec.toNat_ofNat]
    simp only [Nat.reducePow]
    omega
  rw [e, BitVec.getLsbD_ofNat, decide_eq_true hi]
  rfl
theorem bitOf_neg (n : Int) (h : wf64 n) (h0 : n < 0) (i : Nat) (hi : i < 64) : bitOf n i = !(-n - 1).toNat.testBit i := by
  unfold wf64 at h
  unfold bitOf
  have e : BitVec.ofInt 64 n = ~~~ (BitVec.ofNat 64 (-n - 1).toNat) := by
    apply BitVec.eq_of_toNat_eq
    rw [BitVec.toNat_ofInt, BitVec.toNat_not, BitVec.toNat_ofNat]
    simp only [Nat.reducePow]
    omega
  rw [e, BitVec.getLsbD_not, BitVec.getLsbD_ofNat, decide_eq_true hi]
  rfl
theorem tb63 (m : Nat) (h : m < 9223372036854775808) : m.testBit 63 = false := Nat.testBit_lt_two_pow h
theorem bitOf_sign (n : Int) (h : wf64 n) : bitOf n 63 = decide (n < 0) := by
  by_cases h0 : 0 ≤ n
  · rw [bitOf_pos n h h0 63 (by decide), tb63 _ (by unfold wf64 at h; omega), decide_eq_false (by omega)]
  · rw [bitOf_neg n h (by omega) 63 (by decide), tb63 _ (by unfold wf64 at h; omega), decide_eq_true (by omega)]
    rfl
theorem zig_word (n : Int) (h : wf64 n) : wordOf (zigF n) = I (zz n) := by
  apply wordOf_I
  intro i hi
  unfold zigF zz
  rw [bitOf_sign n h]
  cases i with
  | zero =>
    rw [if_pos rfl, Nat.testBit_zero]
    by_cases h0 : 0 ≤ n
    · rw [if_pos h0, decide_eq_false (by omega)]
      exact (decide_eq_false (by omega)).symm
    · rw [if_neg h0, decide_eq_true (by omega)]
      exact (decide_eq_true (by omega)).symm
  | succ i =>
    rw [if_neg (by omega), Nat.testBit_succ]
    by_cases h0 : 0 ≤ n
    · rw [if_pos h0, decide_eq_false (by omega), Nat.add_sub_cancel, bitOf_pos n h h0 i (by omega), show (2 * n).toNat / 2 = n.toNat by omega]
      simp
    · rw [if_neg h0, decide_eq_true (by omega), Nat.add_sub_cancel, bitOf_neg n h (by omega) i (by omega), show (-2 * n - 1).toNat / 2 = (-n - 1).toNat by omega]
      simp
theorem I_of_wf (n : Int) (h : wf64 n) (m : Nat) (e : ∀ i, i < 64 → bitOf n i = m.testBit i) : I m = n := by
  unfold I
  have : BitVec.ofNat 64 m = BitVec.ofInt 64 n := by
    apply BitVec.eq_of_getLsbD_eq
    intro i hi
    have := e i hi
    unfold bitOf at this
    rw [this, BitVec.getLsbD_ofNat, decide_eq_true hi]
    rfl
  rw [this, BitVec.toInt_ofInt]
  unfold wf64 at h
  exact Int.bmod_eq_of_le (by simp; omega) (by simp; omega)
theorem zag_word (m : Nat) (hm : m < 18446744073709551616) : wordOf (zagF (I m)) = uz m := by
  have hw := uz_wf m hm
  have key : ∀ i, i < 64 → zagF (I m) i = bitOf (uz m) i := by
    intro i hi
    unfold zagF
    rw [bitOf_I, bitOf_I, decide_eq_true (show 0 < 64 by decide), Bool.true_and, Nat.testBit_zero]
    by_cases h0 : m % 2 = 0
    · have e : uz m = ((m / 2 : Nat) : Int) := by unfold uz; rw [if_pos h0]
      rw [e] at hw ⊢
      rw [bitOf_pos _ hw (by omega) i hi, Int.toNat_natCast, decide_eq_false (show ¬ (m % 2 = 1) by omega)]
      by_cases h63 : i = 63
      · subst h63
        rw [if_pos rfl, tb63 _ (by omega)]
      · rw [if_neg h63, decide_eq_true (by omega), Nat.testBit_succ]
        simp
    · have e : uz m = -((m / 2 : Nat) : Int) - 1 := by unfold uz; rw [if_neg h0]
      rw [e] at hw ⊢
      rw [bitOf_neg _ hw (by omega) i hi, show (-(-((m / 2 : Nat) : Int) - 1) - 1).toNat = m / 2 by omega, decide_eq_true (show m % 2 = 1 by omega)]
      by_cases h63 : i = 63
      · subst h63
        rw [if_pos rfl, tb63 _ (by omega)]
        rfl
      · rw [if_neg h63, decide_eq_true (by omega), Nat.testBit_succ]
        simp
  rw [wordOf_congr key]
  have e2 : wordOf (bitOf (uz m)) = (BitVec.ofInt 64 (uz m)).toInt := by
    unfold wordOf
    congr 1
    apply BitVec.eq_of_getLsbD_eq
    intro i hi
    rw [bvOf_bit, decide_eq_true hi]
    rfl
  rw [e2, BitVec.toInt_ofInt]
  unfold wf64 at hw
  exact Int.bmod_eq_of_le (by simp; omega) (by simp; omega)
theorem I_small (v : Nat) (h : v < 9223372036854775808) : I v = (v : Int) := by
  unfold I
  rw [BitVec.toInt_eq_toNat_cond, BitVec.toNat_ofNat]
  simp only [Nat.reducePow]
  rw [Nat.mod_eq_of_lt (by omega), if_pos (by omega)]
theorem I_mod (m : Nat) : I (m % 18446744073709551616) = I m := by
  unfold I
  congr 1
  apply BitVec.eq_of_toNat_eq
  rw [BitVec.toNat_ofNat, BitVec.toNat_ofNat, Nat.mod_mod]
theorem I_eq (a b : Nat) (ha : a < 18446744073709551616) (hb : b < 18446744073709551616) : I a = I b ↔ a = b := by
  constructor
  · intro h
    have := BitVec.toInt_inj.1 h
    have := congrArg BitVec.toNat this
    rw [BitVec.toNat_ofNat, BitVec.toNat_ofNat] at this
    omega
  · intro h; rw [h]
theorem or_add (acc v s : Nat) (h : acc < 2 ^ s) : acc + v * 2 ^ s = v <<< s ||| acc := by
  rw [← Nat.shiftLeft_add_eq_or_of_lt h, Nat.shiftLeft_eq, Nat.add_comm]
theorem with_word (acc v j : Nat) (hj : j ≤ 9) (ha : acc < 128 ^ j) (hv : v < 128) : wordOf (withF (I acc) ((7 * j : Nat) : Int) 7 (v : Int)) = I (acc + v * 128 ^ j) := by
  have e7 : 128 ^ j = 2 ^ (7 * j) := by rw [Nat.pow_mul]
  rw [e7] at ha ⊢
  apply wordOf_I
  intro i hi
  rw [or_add acc v _ ha, Nat.testBit_or, Nat.testBit_shiftLeft]
  unfold withF withIn
  rw [Int.toNat_natCast]
  have hv9 : bitOf (v : Int) (i - 7 * j) = v.testBit (i - 7 * j) := by
    rw [bitOf_pos _ (by unfold wf64; omega) (by omega) _ (by omega), Int.toNat_natCast]
  by_cases h1 : 7 * j ≤ i
  · have ea : acc.testBit i = false := Nat.testBit_lt_two_pow (Nat.lt_of_lt_of_le ha (Nat.pow_le_pow_right (n := 2) (by decide) h1))
    by_cases h2 : i < 7 * j + 7
    · rw [decide_eq_true (by omega), if_pos rfl, hv9, ea]
      simp [h1]
    · rw [decide_eq_false (by omega), if_neg (by decide), bitOf_I, ea]
      have : v.testBit (i - 7 * j) = false := Nat.testBit_lt_two_pow (Nat.lt_of_lt_of_le hv (show 2 ^ 7 ≤ 2 ^ (i - 7 * j) from Nat.pow_le_pow_right (n := 2) (by decide) (by omega)))
      rw [this]
      simp
  · rw [decide_eq_false (by omega), if_neg (by decide), bitOf_I, decide_eq_true hi]
    simp [h1]

/-! the width -/
def WR (w r : Nat) : Prop := w < 2 ^ r ∧ (r = 0 ∨ 2 ^ (r - 1) ≤ w)
theorem shr_u64 (x i : Nat) (hi : i ≤ 64) : shr .u64 (x : Int) (i : Int) = ((x / 2 ^ i : Nat) : Int) := by
  unfold shr
  rw [Int.toNat_natCast, show IntKind.u64.bits = 64 from rfl, Nat.min_eq_left hi]
  rw [Int.natCast_ediv, Int.natCast_pow]
  rfl
theorem width_end (x n w : Nat) (hx : x < 2) (hn : n ≤ 63) (hw : w / 2 ^ n = x) (h1 : 1 ≤ x ∨ n = 0) : ∃ r : Nat, WR w r ∧ r ≤ 64 ∧ Ev (fun k => bits_Width.l0 k (x : Int) (n : Int) 0) (r : Int) := by
  refine ⟨n + x, ?_, by omega, Ev.step (fun k => by rw [bits_Width.l0, if_neg (by decide), w64 (x : Int) (by omega) (by omega), w64 _ (by omega) (by omega), ← Int.natCast_add]) (Ev.now _)⟩
  have hp : 0 < 2 ^ n := Nat.pow_pos (by decide)
  rcases Nat.lt_or_ge x 1 with h | h
  · obtain rfl : x = 0 := by omega
    obtain rfl : n = 0 := by omega
    simp at hw
    exact ⟨by simp; omega, .inl rfl⟩
  · obtain rfl : x = 1 := by omega
    have h2 : 2 ^ (n + 1) = 2 * 2 ^ n := by rw [Nat.pow_succ, Nat.mul_comm]
    refine ⟨?_, .inr ?_⟩
    · rw [h2]
      exact (Nat.div_lt_iff_lt_mul hp).1 (by omega)
    · rw [Nat.add_sub_cancel]
      have := (Nat.le_div_iff_mul_le hp).1 (show 1 ≤ w / 2 ^ n by omega)
      omega
theorem width_l0 (w : Nat) (hw64 : w < 18446744073709551616) (j : Nat) : ∀ (x n : Nat), x < 2 ^ (2 ^ (j + 1)) → n + 2 ^ (j + 1) ≤ 64 → w / 2 ^ n = x → (1 ≤ x ∨ n = 0) →
    ∃ r : Nat, WR w r ∧ r ≤ 64 ∧ Ev (fun k => bits_Width.l0 k (x : Int) (n : Int) ((2 ^ j : Nat) : Int)) (r : Int) := by
  have next : ∀ (x n : Nat) (j : Nat), (∀ (x n : Nat), x < 2 ^ (2 ^ j) → n + 2 ^ j ≤ 64 → w / 2 ^ n = x → (1 ≤ x ∨ n = 0) → ∃ r : Nat, WR w r ∧ r ≤ 64 ∧ Ev (fun k => bits_Width.l0 k (x : Int) (n : Int) ((2 ^ j / 2 : Nat) : Int)) (r : Int)) →
      x < 2 ^ (2 ^ (j + 1)) → n + 2 ^ (j + 1) ≤ 64 → w / 2 ^ n = x → (1 ≤ x ∨ n = 0) → ∃ r : Nat, WR w r ∧ r ≤ 64 ∧ Ev (fun k => bits_Width.l0 k (x : Int) (n : Int) ((2 ^ j : Nat) : Int)) (r : Int) := by
    intro x n j ih hx hn hw h1
    have hp : 0 < 2 ^ j := Nat.pow_pos (by decide)
    have e2 : 2 ^ (j + 1) = 2 ^ j + 2 ^ j := by rw [Nat.pow_succ]; omega
    obtain ⟨i, hi⟩ : ∃ i, 2 ^ j = i := ⟨_, rfl⟩
    rw [e2, hi] at hx hn
    rw [hi] at hp ih ⊢
    have hdiv : x / 2 ^ i = w / 2 ^ (n + i) := by rw [← hw, Nat.div_div_eq_div_mul, ← Nat.pow_add]
    have hlt : x / 2 ^ i < 2 ^ i := (Nat.div_lt_iff_lt_mul (Nat.pow_pos (by decide))).2 (by rw [← Nat.pow_add]; exact hx)
    have ewr : wrap64 (Int.tdiv (i : Int) 2) = ((i / 2 : Nat) : Int) := by
      rw [Int.tdiv_eq_ediv_of_nonneg (by omega), w64 _ (by omega) (by omega)]; omega
    by_cases hs : 1 ≤ x / 2 ^ i
    · obtain ⟨r, h1, h2, h3⟩ := ih (x / 2 ^ i) (n + i) hlt (by omega) hdiv.symm (.inl hs)
      refine ⟨r, h1, h2, Ev.step (fun k => ?_) h3⟩
      rw [bits_Width.l0, if_pos (by omega), if_pos (by omega), shr_u64 x i (by omega), if_pos (by omega), ewr, w64 _ (by omega) (by omega), ← Int.natCast_add]
    · have hx2 : x < 2 ^ i := by
        rcases Nat.lt_or_ge x (2 ^ i) with h | h
        · exact h
        · exact absurd (Nat.div_pos h (Nat.pow_pos (by decide))) hs
      obtain ⟨r, h1, h2, h3⟩ := ih x n hx2 (by omega) hw h1
      refine ⟨r, h1, h2, Ev.step (fun k => ?_) h3⟩
      rw [bits_Width.l0, if_pos (by omega), if_pos (by omega), shr_u64 x i (by omega), if_neg (by omega), ewr]
  induction j with
  | zero => exact fun x n => next x n 0 (fun x n hx hn hw h1 => width_end x n w hx (by simpa using hn) hw h1)
  | succ j ih => exact fun x n => next x n (j + 1) (fun x n hx hn hw h1 => by
      have := ih x n hx hn hw h1
      rw [show 2 ^ (j + 1) / 2 = 2 ^ j by rw [Nat.pow_succ]; omega]
      exact this)
theorem width_ev (w : Nat) (h : w < 18446744073709551616) : ∃ r : Nat, WR w r ∧ r ≤ 64 ∧ Ev (fun k => bits_Width.l0 k (w : Int) 0 32) (r : Int) :=
  width_l0 w h 5 w 0 h (by decide) (by simp) (.inr rfl)
theorem len_of_width (w r : Nat) (hw : w < 18446744073709551616) (h : WR w r) : max 1 ((r + 6) / 7) = (vbu 9 w).length := by
  obtain ⟨l1, l2, l3, l4⟩ := vbu_len 9 w (by rw [p64]; omega)
  obtain ⟨h1, h2⟩ := h
  generalize (vbu 9 w).length = L at *
  have e : ∀ i, 128 ^ i = 2 ^ (7 * i) := fun i => by rw [Nat.pow_mul]
  rw [e] at l3 l4
  have a1 : r ≤ 7 * L := by
    rcases h2 with h2 | h2
    · omega
    · have := (Nat.pow_lt_pow_iff_right (a := 2) (by decide)).1 (Nat.lt_of_le_of_lt h2 l3)
      omega
  rcases l4 with l4 | l4
  · omega
  · have := (Nat.pow_lt_pow_iff_right (a := 2) (by decide)).1 (Nat.lt_of_le_of_lt l4 h1)
    omega
theorem len_ev (n : Int) (h : wf64 n) : Ev (fun k => vint_Len.f k n) ((vbu 9 (zz n)).length : Int) := by
  have hz := zz_lt n h
  obtain ⟨r, h1, h2, h3⟩ := width_ev (zz n) hz
  have hl := len_of_width _ r hz h1
  refine Ev.congr (f := fun k => (bits_Width.f k (zigw n)).bind fun t161 => some (mx 1 (wrap64 (Int.tdiv (wrap64 ((wrap64 (t161 + 7)) - 1)) 7)))) (fun k => rfl) ?_
  refine Ev.bind (a := (r : Int)) (Ev.congr (fun k => by rw [bits_Width.f, zigw_zz n h]) h3) ?_
  refine Ev.congr (fun k => ?_) (Ev.now _)
  rw [w64 ((r : Int) + 7) (by omega) (by omega), w64 ((r : Int) + 7 - 1) (by omega) (by omega), Int.tdiv_eq_ediv_of_nonneg (by omega), w64 (((r : Int) + 7 - 1) / 7) (by omega) (by omega), ← hl]
  unfold mx
  congr 1
  split <;> omega
end Go.Proofs.Ytgjclhhjigflkab.Vi
