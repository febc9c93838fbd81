/- What the functions of layer 3 come to: check.More, Sum, Seal, Open, and the reference's. -/
import Derived.Test.YtgjclhhjigflkaaMx1
import Derived.Test.YtgjclhhjigflkaaMx2
import Derived.Test.YtgjclhhjigflkaaPlainCrc
import Derived.Test.YtgjclhhjigflkaaPlainEv
import Derived.Lib.Strings
namespace Go.Proofs.Ytgjclhhjigflkaa.Ck
set_option linter.unusedVariables false
set_option linter.unusedSimpArgs false
open Go.RowKit Go.Proofs.Ytgjclhhjigflkaa.M Go.Proofs.Ytgjclhhjigflkaa.Crc Go.Proofs.Ytgjclhhjigflkaa.EvW Go.Proofs.YtgjclhhjigflkaaW.PrintWords Go.Proofs.YtgjclhhjigflkaaW.PrintLast Go.Proofs.YtgjclhhjigflkaaW.PrintMore

theorem w64 (n : Int) (h0 : -9223372036854775808 ≤ n) (h1 : n ≤ 9223372036854775807) : wrap64 n = n := by unfold wrap64; omega
theorem u32_xor (a b : BitVec 32) : Go.bits .xor .u32 (a.toNat : Int) (b.toNat : Int) = ((a ^^^ b).toNat : Int) := by
  rw [u32_xor_nat _ _ a.isLt b.isLt, BitVec.toNat_xor]
theorem u32_and (a b : BitVec 32) : Go.bits .and .u32 (a.toNat : Int) (b.toNat : Int) = ((a &&& b).toNat : Int) := by
  rw [u32_and_nat _ _ a.isLt b.isLt, BitVec.toNat_and]
theorem half32 (n : BitVec 32) : (n.toNat : Int) / (2 : Int) = ((n >>> 1).toNat : Int) := by
  rw [BitVec.toNat_ushiftRight, Nat.shiftRight_eq_div_pow]; omega
theorem low (n : BitVec 32) : (n &&& 1#32) = if n.getLsbD 0 then 1#32 else 0#32 := by
  apply BitVec.eq_of_getLsbD_eq
  intro i hi
  cases i with
  | zero => cases h : n.getLsbD 0 <;> simp_all
  | succ i =>
    cases h : n.getLsbD 0 <;> simp
theorem step_u32 (n : BitVec 32) : Go.bits .xor .u32 ((n.toNat : Int) / 2) (Go.bits .and .u32 2197175160 ((-(Go.bits .and .u32 (n.toNat : Int) 1)) % 4294967296)) = ((Crc.step n).toNat : Int) := by
  have h1 : Go.bits .and .u32 (n.toNat : Int) 1 = ((n &&& 1#32).toNat : Int) := u32_and n 1#32
  rw [h1, low, half32]
  cases h : n.getLsbD 0 with
  | false =>
    have h2 : Go.bits .and .u32 2197175160 ((-((if false = true then 1#32 else 0#32 : BitVec 32).toNat : Int)) % 4294967296) = ((0#32 : BitVec 32).toNat : Int) := u32_and poly 0#32
    rw [h2, u32_xor]
    unfold Crc.step
    rw [h]
    rfl
  | true =>
    have h2 : Go.bits .and .u32 2197175160 ((-((if true = true then 1#32 else 0#32 : BitVec 32).toNat : Int)) % 4294967296) = ((poly : BitVec 32).toNat : Int) := u32_and poly 0xffffffff#32
    rw [h2, u32_xor]
    unfold Crc.step
    rw [h]
    rfl
theorem neg32 (n : BitVec 32) : wrap64 (Go.bits .xor .u32 4294967295 (n.toNat : Int)) = ((~~~ n).toNat : Int) := by
  have h := u32_xor (BitVec.allOnes 32) n
  rw [BitVec.allOnes_xor] at h
  have h2 : ((BitVec.allOnes 32).toNat : Int) = 4294967295 := by decide
  rw [h2] at h
  rw [h]
  have := (~~~n).isLt
  exact w64 _ (by omega) (by omega)
theorem of32 (a : Int) : (a % 4294967296) = ((BitVec.ofInt 32 a).toNat : Int) := by
  rw [BitVec.toNat_ofInt]
  have : (0 : Int) ≤ a % 4294967296 := Int.emod_nonneg _ (by decide)
  simp only [Nat.reducePow]
  omega
theorem neg32' (a : Int) : Go.bits .xor .u32 4294967295 (a % 4294967296) = ((~~~ (BitVec.ofInt 32 a)).toNat : Int) := by
  rw [of32]
  have h := u32_xor (BitVec.allOnes 32) (BitVec.ofInt 32 a)
  rw [BitVec.allOnes_xor] at h
  exact h
theorem bt_get (s : ByteArray) (i : Nat) (h : i < s.data.toList.length) : bt s (i : Int) = ((s.data.toList[i]'h).toNat : Int) := by
  have hs : i < s.size := by rw [← data_length]; exact h
  unfold bt
  rw [dif_pos (by simpa using hs)]
  rfl
theorem byte32 (n : BitVec 32) (b : UInt8) : Go.bits .xor .u32 (n.toNat : Int) ((b.toNat : Int) % 4294967296) = ((n ^^^ BitVec.ofNat 32 b.toNat).toNat : Int) := by
  rw [← u32_xor]
  congr 1

/-! check.More -/
theorem more_l1 (s : ByteArray) (N X12 R : Int) (d : Nat) : ∀ (n : BitVec 32) (j : Int), j + d = 8 → 0 ≤ j → Ev (fun k => check_More.l0 k s ((steps d n).toNat : Int) N (wrap64 (X12 + 1))) R →
    Ev (fun k => check_More.l1 k s (n.toNat : Int) N X12 j) R := by
  induction d with
  | zero =>
    intro n j hj h0 h
    exact Ev.step (fun k => by rw [check_More.l1, if_neg (by omega)]; rfl) h
  | succ d ih =>
    intro n j hj h0 h
    refine Ev.step (f := fun k => check_More.l1 k s ((Crc.step n).toNat : Int) N X12 (j + 1)) (fun k => ?_) (ih _ _ (by omega) (by omega) h)
    rw [check_More.l1, if_pos (by omega), step_u32, w64 _ (by omega) (by omega)]
theorem more_l0 (s : ByteArray) (hs : s.size ≤ 140737488351232) (d : Nat) : ∀ (i : Nat) (n : BitVec 32), i + d = s.size →
    Ev (fun k => check_More.l0 k s (n.toNat : Int) (s.size : Int) (i : Int)) ((~~~ (fold n (s.data.toList.drop i))).toNat : Int) := by
  induction d with
  | zero =>
    intro i n hi
    refine Ev.step (f := fun _ => some _) (fun k => ?_) (Ev.now _)
    rw [check_More.l0, if_neg (by omega), neg32, List.drop_of_length_le (by rw [data_length]; omega)]
    rfl
  | succ d ih =>
    intro i n hi
    have hl : i < s.data.toList.length := by rw [data_length]; omega
    refine Ev.step (f := fun k => check_More.l1 k s ((n ^^^ BitVec.ofNat 32 (s.data.toList[i]'hl).toNat).toNat : Int) (s.size : Int) (i : Int) 0) (fun k => ?_) (more_l1 s _ _ _ 8 _ 0 (by omega) (by omega) ?_)
    · rw [check_More.l0, if_pos (by omega), if_pos (by omega), if_pos (by omega), bt_get s i hl, byte32]
    · rw [w64 _ (by omega) (by omega), List.drop_eq_getElem_cons hl]
      have := ih (i + 1) (byteStep n (s.data.toList[i]'hl)) (by omega)
      exact this
/-- the sum of a text behind a sum, as a number -/
def sumOf (a : Int) (s : ByteArray) : Int := ((crc (BitVec.ofInt 32 a) s.data.toList).toNat : Int)
theorem more_ev (a : Int) (s : ByteArray) (hs : s.size ≤ 140737488351232) : Ev (fun k => check_More.f k a s) (sumOf a s) := by
  have := more_l0 s hs s.size 0 (~~~ (BitVec.ofInt 32 a)) (by omega)
  refine Ev.congr (fun k => ?_) this
  unfold check_More.f
  rw [neg32']
  rfl
theorem sumOf_range (a : Int) (s : ByteArray) : 0 ≤ sumOf a s ∧ sumOf a s < 4294967296 := by
  unfold sumOf
  have := (crc (BitVec.ofInt 32 a) s.data.toList).isLt
  omega
theorem sum_ev (s : ByteArray) (hs : s.size ≤ 140737488351232) : Ev (fun k => check_Sum.f k s) (sumOf 0 s) := by
  unfold check_Sum.f
  exact Ev.bind (more_ev 0 s hs) (Ev.now _)

/-! the reference's More -/
theorem i64_xor_nat (a b : Nat) (ha : a < 9223372036854775808) (hb : b < 9223372036854775808) : Go.bits .xor .i64 (a : Int) (b : Int) = ((a ^^^ b : Nat) : Int) := by
  have hx : a ^^^ b < 2 ^ 63 := Nat.xor_lt_two_pow (by omega) (by omega)
  show IntKind.i64.wrap ((BitVec.ofInt 64 (a : Int) ^^^ BitVec.ofInt 64 (b : Int)).toNat : Int) = _
  rw [BitVec.toNat_xor, BitVec.ofInt_natCast, BitVec.ofInt_natCast, BitVec.toNat_ofNat, BitVec.toNat_ofNat, Nat.mod_eq_of_lt (by omega), Nat.mod_eq_of_lt (by omega), IntKind.wrap_i64]
  omega
theorem i64_and_nat (a b : Nat) (ha : a < 9223372036854775808) (hb : b < 9223372036854775808) : Go.bits .and .i64 (a : Int) (b : Int) = ((a &&& b : Nat) : Int) := by
  have hx : a &&& b < 2 ^ 63 := Nat.and_lt_two_pow _ (by omega)
  show IntKind.i64.wrap ((BitVec.ofInt 64 (a : Int) &&& BitVec.ofInt 64 (b : Int)).toNat : Int) = _
  rw [BitVec.toNat_and, BitVec.ofInt_natCast, BitVec.ofInt_natCast, BitVec.toNat_ofNat, BitVec.toNat_ofNat, Nat.mod_eq_of_lt (by omega), Nat.mod_eq_of_lt (by omega), IntKind.wrap_i64]
  omega
theorem i64_xor32 (a b : BitVec 32) : Go.bits .xor .i64 (a.toNat : Int) (b.toNat : Int) = ((a ^^^ b).toNat : Int) := by
  have := a.isLt; have := b.isLt
  rw [i64_xor_nat _ _ (by omega) (by omega), BitVec.toNat_xor]
theorem i64_mask (a : Int) : Go.bits .and .i64 a 4294967295 = ((BitVec.ofInt 32 a).toNat : Int) := by
  show IntKind.i64.wrap ((BitVec.ofInt 64 a &&& BitVec.ofInt 64 4294967295).toNat : Int) = _
  rw [BitVec.toNat_and, show (BitVec.ofInt 64 4294967295).toNat = 2 ^ 32 - 1 by decide, Nat.and_two_pow_sub_one_eq_mod, ← of32, BitVec.toNat_ofInt, IntKind.wrap_i64]
  omega
theorem i64_neg (n : BitVec 32) : Go.bits .xor .i64 (n.toNat : Int) 4294967295 = ((~~~ n).toNat : Int) := by
  have h := i64_xor32 n (BitVec.allOnes 32)
  rw [BitVec.xor_allOnes] at h
  exact h
theorem i64_poly (n : BitVec 32) : Go.bits .xor .i64 (n.toNat : Int) 2197175160 = ((n ^^^ poly).toNat : Int) := i64_xor32 n poly
theorem i64_one (n : Nat) (h : n < 9223372036854775808) : Go.bits .and .i64 (n : Int) 1 = ((n % 2 : Nat) : Int) := by
  have := i64_and_nat n 1 h (by omega)
  rw [Nat.and_one_is_mod] at this
  exact this
theorem lsb_mod (n : BitVec 32) : (n.getLsbD 0 = true) ↔ n.toNat % 2 = 1 := by
  rw [BitVec.getLsbD, Nat.testBit_zero]; simp
theorem same_bit (n : BitVec 32) (b : UInt8) (j : Nat) (hj : j < 8) : (Go.bits .and .i64 (n.toNat : Int) 1 = Go.bits .and .i64 (shr .i64 (wrap64 (b.toNat : Int)) (j : Int)) 1) ↔ (n.getLsbD 0 ^^ b.toNat.testBit j) = false := by
  have hb := b.toNat_lt
  have hn := n.isLt
  have e : shr .i64 (wrap64 (b.toNat : Int)) (j : Int) = ((b.toNat / 2 ^ j : Nat) : Int) := by
    rw [w64 _ (by omega) (by omega)]
    unfold shr
    simp only [Int.toNat_natCast]
    rw [Nat.min_eq_left (by show j ≤ 64; omega)]
    rw [Int.natCast_ediv, Int.natCast_pow]
    rfl
  have hd : b.toNat / 2 ^ j ≤ b.toNat := Nat.div_le_self _ _
  rw [e, i64_one _ (by omega), i64_one _ (by omega)]
  have h1 := lsb_mod n
  have h2 : b.toNat.testBit j = true ↔ b.toNat / 2 ^ j % 2 = 1 := by rw [Nat.testBit_eq_decide_div_mod_eq]; simp
  cases hx : n.getLsbD 0 <;> cases hy : b.toNat.testBit j <;> simp_all <;> omega
theorem ref_l1 (s : ByteArray) (i : Nat) (hl : i < s.data.toList.length) (hi : i < s.size) (R : Int) (d : Nat) : ∀ (n : BitVec 32) (j : Nat), j + d = 8 →
    Ev (fun k => peristyleref03_More.l0 k s ((bsteps n ((byteBits (s.data.toList[i]'hl).toNat).drop j)).toNat : Int) (wrap64 ((i : Int) + 1))) R →
    Ev (fun k => peristyleref03_More.l1 k s (n.toNat : Int) (i : Int) (j : Int)) R := by
  induction d with
  | zero =>
    intro n j hj h
    rw [List.drop_of_length_le (by simp [byteBits]; omega)] at h
    exact Ev.step (fun k => by rw [peristyleref03_More.l1, if_neg (by omega)]; rfl) h
  | succ d ih =>
    intro n j hj h
    have hlen : j < (byteBits (s.data.toList[i]'hl).toNat).length := by simp [byteBits]; omega
    have hb : (byteBits (s.data.toList[i]'hl).toNat)[j]'hlen = (s.data.toList[i]'hl).toNat.testBit j := by simp [byteBits]
    rw [List.drop_eq_getElem_cons hlen, hb] at h
    refine Ev.step (f := fun k => peristyleref03_More.l1 k s ((bstep n ((s.data.toList[i]'hl).toNat.testBit j)).toNat : Int) (i : Int) ((j + 1 : Nat) : Int)) (fun k => ?_) (ih _ _ (by omega) h)
    rw [peristyleref03_More.l1, if_pos (by omega), if_pos (by omega), if_pos (by omega), if_pos (by omega), bt_get s i hl, half32, w64 ((j : Int) + 1) (by omega) (by omega), Int.natCast_add, Int.natCast_one]
    have hiff := same_bit n (s.data.toList[i]'hl) j (by omega)
    by_cases hc : (n.getLsbD 0 ^^ (s.data.toList[i]'hl).toNat.testBit j) = false
    · rw [if_pos (hiff.2 hc)]
      unfold bstep
      rw [hc]
      simp
    · rw [if_neg (fun h => hc (hiff.1 h)), i64_poly]
      unfold bstep
      rw [(Bool.not_eq_false _).mp hc, if_pos rfl]
theorem ref_l0 (s : ByteArray) (hs : s.size ≤ 140737488351232) (d : Nat) : ∀ (i : Nat) (n : BitVec 32), i + d = s.size →
    Ev (fun k => peristyleref03_More.l0 k s (n.toNat : Int) (i : Int)) ((~~~ (fold n (s.data.toList.drop i))).toNat : Int) := by
  induction d with
  | zero =>
    intro i n hi
    refine Ev.step (f := fun _ => some _) (fun k => ?_) (Ev.now _)
    rw [peristyleref03_More.l0, if_neg (by omega), i64_neg, List.drop_of_length_le (by rw [data_length]; omega)]
    rfl
  | succ d ih =>
    intro i n hi
    have hl : i < s.data.toList.length := by rw [data_length]; omega
    refine Ev.step (f := fun k => peristyleref03_More.l1 k s (n.toNat : Int) (i : Int) ((0 : Nat) : Int)) (fun k => ?_) (ref_l1 s i hl (by omega) _ 8 _ 0 (by omega) ?_)
    · rw [peristyleref03_More.l0, if_pos (by omega)]
      rfl
    · rw [w64 _ (by omega) (by omega), List.drop_eq_getElem_cons hl, List.drop_zero, ← byte_bits]
      exact ih (i + 1) _ (by omega)
theorem rmore_ev (a : Int) (s : ByteArray) (hs : s.size ≤ 140737488351232) : Ev (fun k => peristyleref03_More.f k a s) (sumOf a s) := by
  have := ref_l0 s hs s.size 0 (~~~ (BitVec.ofInt 32 a)) (by omega)
  refine Ev.congr (fun k => ?_) this
  unfold peristyleref03_More.f
  rw [i64_mask, i64_neg]
  rfl
theorem rsum_ev (s : ByteArray) (hs : s.size ≤ 140737488351232) : Ev (fun k => peristyleref03_Sum.f k s) (sumOf 0 s) := by
  unfold peristyleref03_Sum.f
  exact Ev.bind (rmore_ev 0 s hs) (Ev.now _)

/-! sealing -/
theorem shr_u32 (x : Nat) (j : Nat) (hj : j ≤ 32) : shr .u32 (x : Int) (j : Int) = ((x / 2 ^ j : Nat) : Int) := by
  unfold shr
  simp only [Int.toNat_natCast]
  rw [Nat.min_eq_left (show j ≤ IntKind.u32.bits from hj), Int.natCast_ediv, Int.natCast_pow]
  rfl
/-- the four bytes of a sum, lowest first -/
def le4 (n : Int) : List Int := [n % 256, n / 256 % 256, n / 65536 % 256, n / 16777216 % 256]
def sealOf (s : ByteArray) : ByteArray := strOfNums (bytesOf s ++ le4 (sumOf 0 s))
theorem seal_l0_go (n : Nat) (xs : List Int) (hx : xs.length < 1000000000000) : Ev (fun k => check_Seal.l0 k (n : Int) xs 0) (strOfNums (xs ++ le4 (n : Int))) := by
  have e0 : wrap64 (8 * 0) = ((0 : Nat) : Int) := w64 _ (by decide) (by decide)
  have e1 : wrap64 (8 * 1) = ((8 : Nat) : Int) := w64 _ (by decide) (by decide)
  have e2 : wrap64 (8 * 2) = ((16 : Nat) : Int) := w64 _ (by decide) (by decide)
  have e3 : wrap64 (8 * 3) = ((24 : Nat) : Int) := w64 _ (by decide) (by decide)
  refine Ev.step (f := fun k => check_Seal.l0 k (n : Int) (xs ++ [(n : Int) % 256]) 1) (fun k => ?_) ?_
  · rw [check_Seal.l0, if_pos (by decide), e0, if_pos (by decide), if_pos (by omega), shr_u32 _ _ (by decide), w64 (0 + 1) (by decide) (by decide)]
    simp
  refine Ev.step (f := fun k => check_Seal.l0 k (n : Int) (xs ++ [(n : Int) % 256] ++ [(n : Int) / 256 % 256]) 2) (fun k => ?_) ?_
  · rw [check_Seal.l0, if_pos (by decide), e1, if_pos (by decide), if_pos (by simp; omega), shr_u32 _ _ (by decide), w64 (1 + 1) (by decide) (by decide), Int.natCast_ediv]
    rfl
  refine Ev.step (f := fun k => check_Seal.l0 k (n : Int) (xs ++ [(n : Int) % 256] ++ [(n : Int) / 256 % 256] ++ [(n : Int) / 65536 % 256]) 3) (fun k => ?_) ?_
  · rw [check_Seal.l0, if_pos (by decide), e2, if_pos (by decide), if_pos (by simp; omega), shr_u32 _ _ (by decide), w64 (2 + 1) (by decide) (by decide), Int.natCast_ediv]
    rfl
  refine Ev.step (f := fun k => check_Seal.l0 k (n : Int) (xs ++ [(n : Int) % 256] ++ [(n : Int) / 256 % 256] ++ [(n : Int) / 65536 % 256] ++ [(n : Int) / 16777216 % 256]) 4) (fun k => ?_) ?_
  · rw [check_Seal.l0, if_pos (by decide), e3, if_pos (by decide), if_pos (by simp; omega), shr_u32 _ _ (by decide), w64 (3 + 1) (by decide) (by decide), Int.natCast_ediv]
    rfl
  refine Ev.step (f := fun k => some _) (fun k => ?_) (Ev.now _)
  rw [check_Seal.l0, if_neg (by decide)]
  simp [le4]
theorem seal_ev (s : ByteArray) (hs : s.size ≤ 100000000000) : Ev (fun k => check_Seal.f k s) (sealOf s) := by
  unfold check_Seal.f
  refine Ev.bind (sum_ev s (by omega)) ?_
  have hr := sumOf_range 0 s
  refine Ev.congr (f := fun k => check_Seal.l0 k (sumOf 0 s) (bytesOf s) 0) (fun k => ?_) ?_
  · rw [w64 _ (by omega) (by omega), if_pos (by omega), if_pos (by omega)]
    simp only [Option.bind_some]
    rw [if_pos (by simp; omega)]
    rw [Int.emod_eq_of_lt hr.1 hr.2]
    rfl
  · obtain ⟨m, hm⟩ := Int.eq_ofNat_of_zero_le hr.1
    unfold sealOf
    rw [hm]
    exact seal_l0_go m _ (by rw [bytesOf_length]; omega)
theorem sealOf_data (s : ByteArray) : (sealOf s).data.toList = s.data.toList ++ (le4 (sumOf 0 s)).map fun n => UInt8.ofNat n.toNat := by
  unfold sealOf
  rw [strOfNums_data, List.map_append]
  congr 1
  unfold bytesOf
  rw [List.map_map]
  conv => rhs; rw [← List.map_id s.data.toList]
  apply List.map_congr_left
  intro b _
  simp
theorem sealOf_size (s : ByteArray) : (sealOf s).size = s.size + 4 := by
  unfold sealOf
  rw [strOfNums_size, List.length_append, bytesOf_length]
  rfl
theorem and255 (n : Nat) (h : n < 9223372036854775808) : Go.bits .and .i64 (n : Int) 255 % 256 = ((n % 256 : Nat) : Int) := by
  have := i64_and_nat n 255 h (by omega)
  rw [show (255 : Nat) = 2 ^ 8 - 1 from rfl, Nat.and_two_pow_sub_one_eq_mod] at this
  rw [show ((2 ^ 8 - 1 : Nat) : Int) = 255 from rfl] at this
  rw [this]
  omega
theorem rseal_ev (s : ByteArray) (hs : s.size ≤ 100000000000) : Ev (fun k => peristyleref03_Seal.f k s) (sealOf s) := by
  unfold peristyleref03_Seal.f
  refine Ev.bind (rsum_ev s (by omega)) ?_
  have hr := sumOf_range 0 s
  obtain ⟨m, hm⟩ := Int.eq_ofNat_of_zero_le hr.1
  refine Ev.congr (f := fun k => some _) (fun k => ?_) (Ev.now _)
  have h0 := and255 m (by omega)
  have h1 := and255 (m / 256) (by omega)
  have h2 := and255 (m / 65536) (by omega)
  have h3 := and255 (m / 16777216) (by omega)
  rw [Int.natCast_ediv] at h1 h2 h3
  simp only [Option.bind_some]
  rw [hm]
  rw [show ((256 : Nat) : Int) = 256 from rfl] at h1
  rw [show ((65536 : Nat) : Int) = 65536 from rfl] at h2
  rw [show ((16777216 : Nat) : Int) = 16777216 from rfl] at h3
  rw [h0, h1, h2, h3, if_pos (by rw [strOfNums_size]; simp; omega)]
  congr 1
  apply ByteArray.ext
  apply Array.toList_inj.1
  rw [sealOf_data, hm]
  simp only [ByteArray.data_append, Array.toList_append, strOfNums_data, le4]
  simp
/-- what is sealed, and whether -/
def openOf (s : ByteArray) : ByteArray × Int :=
  if s.size < 4 then (⟨#[]⟩, 5) else if (sealOf (s.extract 0 (s.size - 4))).data.toList = s.data.toList then (s.extract 0 (s.size - 4), 0) else (⟨#[]⟩, 5)
theorem open_ev (s : ByteArray) (hs : s.size ≤ 100000000000) : Ev (fun k => check_Open.f k s) (openOf s) := by
  unfold check_Open.f openOf
  rw [w64 _ (by omega) (by omega)]
  by_cases h : s.size < 4
  · simp only [if_pos h]
    exact ev_pos (by omega) (Ev.now _)
  · simp only [if_neg h]
    refine ev_neg (by omega) (ev_pos (by omega) (ev_pos (by omega) ?_))
    rw [show ((s.size : Int) - 4).toNat = s.size - 4 by omega]
    refine Ev.bind (seal_ev _ (by simp; omega)) ?_
    rw [Lib.toList_data, Lib.toList_data]
    by_cases e : (sealOf (s.extract 0 (s.size - 4))).data.toList = s.data.toList
    · simp only [if_pos e]; exact Ev.now _
    · simp only [if_neg e]; exact Ev.now _
theorem ropen_ev (s : ByteArray) (hs : s.size ≤ 100000000000) : Ev (fun k => peristyleref03_Open.f k s) (openOf s) := by
  unfold peristyleref03_Open.f openOf
  rw [w64 _ (by omega) (by omega)]
  by_cases h : s.size < 4
  · simp only [if_pos h]
    exact ev_pos (by omega) (Ev.now _)
  · simp only [if_neg h]
    refine ev_neg (by omega) (ev_pos (by omega) (ev_pos (by omega) ?_))
    rw [show ((s.size : Int) - 4).toNat = s.size - 4 by omega]
    refine Ev.bind (rseal_ev _ (by simp; omega)) ?_
    rw [Lib.toList_data, Lib.toList_data]
    by_cases e : (sealOf (s.extract 0 (s.size - 4))).data.toList = s.data.toList
    · simp only [if_pos e]; exact Ev.now _
    · simp only [if_neg e]; exact Ev.now _
theorem open_seal (s : ByteArray) : openOf (sealOf s) = (s, 0) := by
  have e : (sealOf s).extract 0 ((sealOf s).size - 4) = s := by
    apply ByteArray.ext
    apply Array.toList_inj.1
    rw [ByteArray.data_extract, Array.toList_extract, sealOf_data, sealOf_size, List.extract_eq_take_drop]
    simp [data_length]
  unfold openOf
  rw [if_neg (by rw [sealOf_size]; omega), e, if_pos rfl]
def column : ByteArray := ⟨#[99, 111, 108, 117, 109, 110]⟩
theorem awake_ev : Ev (fun k => peristylelaw03_awake.f k) true := by
  unfold peristylelaw03_awake.f
  have h1 : sumOf 0 ⟨#[49, 50, 51, 52, 53, 54, 55, 56, 57]⟩ = 3808858755 := by decide +kernel
  have h2 : sumOf (sumOf 0 ⟨#[49, 50, 51, 52]⟩) ⟨#[53, 54, 55, 56, 57]⟩ = 3808858755 := by decide +kernel
  refine Ev.bind (seal_ev _ (by decide)) ?_
  refine Ev.bind (open_ev _ (by rw [sealOf_size]; decide)) ?_
  rw [open_seal]
  refine Ev.bind (sum_ev _ (by decide)) ?_
  refine ev_pos h1 ?_
  refine Ev.bind (sum_ev _ (by decide)) ?_
  refine Ev.bind (more_ev _ _ (by decide)) ?_
  refine ev_pos h2 (ev_pos (by rw [Lib.toList_data]) (Ev.now _))
end Go.Proofs.Ytgjclhhjigflkaa.Ck
