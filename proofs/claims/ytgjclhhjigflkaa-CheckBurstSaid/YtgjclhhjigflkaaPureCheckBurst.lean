/- The law CheckBurst, plain. -/
import Derived.Test.YtgjclhhjigflkaaWalkBurst
import Derived.Test.YtgjclhhjigflkaaEvCheck
namespace Go.Proofs.Ytgjclhhjigflkaa.Pure
set_option linter.unusedVariables false
set_option linter.unusedSimpArgs false
open Go.RowKit Go.Proofs.Ytgjclhhjigflkaa.M Go.Proofs.Ytgjclhhjigflkaa.EvW Go.Proofs.Ytgjclhhjigflkaa.Crc Go.Proofs.Ytgjclhhjigflkaa.Ck Go.Proofs.YtgjclhhjigflkaaW.PrintWords Go.Proofs.YtgjclhhjigflkaaW.PrintLast
/-! the bits of bytes, by place -/
def bitAt (l : List UInt8) (p : Nat) : Bool := (l.getD (p / 8) 0).toNat.testBit (p % 8)
theorem bits_map (l : List UInt8) : bitsOf l = (List.range (8 * l.length)).map (bitAt l) := by
  induction l with
  | nil => rfl
  | cons b l ih =>
    have e : bitsOf (b :: l) = byteBits b.toNat ++ bitsOf l := by unfold bitsOf; rw [List.flatMap_cons]
    rw [e, ih, List.length_cons, show 8 * (l.length + 1) = 8 + 8 * l.length by omega, List.range_add, List.map_append, List.map_map]
    congr 1
    apply List.map_congr_left
    intro i _
    unfold bitAt
    show _ = ((b :: l).getD ((8 + i) / 8) 0).toNat.testBit ((8 + i) % 8)
    rw [show (8 + i) / 8 = i / 8 + 1 by omega, show (8 + i) % 8 = i % 8 by omega, List.getD_cons_succ]
theorem bitAt_flip (l : List UInt8) (k p : Nat) (hk : k / 8 < l.length) : bitAt (M.flip l k) p = (bitAt l p ^^ decide (p = k)) := by
  unfold bitAt M.flip
  by_cases e : k / 8 = p / 8
  · rw [← e, List.getD_eq_getElem?_getD, List.getElem?_set_self hk]
    simp only [Option.getD_some]
    have hp2 : 2 ^ (k % 8) < 256 := Nat.lt_of_lt_of_le (Nat.pow_lt_pow_right (by decide) (Nat.mod_lt k (by decide))) (by decide)
    rw [UInt8.toNat_xor, UInt8.toNat_ofNat', Nat.mod_eq_of_lt hp2, Nat.testBit_xor, Nat.testBit_two_pow]
    congr 1
    apply decide_eq_decide.2
    omega
  · rw [List.getD_eq_getElem?_getD, List.getElem?_set_ne e, ← List.getD_eq_getElem?_getD, decide_eq_false (by intro h; subst h; exact e rfl), Bool.xor_false]
theorem bitAt_turn (D : List UInt8) (F : Nat) (y : Int) (i : Nat) (h : F + i ≤ 8 * D.length) (p : Nat) : bitAt (turnS D F y i) p = (bitAt D p ^^ (decide (F ≤ p ∧ p < F + i) && bitOf y (p - F))) := by
  induction i with
  | zero =>
    rw [decide_eq_false (by omega), Bool.false_and, Bool.xor_false]
    rfl
  | succ i ih =>
    have ih := ih (by omega)
    rw [turnS]
    by_cases hb : bitOf y i = true
    · rw [if_pos hb, bitAt_flip _ _ _ (by rw [turnS_length]; omega), ih, Bool.xor_assoc]
      congr 1
      by_cases hp : p = F + i
      · subst hp
        rw [decide_eq_false (by omega), decide_eq_true rfl, decide_eq_true (by omega), Nat.add_sub_cancel_left, hb]
        rfl
      · rw [decide_eq_false hp, Bool.xor_false]
        congr 1
        apply decide_eq_decide.2
        omega
    · rw [if_neg hb, ih]
      congr 1
      by_cases hp : p = F + i
      · subst hp
        rw [decide_eq_false (by omega), Nat.add_sub_cancel_left, Bool.eq_false_iff.mpr hb, Bool.and_false, Bool.and_false]
      · congr 1
        apply decide_eq_decide.2
        omega
def maskV (y : Int) (m : Nat) : BitVec 32 := BitVec.ofNat 32 ((BitVec.ofInt 64 y).toNat % 2 ^ m)
theorem maskV_bit (y : Int) (m i : Nat) : (maskV y m).getLsbD i = (decide (i < 32) && (decide (i < m) && bitOf y i)) := by
  unfold maskV bitOf
  rw [BitVec.getLsbD_ofNat, Nat.testBit_mod_two_pow]
  rfl
theorem turn_bits (D : List UInt8) (F : Nat) (y : Int) (m : Nat) (h : F + m ≤ 8 * D.length) (hm : m ≤ 32) :
    bitsOf (turnS D F y m) = List.zipWith (fun a b => a ^^ b) (bitsOf D) (List.replicate F false ++ lowBits m (maskV y m) ++ List.replicate (8 * D.length - F - m) false) := by
  have e : List.replicate F false ++ lowBits m (maskV y m) ++ List.replicate (8 * D.length - F - m) false = (List.range (8 * D.length)).map (fun p => decide (F ≤ p ∧ p < F + m) && bitOf y (p - F)) := by
    rw [show 8 * D.length = F + m + (8 * D.length - F - m) by omega, List.range_add, List.range_add, List.map_append, List.map_append, List.map_map, List.map_map, show F + m + (8 * D.length - F - m) - F - m = 8 * D.length - F - m by omega]
    congr 1
    · congr 1
      · symm
        rw [List.eq_replicate_iff]
        refine ⟨by simp, fun b hb => ?_⟩
        obtain ⟨p, hp, rfl⟩ := List.mem_map.1 hb
        have : p < F := by simpa using hp
        rw [decide_eq_false (by omega), Bool.false_and]
      · unfold lowBits
        apply List.map_congr_left
        intro i hi
        have : i < m := by simpa using hi
        show _ = (decide (F ≤ F + i ∧ F + i < F + m) && bitOf y (F + i - F))
        rw [maskV_bit, decide_eq_true (by omega), decide_eq_true (by omega), decide_eq_true (by omega), Nat.add_sub_cancel_left]
        rfl
    · symm
      rw [List.eq_replicate_iff]
      refine ⟨by simp, fun b hb => ?_⟩
      obtain ⟨p, hp, rfl⟩ := List.mem_map.1 hb
      show (decide (F ≤ F + m + p ∧ F + m + p < F + m) && bitOf y (F + m + p - F)) = false
      rw [decide_eq_false (by omega), Bool.false_and]
  rw [e, bits_map, bits_map, turnS_length, List.zipWith_map, List.zipWith_self]
  apply List.map_congr_left
  intro p _
  exact bitAt_turn D F y m h p
theorem turnB_ex (y : Int) (m : Nat) (h : turnB y m = true) : ∃ i, i < m ∧ bitOf y i = true := by
  induction m with
  | zero => cases h
  | succ m ih =>
    rw [turnB, Bool.or_eq_true] at h
    rcases h with h | h
    · exact ⟨m, by omega, h⟩
    · obtain ⟨i, h1, h2⟩ := ih h
      exact ⟨i, by omega, h2⟩
theorem turnS_same (D : List UInt8) (F : Nat) (y : Int) (m : Nat) (h : turnB y m = false) : turnS D F y m = D := by
  induction m with
  | zero => rfl
  | succ m ih =>
    rw [turnB, Bool.or_eq_false_iff] at h
    rw [turnS, if_neg (by rw [h.1]; decide), ih h.2]
/-! what is sealed has one sum -/
theorem low32 (m : Nat) : byteBits (m % 256) ++ (byteBits (m / 256 % 256) ++ (byteBits (m / 65536 % 256) ++ byteBits (m / 16777216 % 256))) = (List.range 32).map m.testBit := by
  have tb : ∀ j i, i < 8 → (m / 2 ^ j % 256).testBit i = m.testBit (j + i) := by
    intro j i hi
    rw [show (256 : Nat) = 2 ^ 8 from rfl, Nat.testBit_mod_two_pow, Nat.testBit_div_two_pow, decide_eq_true hi, Nat.add_comm i j]
    rfl
  have part : ∀ j, byteBits (m / 2 ^ j % 256) = (List.range 8).map (fun i => m.testBit (j + i)) := by
    intro j
    unfold byteBits
    apply List.map_congr_left
    intro i hi
    exact tb j i (by simpa using hi)
  have h0 := part 0
  have h1 := part 8
  have h2 := part 16
  have h3 := part 24
  rw [Nat.pow_zero, Nat.div_one] at h0
  rw [show (256 : Nat) = 2 ^ 8 from rfl, show (65536 : Nat) = 2 ^ 16 from rfl, show (16777216 : Nat) = 2 ^ 24 from rfl] at *
  rw [h0, h1, h2, h3]
  rfl
theorem sealed_fold (s : ByteArray) : fold (~~~ 0#32) (sealOf s).data.toList = steps 32 (BitVec.allOnes 32) := by
  rw [sealOf_data, fold_append]
  obtain ⟨n, hn⟩ : ∃ n, fold (~~~ 0#32) s.data.toList = n := ⟨_, rfl⟩
  have hsum : sumOf 0 s = ((~~~ n).toNat : Int) := by unfold sumOf crc; rw [show BitVec.ofInt 32 0 = 0#32 from rfl, hn]
  rw [hn, fold_bits, hsum]
  obtain ⟨m, hm⟩ : ∃ m, (~~~ n).toNat = m := ⟨_, rfl⟩
  have hm32 : m < 4294967296 := by have := (~~~ n).isLt; omega
  have e : bitsOf ((le4 (m : Int)).map fun n => UInt8.ofNat n.toNat) = lowBits 32 (~~~ n) := by
    have u : ∀ x : Nat, (UInt8.ofNat (x % 256)).toNat = x % 256 := fun x => by rw [UInt8.toNat_ofNat']; omega
    have e2 : lowBits 32 (~~~ n) = (List.range 32).map m.testBit := by
      unfold lowBits
      apply List.map_congr_left
      intro i _
      rw [← hm]
      rfl
    rw [e2, ← low32]
    have e3 : (le4 (m : Int)).map (fun n => UInt8.ofNat n.toNat) = [UInt8.ofNat (m % 256), UInt8.ofNat (m / 256 % 256), UInt8.ofNat (m / 65536 % 256), UInt8.ofNat (m / 16777216 % 256)] := by
      unfold le4
      simp only [List.map_cons, List.map_nil]
      rw [show ((m : Int) % 256).toNat = m % 256 by omega, show ((m : Int) / 256 % 256).toNat = m / 256 % 256 by omega, show ((m : Int) / 65536 % 256).toNat = m / 65536 % 256 by omega, show ((m : Int) / 16777216 % 256).toNat = m / 16777216 % 256 by omega]
    rw [e3]
    unfold bitsOf
    simp only [List.flatMap_cons, List.flatMap_nil, List.append_nil, u]
  rw [hm, e, bsteps_low 32 _ _ (fun i hi => by simp; omega)]
  congr 1
  apply BitVec.eq_of_getLsbD_eq
  intro i hi
  rw [BitVec.getLsbD_xor, BitVec.getLsbD_not, BitVec.getLsbD_allOnes, decide_eq_true hi]
  cases n.getLsbD i <;> rfl
theorem CheckBurst : peristylelaw03_CheckBurst.Pure := by
  intro a0 a1 a2 hs _ _
  refine Ev.rounds ?_
  by_cases h : (a0.size : Int) > 1024
  · exact ev_pos h awake_ev
  · refine ev_neg h (Ev.bind (seal_ev a0 (by omega)) ?_)
    have hsz := sealOf_size a0
    refine ev_pos hsz ?_
    obtain ⟨F, hF⟩ : ∃ F, firstOf a1 (sealOf a0).size = F := ⟨_, rfl⟩
    obtain ⟨m, hm⟩ : ∃ m, mostOf F (sealOf a0).size = m := ⟨_, rfl⟩
    rw [hF, hm]
    obtain ⟨S, hS⟩ : ∃ S : ByteArray, (⟨(turnS (sealOf a0).data.toList F a2 m).toArray⟩ : ByteArray) = S := ⟨_, rfl⟩
    have hSd : S.data.toList = turnS (sealOf a0).data.toList F a2 m := by rw [← hS]
    have hDl : (sealOf a0).data.toList.length = a0.size + 4 := by rw [data_length, hsz]
    have hSs : S.size = a0.size + 4 := by rw [← data_length, hSd, turnS_length, hDl]
    rw [hS]
    refine Ev.bind (open_ev S (by omega)) (Ev.bind awake_ev ?_)
    refine Ev.congr (fun k => ?_) (Ev.now _)
    have key : (openOf S).2 = if turnB a2 m = true then 5 else 0 := by
      by_cases hT : turnB a2 m = true
      · rw [if_pos hT]
        unfold openOf
        rw [if_neg (by omega)]
        by_cases hO : (sealOf (S.extract 0 (S.size - 4))).data.toList = S.data.toList
        · exfalso
          obtain ⟨i, hi, hbit⟩ := turnB_ex a2 m hT
          have hm2 : m ≤ 32 ∧ F + m ≤ 8 * (a0.size + 4) := by
            rw [hsz] at hm
            unfold mostOf at hm
            omega
          have f1 := sealed_fold (S.extract 0 (S.size - 4))
          rw [hO, hSd, fold_bits, turn_bits _ _ _ _ (by rw [hDl]; exact hm2.2) hm2.1] at f1
          have f2 := sealed_fold a0
          rw [fold_bits] at f2
          have f3 := bsteps_zip (bitsOf (sealOf a0).data.toList) (List.replicate F false ++ lowBits m (maskV a2 m) ++ List.replicate (8 * (sealOf a0).data.toList.length - F - m) false) (~~~ 0#32) 0#32 (by rw [bits_map]; simp [lowBits]; omega)
          rw [BitVec.xor_zero, f1, f2] at f3
          refine burst F m (8 * (sealOf a0).data.toList.length - F - m) (maskV a2 m) (fun j hj => ?_) (fun hv => ?_) ?_
          · rw [maskV_bit, decide_eq_false (show ¬ j < m by omega), Bool.false_and, Bool.and_false]
          · have := maskV_bit a2 m i
            rw [hv, hbit, decide_eq_true (show i < 32 by omega), decide_eq_true hi] at this
            simp at this
          · have f4 := congrArg (fun x => steps 32 (BitVec.allOnes 32) ^^^ x) f3
            simp only [← BitVec.xor_assoc, BitVec.xor_self, BitVec.zero_xor] at f4
            exact f4.symm
        · rw [if_neg hO]
      · rw [if_neg hT]
        have hS2 : S = sealOf a0 := by
          apply ByteArray.ext
          apply Array.toList_inj.1
          rw [hSd, turnS_same _ _ _ _ (Bool.eq_false_iff.mpr hT)]
        rw [hS2, open_seal]
    rw [key]
    cases turnB a2 m <;> rfl
end Go.Proofs.Ytgjclhhjigflkaa.Pure
