/- CRC-32C over bit vectors: steps, linearity, injectivity, bursts. No Go here. -/
import Derived.Laws.BitsAllLaws
namespace Go.Proofs.Ytgjclhhjigflkaa.Crc
set_option linter.unusedVariables false
set_option linter.unusedSimpArgs false

def poly : BitVec 32 := 0x82f63b78#32
def step (n : BitVec 32) : BitVec 32 := (n >>> 1) ^^^ (if n.getLsbD 0 then poly else 0#32)
def bstep (n : BitVec 32) (b : Bool) : BitVec 32 := (n >>> 1) ^^^ (if n.getLsbD 0 ^^ b then poly else 0#32)
def steps : Nat → BitVec 32 → BitVec 32
  | 0, n => n
  | k + 1, n => steps k (step n)
def bsteps (n : BitVec 32) (l : List Bool) : BitVec 32 := l.foldl bstep n
def byteBits (b : Nat) : List Bool := (List.range 8).map fun i => b.testBit i
def byteStep (n : BitVec 32) (b : UInt8) : BitVec 32 := steps 8 (n ^^^ BitVec.ofNat 32 b.toNat)
def fold (n : BitVec 32) (l : List UInt8) : BitVec 32 := l.foldl byteStep n

theorem steps_succ' (k : Nat) (n : BitVec 32) : steps (k + 1) n = step (steps k n) := by
  induction k generalizing n with
  | zero => rfl
  | succ k ih => rw [steps, ih]; rfl

theorem ite_xor (a b : Bool) (p : BitVec 32) : (if a ^^ b then p else 0#32) = (if a then p else 0#32) ^^^ (if b then p else 0#32) := by
  cases a <;> cases b <;> simp

theorem step_xor (a b : BitVec 32) : step (a ^^^ b) = step a ^^^ step b := by
  unfold step
  rw [BitVec.getLsbD_xor, ite_xor, BitVec.ushiftRight_xor_distrib]
  ac_rfl

theorem steps_xor (k : Nat) (a b : BitVec 32) : steps k (a ^^^ b) = steps k a ^^^ steps k b := by
  induction k generalizing a b with
  | zero => rfl
  | succ k ih => rw [steps, step_xor, ih]; rfl

theorem step_zero : step 0#32 = 0#32 := by decide
theorem steps_zero (k : Nat) : steps k 0#32 = 0#32 := by
  induction k with
  | zero => rfl
  | succ k ih => rw [steps, step_zero, ih]

theorem step_eq_zero {a : BitVec 32} (h : step a = 0#32) : a = 0#32 := by
  have h31 : (step a).getLsbD 31 = false := by rw [h]; rfl
  have h0 : a.getLsbD 0 = false := by
    cases e : a.getLsbD 0 with
    | false => rfl
    | true =>
      unfold step at h31
      rw [e] at h31
      simp [poly, BitVec.getLsbD_xor] at h31
  unfold step at h
  rw [h0] at h
  simp only [Bool.false_eq_true, if_false, BitVec.xor_zero] at h
  apply BitVec.eq_of_getLsbD_eq
  intro i hi
  cases i with
  | zero => simpa using h0
  | succ i =>
    have := congrArg (fun x => BitVec.getLsbD x i) h
    simpa [Nat.add_comm] using this

theorem steps_eq_zero {k : Nat} {a : BitVec 32} (h : steps k a = 0#32) : a = 0#32 := by
  induction k generalizing a with
  | zero => exact h
  | succ k ih => exact step_eq_zero (ih h)

theorem xor_eq_zero {a b : BitVec 32} (h : a ^^^ b = 0#32) : a = b := by
  have : a ^^^ b ^^^ b = 0#32 ^^^ b := by rw [h]
  rwa [BitVec.xor_assoc, BitVec.xor_self, BitVec.xor_zero, BitVec.zero_xor] at this

theorem steps_inj {k : Nat} {a b : BitVec 32} (h : steps k a = steps k b) : a = b := by
  apply xor_eq_zero
  apply steps_eq_zero (k := k)
  rw [steps_xor, h, BitVec.xor_self]

/-! bit by bit -/
def bitVal (b : Bool) : BitVec 32 := if b then 1#32 else 0#32
theorem bstep_eq (n : BitVec 32) (v : BitVec 32) : step (n ^^^ v) = bstep n (v.getLsbD 0) ^^^ (v >>> 1) := by
  unfold step bstep
  rw [BitVec.getLsbD_xor, BitVec.ushiftRight_xor_distrib]
  ac_rfl
theorem bstep_xor (n m : BitVec 32) (a b : Bool) : bstep (n ^^^ m) (a ^^ b) = bstep n a ^^^ bstep m b := by
  unfold bstep
  rw [BitVec.getLsbD_xor, BitVec.ushiftRight_xor_distrib, show (((n.getLsbD 0 ^^ m.getLsbD 0) ^^ (a ^^ b)) = ((n.getLsbD 0 ^^ a) ^^ (m.getLsbD 0 ^^ b))) by cases n.getLsbD 0 <;> cases m.getLsbD 0 <;> cases a <;> cases b <;> rfl, ite_xor]
  ac_rfl
theorem bstep_false (n : BitVec 32) : bstep n false = step n := by unfold bstep step; simp
def lowBits (m : Nat) (v : BitVec 32) : List Bool := (List.range m).map fun i => v.getLsbD i
theorem lowBits_succ (m : Nat) (v : BitVec 32) : lowBits (m + 1) v = v.getLsbD 0 :: lowBits m (v >>> 1) := by
  unfold lowBits
  rw [List.range_succ_eq_map]
  simp [Function.comp_def, Nat.add_comm]
theorem bsteps_low (m : Nat) : ∀ (n v : BitVec 32), (∀ i, m ≤ i → v.getLsbD i = false) → bsteps n (lowBits m v) = steps m (n ^^^ v) := by
  induction m with
  | zero =>
    intro n v h
    have : v = 0#32 := by
      apply BitVec.eq_of_getLsbD_eq
      intro i _
      simpa using h i (Nat.zero_le _)
    subst this
    simp [bsteps, lowBits, steps]
  | succ m ih =>
    intro n v h
    rw [lowBits_succ, steps, bstep_eq]
    show bsteps (bstep n (v.getLsbD 0)) (lowBits m (v >>> 1)) = _
    rw [ih]
    intro i hi
    rw [BitVec.getLsbD_ushiftRight]
    exact h _ (by omega)
theorem bsteps_append (n : BitVec 32) (l m : List Bool) : bsteps n (l ++ m) = bsteps (bsteps n l) m := by simp [bsteps]
theorem byte_bits (n : BitVec 32) (b : UInt8) : byteStep n b = bsteps n (byteBits b.toNat) := by
  unfold byteStep
  rw [← bsteps_low]
  · congr 1
    unfold lowBits byteBits
    apply List.map_congr_left
    intro i hi
    have : i < 8 := by simpa using hi
    rw [BitVec.getLsbD_ofNat]
    simp [show i < 32 by omega]
  · intro i hi
    rw [BitVec.getLsbD_ofNat]
    have hb := b.toNat_lt
    have : b.toNat.testBit i = false := Nat.testBit_lt_two_pow (Nat.lt_of_lt_of_le (show b.toNat < 2 ^ 8 by omega) (Nat.pow_le_pow_right (by decide) hi))
    simp [this]
def bitsOf (l : List UInt8) : List Bool := l.flatMap fun b => byteBits b.toNat
theorem fold_bits (l : List UInt8) : ∀ n, fold n l = bsteps n (bitsOf l) := by
  induction l with
  | nil => intro n; rfl
  | cons b l ih =>
    intro n
    show fold (byteStep n b) l = _
    rw [ih, byte_bits]
    show _ = bsteps n (List.flatMap (fun b => byteBits b.toNat) (b :: l))
    rw [List.flatMap_cons, bsteps_append]
    rfl
theorem fold_append (n : BitVec 32) (l m : List UInt8) : fold n (l ++ m) = fold (fold n l) m := by simp [fold]

/-! linear -/
theorem bsteps_zip (l : List Bool) : ∀ (m : List Bool) (a b : BitVec 32), l.length = m.length → bsteps (a ^^^ b) (List.zipWith (fun x y => x ^^ y) l m) = bsteps a l ^^^ bsteps b m := by
  induction l with
  | nil => intro m a b h; cases m with | nil => rfl | cons _ _ => simp at h
  | cons x l ih =>
    intro m a b h
    cases m with
    | nil => simp at h
    | cons y m =>
      show bsteps (bstep (a ^^^ b) (x ^^ y)) _ = bsteps (bstep a x) l ^^^ bsteps (bstep b y) m
      rw [bstep_xor]
      exact ih m _ _ (by simpa using h)
theorem bsteps_false (k : Nat) (n : BitVec 32) : bsteps n (List.replicate k false) = steps k n := by
  induction k generalizing n with
  | zero => rfl
  | succ k ih => rw [List.replicate_succ, steps, ← bstep_false]; exact ih _
theorem byteStep_xor (a b : BitVec 32) (x y : UInt8) : byteStep (a ^^^ b) (x ^^^ y) = byteStep a x ^^^ byteStep b y := by
  unfold byteStep
  rw [← steps_xor, show BitVec.ofNat 32 (x ^^^ y).toNat = BitVec.ofNat 32 x.toNat ^^^ BitVec.ofNat 32 y.toNat by rw [UInt8.toNat_xor]; apply BitVec.eq_of_toNat_eq; simp [BitVec.toNat_xor, Nat.xor_mod_two_pow (n := 32)]]
  congr 1
  ac_rfl

/-- a burst: behind any zeros a window of at most 32 bits, one of them set, and zeros -/
theorem burst (z m k : Nat) (v : BitVec 32) (h : ∀ i, m ≤ i → v.getLsbD i = false) (hv : v ≠ 0#32) : bsteps 0#32 (List.replicate z false ++ lowBits m v ++ List.replicate k false) ≠ 0#32 := by
  rw [bsteps_append, bsteps_append, bsteps_false, bsteps_false, steps_zero, bsteps_low m _ _ h, BitVec.zero_xor]
  intro e
  exact hv (steps_eq_zero (steps_eq_zero e))

/-! the sum, and sealing -/
def crc (sum : BitVec 32) (l : List UInt8) : BitVec 32 := ~~~ (fold (~~~ sum) l)
theorem crc_append (sum : BitVec 32) (l m : List UInt8) : crc sum (l ++ m) = crc (crc sum l) m := by
  unfold crc
  rw [fold_append, BitVec.not_not]
theorem crc_nil (sum : BitVec 32) : crc sum [] = sum := by unfold crc fold; simp
end Go.Proofs.Ytgjclhhjigflkaa.Crc
