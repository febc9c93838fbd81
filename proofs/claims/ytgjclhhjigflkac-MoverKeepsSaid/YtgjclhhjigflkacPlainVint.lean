/- Numbers as few bytes, plain: zigzag, groups of seven bits, and what bytes begin with. No program here. -/
import Derived.Test.YtgjclhhjigflkacBld
import Derived.Test.YtgjclhhjigflkacManual
import Derived.Lib.Strings
namespace Go.Proofs.Ytgjclhhjigflkac.Vi
set_option linter.unusedVariables false
set_option linter.unusedSimpArgs false
open Go.RowKit Go.Proofs.Ytgjclhhjigflkac.M Go.Proofs.YtgjclhhjigflkacW.PrintWords Go.Proofs.YtgjclhhjigflkacW.PrintLast Go.Proofs.YtgjclhhjigflkacW.PrintMore

def wf64 (x : Int) : Prop := -9223372036854775808 ≤ x ∧ x ≤ 9223372036854775807
theorem wf64_of (x : Int) (h : (Lit.int .i64 x).wf = true) : wf64 x := by
  simp only [Lit.wf, IntKind.min, IntKind.max, IntKind.signed, IntKind.bits, Bool.and_eq_true, decide_eq_true_eq, if_true] at h
  unfold wf64
  omega
def zz (n : Int) : Nat := if 0 ≤ n then (2 * n).toNat else (-2 * n - 1).toNat
def uz (m : Nat) : Int := if m % 2 = 0 then ((m / 2 : Nat) : Int) else -((m / 2 : Nat) : Int) - 1
theorem zz_lt (n : Int) (h : wf64 n) : zz n < 18446744073709551616 := by unfold zz; unfold wf64 at h; split <;> omega
theorem uz_zz (n : Int) : uz (zz n) = n := by unfold uz zz; split <;> split <;> omega
theorem zz_uz (m : Nat) : zz (uz m) = m := by unfold uz zz; split <;> split <;> omega
theorem uz_wf (m : Nat) (h : m < 18446744073709551616) : wf64 (uz m) := by unfold uz wf64; split <;> omega
theorem uw (n : Int) (h0 : 0 ≤ n) (h1 : n < 18446744073709551616) : IntKind.u64.wrap n = n := by rw [IntKind.wrap_u64]; omega
theorem xor_ones (x : Nat) (h : x < 18446744073709551616) : x ^^^ 18446744073709551615 = 18446744073709551615 - x := by
  have e := BitVec.xor_allOnes (x := BitVec.ofNat 64 x)
  have e2 := congrArg BitVec.toNat e
  rw [BitVec.toNat_xor, BitVec.toNat_not, BitVec.toNat_ofNat, BitVec.toNat_allOnes, Nat.mod_eq_of_lt (by omega)] at e2
  exact e2
theorem u64_xor_ones (x : Nat) (h : x < 18446744073709551616) : Go.bits .xor .u64 (x : Int) 18446744073709551615 = ((18446744073709551615 - x : Nat) : Int) := by
  have := bits_xor_u64_nat x 18446744073709551615 h (by decide)
  rw [xor_ones x h] at this
  exact this
theorem u64_xor_zero (x : Nat) (h : x < 18446744073709551616) : Go.bits .xor .u64 (x : Int) 0 = (x : Int) := by
  have := bits_xor_u64_nat x 0 h (by decide)
  rw [Nat.xor_zero] at this
  exact this
theorem zigw_zz (n : Int) (h : wf64 n) : IntKind.u64.wrap (zigw n) = (zz n : Int) := by
  unfold wf64 at h
  unfold zigw
  by_cases h0 : 0 ≤ n
  · have e1 : n / 9223372036854775808 = 0 := by omega
    have e2 : IntKind.u64.wrap (IntKind.u64.wrap n * 2) = (((2 * n).toNat : Nat) : Int) := by rw [uw n h0 (by omega), uw _ (by omega) (by omega)]; omega
    have e3 : IntKind.u64.wrap 0 = 0 := by decide
    rw [e1, e2, e3, u64_xor_zero _ (by omega)]
    rw [IntKind.wrap_u64]
    unfold zz wrap64
    rw [if_pos h0]
    omega
  · have e1 : n / 9223372036854775808 = -1 := by omega
    have e3 : IntKind.u64.wrap (-1) = 18446744073709551615 := by decide
    have e2 : IntKind.u64.wrap (IntKind.u64.wrap n * 2) = (((18446744073709551616 + 2 * n).toNat : Nat) : Int) := by rw [IntKind.wrap_u64, IntKind.wrap_u64]; omega
    rw [e1, e2, e3, u64_xor_ones _ (by omega)]
    rw [IntKind.wrap_u64]
    unfold zz wrap64
    rw [if_neg h0]
    omega
theorem u64_one (x : Nat) (h : x < 18446744073709551616) : Go.bits .and .u64 (x : Int) 1 = ((x % 2 : Nat) : Int) := by
  have := u64_and_nat x 1 h (by decide)
  rw [Nat.and_one_is_mod] at this
  exact this
/-- the number of a word -/
theorem zag_uz (m : Nat) (h : m < 18446744073709551616) (a : Int) (ha : IntKind.u64.wrap a = (m : Int)) : wrap64 (Go.bits .xor .u64 ((IntKind.u64.wrap (a)) / 2) (IntKind.u64.wrap (-(Go.bits .and .u64 (IntKind.u64.wrap (a)) 1)))) = uz m := by
  rw [ha, u64_one m h]
  have e1 : (m : Int) / 2 = ((m / 2 : Nat) : Int) := by omega
  rw [e1]
  unfold uz
  rcases Nat.mod_two_eq_zero_or_one m with e | e
  · rw [e]
    have e3 : IntKind.u64.wrap (-((0 : Nat) : Int)) = 0 := by decide
    rw [e3, u64_xor_zero _ (by omega), if_pos rfl]
    unfold wrap64
    omega
  · rw [e]
    have e3 : IntKind.u64.wrap (-((1 : Nat) : Int)) = 18446744073709551615 := by decide
    rw [e3, u64_xor_ones _ (by omega), if_neg (by decide)]
    unfold wrap64
    omega
theorem wrap_wrap (M : Nat) (h : M < 18446744073709551616) : IntKind.u64.wrap (wrap64 (M : Int)) = (M : Int) := by
  rw [IntKind.wrap_u64]; unfold wrap64; omega

/-! bytes -/
def vbu : Nat → Nat → List UInt8
  | 0, n => [UInt8.ofNat n]
  | k + 1, n => if n < 128 then [UInt8.ofNat n] else UInt8.ofNat (n % 128 + 128) :: vbu k (n / 128)
theorem vb_vbu (k : Nat) : ∀ n, (strOfNums (vb k n)).data.toList = vbu k n := by
  induction k with
  | zero => intro n; rfl
  | succ k ih =>
    intro n
    rw [vb, vbu]
    split
    · rfl
    · have := ih (n / 128)
      rw [strOfNums_data] at this ⊢
      rw [List.map_cons, this]
      rfl
theorem vput_data (a : Int) (h : wf64 a) : (vputB a).data.toList = vbu 9 (zz a) := by
  unfold vputB
  rw [vb_vbu, zigw_zz a h, Int.toNat_natCast]
def dec : List UInt8 → Nat
  | [] => 0
  | c :: s => c.toNat % 128 + 128 * dec s
theorem dec_append (s t : List UInt8) : dec (s ++ t) = dec s + 128 ^ s.length * dec t := by
  induction s with
  | nil => simp [dec]
  | cons c s ih =>
    rw [List.cons_append, dec, ih, dec, List.length_cons, Nat.pow_succ, Nat.mul_add, Nat.mul_comm (128 ^ s.length) 128, Nat.mul_assoc, Nat.add_assoc]
theorem dec_lt (s : List UInt8) : dec s < 128 ^ s.length := by
  induction s with
  | nil => simp [dec]
  | cons c s ih =>
    rw [dec, List.length_cons, Nat.pow_succ]
    have : c.toNat % 128 < 128 := Nat.mod_lt _ (by decide)
    omega
theorem u8n (n : Nat) (h : n < 256) : (UInt8.ofNat n).toNat = n := by rw [UInt8.toNat_ofNat']; omega
theorem dec_vbu (k : Nat) : ∀ n, n < 128 ^ (k + 1) → dec (vbu k n) = n := by
  induction k with
  | zero =>
    intro n h
    have : n < 128 := by simpa using h
    rw [vbu, dec, dec, u8n n (by omega)]
    omega
  | succ k ih =>
    intro n h
    rw [vbu]
    split
    · rw [dec, dec, u8n n (by omega)]
      omega
    · rw [dec, u8n _ (by omega), ih (n / 128) (by rw [Nat.pow_succ] at h; exact Nat.div_lt_of_lt_mul (by rw [Nat.mul_comm]; exact h))]
      omega
theorem vbu_len (k : Nat) : ∀ n, n < 128 ^ (k + 1) → 1 ≤ (vbu k n).length ∧ (vbu k n).length ≤ k + 1 ∧ n < 128 ^ (vbu k n).length ∧ ((vbu k n).length = 1 ∨ 128 ^ ((vbu k n).length - 1) ≤ n) := by
  induction k with
  | zero => intro n h; rw [vbu]; exact ⟨by simp, by simp, by simpa using h, .inl rfl⟩
  | succ k ih =>
    intro n h
    rw [vbu]
    split
    · rename_i hn
      exact ⟨by simp, by simp, by simpa using hn, .inl rfl⟩
    · rename_i hn
      obtain ⟨h1, h2, h3, h4⟩ := ih (n / 128) (by rw [Nat.pow_succ] at h; exact Nat.div_lt_of_lt_mul (by rw [Nat.mul_comm]; exact h))
      rw [List.length_cons]
      refine ⟨by omega, by omega, ?_, .inr ?_⟩
      · rw [Nat.pow_succ]
        omega
      · rw [Nat.add_sub_cancel]
        rcases h4 with h4 | h4
        · rw [h4]; simp; omega
        · obtain ⟨L, hL⟩ : ∃ L, (vbu k (n / 128)).length = L + 1 := ⟨_, (Nat.sub_add_cancel h1).symm⟩
          rw [hL] at h4 ⊢
          rw [Nat.add_sub_cancel] at h4
          rw [Nat.pow_succ]
          omega
/-- bytes that go on, but the last one -/
theorem canon (k : Nat) : ∀ (done : List UInt8) (b : UInt8), (∀ c ∈ done, 128 ≤ c.toNat) → b.toNat < 128 → done.length ≤ k → (done = [] ∨ b ≠ 0) → vbu k (dec (done ++ [b])) = done ++ [b] := by
  induction k with
  | zero =>
    intro done b h1 h2 h3 h4
    obtain rfl : done = [] := List.length_eq_zero_iff.1 (by omega)
    simp only [List.nil_append, dec, vbu]
    congr 1
    apply UInt8.toNat_inj.1
    rw [u8n _ (by omega)]
    omega
  | succ k ih =>
    intro done b h1 h2 h3 h4
    cases done with
    | nil =>
      simp only [List.nil_append, dec]
      rw [vbu, if_pos (by omega)]
      congr 1
      apply UInt8.toNat_inj.1
      rw [u8n _ (by omega)]
      omega
    | cons c done =>
      have hb : b ≠ 0 := h4.resolve_left (by simp)
      have hb' : 1 ≤ b.toNat := by
        rcases Nat.eq_zero_or_pos b.toNat with h | h
        · exact absurd (UInt8.toNat_inj.1 (by rw [h]; rfl)) hb
        · exact h
      have hc : 128 ≤ c.toNat := h1 c (by simp)
      have hc2 := c.toNat_lt
      have hd : 1 ≤ dec (done ++ [b]) := by
        rw [dec_append]
        have : 1 ≤ 128 ^ done.length * dec [b] := Nat.mul_pos (Nat.pow_pos (by decide)) (by simp only [dec]; omega)
        omega
      rw [List.cons_append, dec, vbu, if_neg (by omega)]
      have e1 : (c.toNat % 128 + 128 * dec (done ++ [b])) / 128 = dec (done ++ [b]) := by omega
      have e2 : (c.toNat % 128 + 128 * dec (done ++ [b])) % 128 + 128 = c.toNat := by omega
      rw [e1, e2, ih done b (fun x hx => h1 x (by simp [hx])) h2 (by simpa using h3) (.inr hb)]
      congr 1
      apply UInt8.toNat_inj.1
      rw [u8n _ (by omega)]
theorem vbu_shape (k : Nat) : ∀ n, n < 128 ^ (k + 1) → ∃ done b, vbu k n = done ++ [b] ∧ (∀ c ∈ done, 128 ≤ c.toNat) ∧ b.toNat < 128 ∧ (done = [] ∨ b ≠ 0) := by
  induction k with
  | zero =>
    intro n h
    have : n < 128 := by simpa using h
    exact ⟨[], UInt8.ofNat n, rfl, by simp, by rw [u8n n (by omega)]; exact this, .inl rfl⟩
  | succ k ih =>
    intro n h
    rw [vbu]
    split
    · rename_i hn
      exact ⟨[], UInt8.ofNat n, rfl, by simp, by rw [u8n n (by omega)]; exact hn, .inl rfl⟩
    · rename_i hn
      obtain ⟨done, b, h1, h2, h3, h4⟩ := ih (n / 128) (by rw [Nat.pow_succ] at h; exact Nat.div_lt_of_lt_mul (by rw [Nat.mul_comm]; exact h))
      refine ⟨UInt8.ofNat (n % 128 + 128) :: done, b, by rw [h1]; rfl, ?_, h3, .inr ?_⟩
      · intro c hc
        rcases List.mem_cons.1 hc with rfl | hc
        · rw [u8n _ (by omega)]; omega
        · exact h2 c hc
      · rcases h4 with h4 | h4
        · subst h4
          have e := dec_vbu k (n / 128) (by rw [Nat.pow_succ] at h; exact Nat.div_lt_of_lt_mul (by rw [Nat.mul_comm]; exact h))
          rw [h1] at e
          simp only [List.nil_append, dec] at e
          intro hb
          subst hb
          simp at e
          omega
        · exact h4

/-! what bytes begin with -/
def takeS : List UInt8 → List UInt8 → Int × Int × Int
  | _, [] => (0, 0, 20)
  | done, b :: s =>
    if 10 ≤ done.length then (0, 0, 20)
    else if 128 ≤ b.toNat then takeS (done ++ [b]) s
    else if (done = [] ∨ b ≠ 0) ∧ dec (done ++ [b]) < 18446744073709551616 then (uz (dec (done ++ [b])), (done.length : Int) + 1, 0) else (0, 0, 20)
theorem p64 : (128 : Nat) ^ (9 + 1) = 64 * 18446744073709551616 := by decide
theorem takeS_put (s : List UInt8) : ∀ (t done : List UInt8) (b : UInt8), (∀ c ∈ t, 128 ≤ c.toNat) → b.toNat < 128 → done.length + t.length ≤ 9 → (done = [] ∧ t = [] ∨ b ≠ 0) → dec (done ++ t ++ [b]) < 18446744073709551616 →
    takeS done (t ++ b :: s) = (uz (dec (done ++ t ++ [b])), ((done ++ t).length : Int) + 1, 0) := by
  intro t
  induction t with
  | nil =>
    intro done b h1 h2 h3 h4 h5
    rw [List.append_nil] at h5 ⊢
    have h6 : done = [] ∨ b ≠ 0 := by
      rcases h4 with h4 | h4
      · exact .inl h4.1
      · exact .inr h4
    rw [List.nil_append, takeS, if_neg (by simp at h3; omega), if_neg (by omega), if_pos ⟨h6, h5⟩]
  | cons c t ih =>
    intro done b h1 h2 h3 h4 h5
    have hb : b ≠ 0 := by
      rcases h4 with h4 | h4
      · exact absurd h4.2 (by simp)
      · exact h4
    have e : done ++ c :: t = (done ++ [c]) ++ t := by simp
    rw [e] at h5 ⊢
    rw [List.cons_append, takeS, if_neg (by simp at h3; omega), if_pos (h1 c (by simp))]
    exact ih (done ++ [c]) b (fun x hx => h1 x (by simp [hx])) h2 (by simp at h3 ⊢; omega) (.inr hb) h5
theorem takeS_vbu (n : Nat) (h : n < 18446744073709551616) (s : List UInt8) : takeS [] (vbu 9 n ++ s) = (uz n, ((vbu 9 n).length : Int), 0) := by
  have hp : n < 128 ^ (9 + 1) := by rw [p64]; omega
  obtain ⟨done, b, h1, h2, h3, h4⟩ := vbu_shape 9 n hp
  have hl := (vbu_len 9 n hp).2.1
  have hd := dec_vbu 9 n hp
  rw [h1] at hl hd ⊢
  rw [List.append_assoc]
  have := takeS_put s done [] b h2 h3 (by simp at hl ⊢; omega) (by rcases h4 with h4 | h4; exact .inl ⟨rfl, h4⟩; exact .inr h4) (by rw [List.nil_append, hd]; exact h)
  rw [List.nil_append, hd] at this
  rw [show done ++ ([b] ++ s) = done ++ b :: s by rfl, this, List.length_append]
  simp
theorem takeS_ok (s : List UInt8) : ∀ (done : List UInt8), (∀ c ∈ done, 128 ≤ c.toNat) → ∀ n k, takeS done s = (n, k, 0) →
    wf64 n ∧ (done.length : Int) < k ∧ k ≤ 10 ∧ k ≤ ((done ++ s).length : Int) ∧ vbu 9 (zz n) = (done ++ s).take k.toNat := by
  induction s with
  | nil => intro done h n k e; rw [takeS] at e; simp at e
  | cons b s ih =>
    intro done h n k e
    rw [takeS] at e
    split at e
    · simp at e
    · rename_i hl
      split at e
      · rename_i hb
        obtain ⟨h1, h2, h3, h4, h5⟩ := ih (done ++ [b]) (by intro c hc; rcases List.mem_append.1 hc with hc | hc; exact h c hc; simp at hc; subst hc; exact hb) n k e
        have ea : done ++ [b] ++ s = done ++ b :: s := by simp
        rw [ea] at h4 h5
        exact ⟨h1, by simp at h2; omega, h3, h4, h5⟩
      · rename_i hb
        split at e
        · rename_i hc
          simp only [Prod.mk.injEq] at e
          obtain ⟨rfl, rfl, _⟩ := e
          refine ⟨uz_wf _ hc.2, by omega, by omega, by simp; omega, ?_⟩
          rw [zz_uz, canon 9 done b h (by omega) (by omega) hc.1, show ((done.length : Int) + 1).toNat = (done ++ [b]).length from by rw [List.length_append]; simp; try omega, show done ++ b :: s = (done ++ [b]) ++ s by simp, List.take_left' rfl]
        · simp at e
theorem takeS_err (s : List UInt8) : ∀ (done : List UInt8), (takeS done s).2.2 ≠ 0 → takeS done s = (0, 0, 20) := by
  induction s with
  | nil => intro done _; rfl
  | cons b s ih =>
    intro done h
    rw [takeS] at h ⊢
    split
    · rfl
    · rename_i hl
      rw [if_neg hl] at h
      split
      · rename_i hb
        rw [if_pos hb] at h
        exact ih _ h
      · rename_i hb
        rw [if_neg hb] at h
        split
        · rename_i hc
          rw [if_pos hc] at h
          exact absurd rfl h
        · rfl
end Go.Proofs.Ytgjclhhjigflkac.Vi
