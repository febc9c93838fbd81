/- What vint.Take and the reference's Put and Take come to. -/
import Derived.Test.YtgjclhhjigflkabEvVintBits
namespace Go.Proofs.Ytgjclhhjigflkab.Vi
set_option linter.unusedVariables false
set_option linter.unusedSimpArgs false
open Go.RowKit Go.Proofs.Ytgjclhhjigflkab.M Go.Proofs.Ytgjclhhjigflkab.EvW Go.Proofs.YtgjclhhjigflkabW.PrintWords Go.Proofs.YtgjclhhjigflkabW.PrintLast Go.Proofs.YtgjclhhjigflkabW.PrintMore

theorem bt_get (s : ByteArray) (i : Nat) (h : i < s.data.toList.length) : bt s (i : Int) = ((s.data.toList[i]'h).toNat : Int) := by
  have hs : i < s.size := by rw [← data_length]; exact h
  unfold bt
  rw [dif_pos (by simpa using hs)]
  rfl
theorem bt_done (s : ByteArray) (done : List UInt8) (b : UInt8) (rest : List UInt8) (h : s.data.toList = done ++ b :: rest) : bt s (done.length : Int) = (b.toNat : Int) := by
  have hl : done.length < s.data.toList.length := by rw [h]; simp
  rw [bt_get s _ hl]
  congr 2
  simp [h]
theorem andNot_u8 (n : Nat) (h : n < 256) : Go.bits .andNot .u8 (n : Int) 128 = ((n % 128 : Nat) : Int) := by
  have : ∀ n : Fin 256, Go.bits .andNot .u8 ((n.val : Nat) : Int) 128 = ((n.val % 128 : Nat) : Int) := by decide +kernel
  exact this ⟨n, h⟩
theorem acc_step (a v j : Nat) (ha : a < 128 ^ j) (hv : v < 128) (hj : j ≤ 9) : Go.bits .or .u64 (a : Int) (shl .u64 (v : Int) ((7 * j : Nat) : Int)) = (((a + 128 ^ j * v) % 18446744073709551616 : Nat) : Int) := by
  have e7 : 128 ^ j = 2 ^ (7 * j) := by rw [Nat.pow_mul]
  rw [e7] at ha ⊢
  obtain ⟨s, hs⟩ : ∃ s, 7 * j = s := ⟨_, rfl⟩
  rw [hs] at ha ⊢
  have hs63 : s ≤ 63 := by omega
  have e64 : (18446744073709551616 : Nat) = 2 ^ (64 - s) * 2 ^ s := by rw [← Nat.pow_add, show 64 - s + s = 64 by omega]
  have ex : v * 2 ^ s % 18446744073709551616 = v % 2 ^ (64 - s) * 2 ^ s := by rw [e64, Nat.mul_mod_mul_right]
  have eshl : shl .u64 (v : Int) (s : Int) = ((v * 2 ^ s % 18446744073709551616 : Nat) : Int) := by
    unfold shl
    rw [Int.toNat_natCast, show IntKind.u64.bits = 64 from rfl, Nat.min_eq_left (by omega), IntKind.wrap_u64, Int.natCast_emod, Int.natCast_mul, Int.natCast_pow]
    rfl
  have hq : v % 2 ^ (64 - s) < 2 ^ (64 - s) := Nat.mod_lt _ (Nat.pow_pos (by decide))
  obtain ⟨q, hqe⟩ : ∃ q, v % 2 ^ (64 - s) = q := ⟨_, rfl⟩
  rw [hqe] at hq ex
  have hp : (q + 1) * 2 ^ s ≤ 2 ^ (64 - s) * 2 ^ s := Nat.mul_le_mul_right _ hq
  rw [← e64, Nat.add_mul, Nat.one_mul] at hp
  have ha2 : a < 18446744073709551616 := by omega
  rw [eshl, bits_join_low .u64 64 (by decide) wraps_u64 s (a : Int) _ (by omega) (by exact_mod_cast ha) (by exact_mod_cast ha2) (by omega) (by rw [ex]; exact_mod_cast Nat.mul_mod_left q (2 ^ s)) (by have := Nat.mod_lt (v * 2 ^ s) (show 0 < 18446744073709551616 by decide); exact_mod_cast this)]
  rw [← Int.natCast_add]
  congr 1
  rw [Nat.mul_comm (2 ^ s) v]
  omega
theorem dec_snoc (done : List UInt8) (b : UInt8) : dec (done ++ [b]) = dec done + 128 ^ done.length * (b.toNat % 128) := by
  rw [dec_append]
  simp [dec]
theorem pos_of_ne {b : UInt8} (h : b ≠ 0) : 1 ≤ b.toNat := by
  rcases Nat.eq_zero_or_pos b.toNat with h' | h'
  · exact absurd (UInt8.toNat_inj.1 (by rw [h']; rfl)) h
  · exact h'
theorem dec_big (done : List UInt8) (hl : done.length ≤ 8) (b : UInt8) : dec (done ++ [b]) < 9223372036854775808 := by
  have h1 := dec_lt (done ++ [b])
  have h2 : 128 ^ (done ++ [b]).length ≤ 128 ^ 9 := Nat.pow_le_pow_right (by decide) (by simp; omega)
  have h3 : (128 : Nat) ^ 9 = 9223372036854775808 := by decide
  omega
theorem cond_iff (done : List UInt8) (b : UInt8) (h : ∀ c ∈ done, 128 ≤ c.toNat) (hb : b.toNat < 128) (hl : done.length ≤ 9) :
    ((vbu 9 (dec (done ++ [b]) % 18446744073709551616)).length = done.length + 1 ∧ (done.length < 9 ∨ b.toNat = 1)) ↔ ((done = [] ∨ b ≠ 0) ∧ dec (done ++ [b]) < 18446744073709551616) := by
  have h9 : (128 : Nat) ^ 9 = 9223372036854775808 := by decide
  constructor
  · rintro ⟨h1, h2⟩
    rcases Nat.lt_or_ge done.length 9 with h8 | h8
    · have hd := dec_big done (by omega) b
      refine ⟨?_, by omega⟩
      rw [Nat.mod_eq_of_lt (by omega)] at h1
      by_cases hd0 : done = []
      · exact .inl hd0
      · refine .inr fun hb0 => ?_
        subst hb0
        have hd2 := dec_lt done
        have e : dec (done ++ [0]) = dec done := by rw [dec_snoc]; simp
        rw [e] at h1
        have hl1 : 1 ≤ done.length := by
          rcases Nat.eq_zero_or_pos done.length with h' | h'
          · exact absurd (List.length_eq_zero_iff.1 h') hd0
          · exact h'
        obtain ⟨l1, l2, l3, l4⟩ := vbu_len 9 (dec done) (by rw [p64]; omega)
        rw [h1] at l4
        rcases l4 with l4 | l4
        · omega
        · rw [Nat.add_sub_cancel] at l4
          omega
    · have e9 : done.length = 9 := by omega
      have hb1 : b.toNat = 1 := h2.resolve_left (by omega)
      have hd2 := dec_lt done
      rw [dec_snoc, e9, hb1]
      rw [e9] at hd2
      rw [h9] at hd2 ⊢
      refine ⟨.inr fun hb0 => ?_, by omega⟩
      subst hb0
      exact absurd hb1 (by decide)
  · rintro ⟨h1, h2⟩
    rw [Nat.mod_eq_of_lt h2, canon 9 done b h hb hl h1]
    refine ⟨by simp, ?_⟩
    rcases Nat.lt_or_ge done.length 9 with h8 | h8
    · exact .inl h8
    · have e9 : done.length = 9 := by omega
      have hb0 : b ≠ 0 := h1.resolve_left (fun h' => by rw [h'] at e9; simp at e9)
      have := pos_of_ne hb0
      rw [dec_snoc, e9, h9] at h2
      exact .inr (by omega)
theorem cond_iff2 (done : List UInt8) (b : UInt8) (h : ∀ c ∈ done, 128 ≤ c.toNat) (hb : b.toNat < 128) (hl : done.length ≤ 9) :
    vbu 9 (dec (done ++ [b]) % 18446744073709551616) = done ++ [b] ↔ ((done = [] ∨ b ≠ 0) ∧ dec (done ++ [b]) < 18446744073709551616) := by
  constructor
  · intro h1
    have hlt : dec (done ++ [b]) % 18446744073709551616 < 18446744073709551616 := Nat.mod_lt _ (by decide)
    obtain ⟨d2, b2, e1, e2, e3, e4⟩ := vbu_shape 9 _ (show dec (done ++ [b]) % 18446744073709551616 < 128 ^ (9 + 1) by rw [p64]; omega)
    have hd := dec_vbu 9 _ (show dec (done ++ [b]) % 18446744073709551616 < 128 ^ (9 + 1) by rw [p64]; omega)
    rw [h1] at e1 hd
    obtain ⟨rfl, e5⟩ := List.append_inj' e1 rfl
    simp only [List.cons.injEq, and_true] at e5
    subst e5
    exact ⟨e4, by omega⟩
  · rintro ⟨h1, h2⟩
    rw [Nat.mod_eq_of_lt h2, canon 9 done b h hb hl h1]

/-! vint.Take -/
theorem take_l0 (s : ByteArray) (m : Int) (hm : m = mn (s.size : Int) 10) : ∀ (rest done : List UInt8), s.data.toList = done ++ rest → (∀ c ∈ done, 128 ≤ c.toNat) → done.length ≤ 10 →
    Ev (fun k => vint_Take.l0 k s ((dec done % 18446744073709551616 : Nat) : Int) m (done.length : Int)) (takeS done rest) := by
  intro rest
  induction rest with
  | nil =>
    intro done h1 h2 h3
    have hs : (s.size : Int) = (done.length : Int) := by rw [← data_length, h1]; simp
    refine Ev.step (fun k => ?_) (Ev.now _)
    rw [vint_Take.l0, if_neg (by rw [hm, hs]; unfold mn; split <;> omega)]
    rfl
  | cons b rest ih =>
    intro done h1 h2 h3
    have hs : (s.size : Int) = (done.length : Int) + 1 + (rest.length : Int) := by rw [← data_length, h1]; simp; omega
    have hbt := bt_done s done b rest h1
    have hb := b.toNat_lt
    rw [takeS]
    by_cases h10 : 10 ≤ done.length
    · rw [if_pos h10]
      refine Ev.step (fun k => ?_) (Ev.now _)
      rw [vint_Take.l0, if_neg (by rw [hm, hs]; unfold mn; split <;> omega)]
    · rw [if_neg h10]
      have hd := dec_lt done
      have hdm : dec done < 18446744073709551616 := by
        have h2 : 128 ^ done.length ≤ 128 ^ 9 := Nat.pow_le_pow_right (by decide) (by omega)
        have h3 : (128 : Nat) ^ 9 = 9223372036854775808 := by decide
        omega
      have hacc : Go.bits .or .u64 ((dec done % 18446744073709551616 : Nat) : Int) (shl .u64 (IntKind.u64.wrap (Go.bits .andNot .u8 (b.toNat : Int) 128)) (wrap64 (7 * (done.length : Int)))) = ((dec (done ++ [b]) % 18446744073709551616 : Nat) : Int) := by
        rw [andNot_u8 _ hb, Nat.mod_eq_of_lt hdm, uw _ (by omega) (by omega), w64 _ (by omega) (by omega), show (7 : Int) * (done.length : Int) = ((7 * done.length : Nat) : Int) by omega, acc_step _ _ _ hd (by omega) (by omega), dec_snoc]
      have hstep : ∀ k, vint_Take.l0 (k + 1) s ((dec done % 18446744073709551616 : Nat) : Int) m (done.length : Int) =
          (if (b.toNat : Int) ≥ 128 then (vint_Take.l0 k s ((dec (done ++ [b]) % 18446744073709551616 : Nat) : Int) m ((done.length : Int) + 1)) else ((bits_Zag.f (wrap64 ((dec (done ++ [b]) % 18446744073709551616 : Nat) : Int))).bind fun t162 => ((vint_Len.f k t162).bind fun t163 => (if t163 = (done.length : Int) + 1 then (if (done.length : Int) < 9 then (some (t162, (done.length : Int) + 1, 0)) else (if (b.toNat : Int) = 1 then (some (t162, (done.length : Int) + 1, 0)) else (some (0, 0, 20)))) else (some (0, 0, 20)))))) := by
        intro k
        rw [vint_Take.l0, hbt, hacc, w64 ((done.length : Int) + 1) (by omega) (by omega), if_pos (by rw [hm, hs]; unfold mn; split <;> omega), if_pos (by omega), if_pos (by omega), if_pos (by rw [w64 _ (by omega) (by omega)]; omega)]
      by_cases hc : 128 ≤ b.toNat
      · rw [if_pos hc]
        have := ih (done ++ [b]) (by rw [h1]; simp) (by intro c hc'; rcases List.mem_append.1 hc' with hc' | hc'; exact h2 c hc'; simp at hc'; subst hc'; exact hc) (by simp; omega)
        refine Ev.step (fun k => ?_) this
        rw [hstep, if_pos (by omega), List.length_append]
        rfl
      · rw [if_neg hc]
        have hW : dec (done ++ [b]) % 18446744073709551616 < 18446744073709551616 := Nat.mod_lt _ (by decide)
        have hzag : bits_Zag.f (wrap64 ((dec (done ++ [b]) % 18446744073709551616 : Nat) : Int)) = some (uz (dec (done ++ [b]) % 18446744073709551616)) := by
          rw [bits_Zag.f, zag_uz _ hW _ (wrap_wrap _ hW)]
        have hiff := cond_iff done b h2 (by omega) (by omega)
        have hlen := len_ev (uz (dec (done ++ [b]) % 18446744073709551616)) (uz_wf _ hW)
        rw [zz_uz] at hlen
        refine Ev.step (f := fun k => (vint_Len.f k (uz (dec (done ++ [b]) % 18446744073709551616))).bind fun t163 => (if t163 = (done.length : Int) + 1 then (if (done.length : Int) < 9 then (some (uz (dec (done ++ [b]) % 18446744073709551616), (done.length : Int) + 1, 0)) else (if (b.toNat : Int) = 1 then (some (uz (dec (done ++ [b]) % 18446744073709551616), (done.length : Int) + 1, 0)) else (some (0, 0, 20)))) else (some (0, 0, 20)))) (fun k => ?_) (Ev.bind hlen ?_)
        · rw [hstep, if_neg (by omega), hzag]
          rfl
        · by_cases hC : (done = [] ∨ b ≠ 0) ∧ dec (done ++ [b]) < 18446744073709551616
          · obtain ⟨g1, g2⟩ := hiff.2 hC
            rw [if_pos hC]
            refine Ev.congr (fun k => ?_) (Ev.now _)
            rw [if_pos (by omega)]
            rw [Nat.mod_eq_of_lt hC.2]
            by_cases h9 : done.length < 9
            · rw [if_pos (by omega)]
            · rw [if_neg (by omega), if_pos (by omega)]
          · rw [if_neg hC]
            refine Ev.congr (fun k => ?_) (Ev.now _)
            by_cases g1 : (vbu 9 (dec (done ++ [b]) % 18446744073709551616)).length = done.length + 1
            · have g2 : ¬ (done.length < 9 ∨ b.toNat = 1) := fun g => hC (hiff.1 ⟨g1, g⟩)
              rw [if_pos (by omega), if_neg (by omega), if_neg (by omega)]
            · rw [if_neg (by omega)]
theorem take_ev (s : ByteArray) : Ev (fun k => vint_Take.f k s) (takeS [] s.data.toList) := by
  have := take_l0 s _ rfl s.data.toList [] rfl (by simp) (by simp)
  exact Ev.congr (fun k => rfl) this

/-! the reference's Put -/
theorem rput_l0 (d : Nat) : ∀ (m : Nat) (p : List Int), m < 128 ^ (d + 1) → m < 18446744073709551616 → p.length + d ≤ 1000 → Ev (fun k => peristyleref02_Put.l0 k (I m) p) (strOfNums (p ++ vb d m)) := by
  induction d with
  | zero =>
    intro m p h1 h2 h3
    have h1 : m < 128 := by simpa using h1
    refine Ev.step (fun k => ?_) (Ev.now _)
    rw [peristyleref02_Put.l0, peristyleref01_Field.f, peristyleref01_Field.f, field_low, field_high m h2, I_small (m % 128) (by omega), I_small (m / 128) (by omega)]
    show (if ((m / 128 : Nat) : Int) = 0 then _ else _) = _
    rw [if_pos (by omega), if_pos (by omega), vb, show ((m % 128 : Nat) : Int) % 256 = (m : Int) by omega]
  | succ d ih =>
    intro m p h1 h2 h3
    rw [vb]
    by_cases h : m < 128
    · rw [if_pos h]
      refine Ev.step (fun k => ?_) (Ev.now _)
      rw [peristyleref02_Put.l0, peristyleref01_Field.f, peristyleref01_Field.f, field_low, field_high m h2, I_small (m % 128) (by omega), I_small (m / 128) (by omega)]
      show (if ((m / 128 : Nat) : Int) = 0 then _ else _) = _
      rw [if_pos (by omega), if_pos (by omega), show ((m % 128 : Nat) : Int) % 256 = (m : Int) by omega]
    · rw [if_neg h]
      have := ih (m / 128) (p ++ [((m % 128 + 128 : Nat) : Int)]) (by rw [Nat.pow_succ] at h1; exact Nat.div_lt_of_lt_mul (by rw [Nat.mul_comm]; exact h1)) (by omega) (by simp; omega)
      rw [List.append_assoc] at this
      refine Ev.step (fun k => ?_) this
      rw [peristyleref02_Put.l0, peristyleref01_Field.f, peristyleref01_Field.f, field_low, field_high m h2, I_small (m % 128) (by omega), I_small (m / 128) (by omega)]
      show (if ((m / 128 : Nat) : Int) = 0 then _ else _) = _
      rw [if_neg (by omega), if_pos (by omega), w64 _ (by omega) (by omega), show (128 + ((m % 128 : Nat) : Int)) % 256 = ((m % 128 + 128 : Nat) : Int) by omega]
theorem rput_ev (n : Int) (h : wf64 n) : Ev (fun k => peristyleref02_Put.f k n) (vputB n) := by
  have hz := zz_lt n h
  have := rput_l0 9 (zz n) [] (by rw [p64]; omega) hz (by simp)
  rw [List.nil_append] at this
  refine Ev.congr (f := fun k => peristyleref02_Put.l0 k (I (zz n)) []) (fun k => ?_) ?_
  · rw [peristyleref02_Put.f, peristyleref01_Zig.f, zig_word n h]
    rfl
  · unfold vputB
    rw [zigw_zz n h, Int.toNat_natCast]
    exact this

/-! the reference's Take -/
theorem rtake_l0 (s : ByteArray) (hss : s.size ≤ 140737488351232) : ∀ (rest done : List UInt8), s.data.toList = done ++ rest → (∀ c ∈ done, 128 ≤ c.toNat) → done.length ≤ 10 →
    Ev (fun k => peristyleref02_Take.l0 k s (I (dec done)) (done.length : Int)) (takeS done rest) := by
  intro rest
  induction rest with
  | nil =>
    intro done h1 h2 h3
    have hs : (s.size : Int) = (done.length : Int) := by rw [← data_length, h1]; simp
    refine Ev.step (f := fun k => peristyleref02_Take.j1 k s (I (dec done)) (done.length : Int) false) (fun k => ?_) (Ev.step (fun k => ?_) (Ev.now _))
    · rw [peristyleref02_Take.l0, if_neg (by omega)]
    · rw [peristyleref02_Take.j1, if_neg (by decide)]
      rfl
  | cons b rest ih =>
    intro done h1 h2 h3
    have hs : (s.size : Int) = (done.length : Int) + 1 + (rest.length : Int) := by rw [← data_length, h1]; simp; omega
    have hbt := bt_done s done b rest h1
    have hb := b.toNat_lt
    rw [takeS]
    by_cases h10 : 10 ≤ done.length
    · rw [if_pos h10]
      refine Ev.step (f := fun k => peristyleref02_Take.j1 k s (I (dec done)) (done.length : Int) false) (fun k => ?_) (Ev.step (fun k => ?_) (Ev.now _))
      · rw [peristyleref02_Take.l0, if_pos (by omega), decide_eq_false (by omega)]
      · rw [peristyleref02_Take.j1, if_neg (by decide)]
    · rw [if_neg h10]
      have hd := dec_lt done
      have hwith : peristyleref01_With.f (I (dec done)) (wrap64 (7 * (done.length : Int))) 7 (wrap64 (Go.bits .and .u8 (b.toNat : Int) 127)) = some (I (dec (done ++ [b]))) := by
        rw [peristyleref01_With.f, u8_and127 _ (by omega) (by omega), w64 _ (by omega) (by omega), w64 _ (by omega) (by omega), show (7 : Int) * (done.length : Int) = ((7 * done.length : Nat) : Int) by omega, show (b.toNat : Int) % 128 = ((b.toNat % 128 : Nat) : Int) by omega, with_word _ _ _ (by omega) hd (by omega), dec_snoc, Nat.mul_comm]
      have hstep : ∀ k, peristyleref02_Take.j1 (k + 1) s (I (dec done)) (done.length : Int) true =
          (if (b.toNat : Int) < 128 then ((peristyleref01_Zag.f (I (dec (done ++ [b])))).bind fun t187 => ((peristyleref02_Put.f k t187).bind fun t188 => (if t188.toList = (s.extract 0 (((done.length : Int) + 1) : Int).toNat).toList then (some (t187, (done.length : Int) + 1, 0)) else (some (0, 0, 20))))) else (peristyleref02_Take.l0 k s (I (dec (done ++ [b]))) ((done.length : Int) + 1))) := by
        intro k
        rw [peristyleref02_Take.j1, if_pos rfl, hbt, hwith, w64 ((done.length : Int) + 1) (by omega) (by omega), if_pos (by omega), if_pos (by omega)]
        rw [Option.bind_some]
        simp only [eq_true (show (0 : Int) ≤ (done.length : Int) + 1 by omega), eq_true (show (done.length : Int) + 1 ≤ (s.size : Int) by omega), if_true]
      refine Ev.step (f := fun k => peristyleref02_Take.j1 k s (I (dec done)) (done.length : Int) true) (fun k => by rw [peristyleref02_Take.l0, if_pos (by omega), decide_eq_true (by omega)]) ?_
      by_cases hc : 128 ≤ b.toNat
      · rw [if_pos hc]
        have := ih (done ++ [b]) (by rw [h1]; simp) (by intro c hc'; rcases List.mem_append.1 hc' with hc' | hc'; exact h2 c hc'; simp at hc'; subst hc'; exact hc) (by simp; omega)
        refine Ev.step (fun k => ?_) this
        rw [hstep, if_neg (by omega), List.length_append]
        rfl
      · rw [if_neg hc]
        have hW : dec (done ++ [b]) % 18446744073709551616 < 18446744073709551616 := Nat.mod_lt _ (by decide)
        have hzag : peristyleref01_Zag.f (I (dec (done ++ [b]))) = some (uz (dec (done ++ [b]) % 18446744073709551616)) := by
          rw [peristyleref01_Zag.f, ← I_mod, zag_word _ hW]
        have hiff := cond_iff2 done b h2 (by omega) (by omega)
        have hput := rput_ev (uz (dec (done ++ [b]) % 18446744073709551616)) (uz_wf _ hW)
        refine Ev.step (f := fun k => (peristyleref02_Put.f k (uz (dec (done ++ [b]) % 18446744073709551616))).bind fun t188 => (if t188.toList = (s.extract 0 (((done.length : Int) + 1) : Int).toNat).toList then (some (uz (dec (done ++ [b]) % 18446744073709551616), (done.length : Int) + 1, 0)) else (some (0, 0, 20)))) (fun k => ?_) (Ev.bind hput ?_)
        · rw [hstep, if_pos (by omega), hzag]
          rfl
        · have hl : (s.extract 0 (((done.length : Int) + 1) : Int).toNat).toList = done ++ [b] := by
            rw [Lib.extract_toList, h1, List.drop_zero, show (((done.length : Int) + 1).toNat - 0) = (done ++ [b]).length by rw [List.length_append]; simp; try omega, show done ++ b :: rest = (done ++ [b]) ++ rest by simp, List.take_left' rfl]
          rw [hl, Lib.toList_data, vput_data _ (uz_wf _ hW), zz_uz]
          by_cases hC : (done = [] ∨ b ≠ 0) ∧ dec (done ++ [b]) < 18446744073709551616
          · rw [if_pos hC]
            refine Ev.congr (fun k => ?_) (Ev.now _)
            rw [if_pos (hiff.2 hC), Nat.mod_eq_of_lt hC.2]
          · rw [if_neg hC]
            refine Ev.congr (fun k => ?_) (Ev.now _)
            rw [if_neg (fun g => hC (hiff.1 g))]
theorem rtake_ev (s : ByteArray) (hss : s.size ≤ 140737488351232) : Ev (fun k => peristyleref02_Take.f k s) (takeS [] s.data.toList) := by
  have := rtake_l0 s hss s.data.toList [] rfl (by simp) (by simp)
  exact Ev.congr (fun k => rfl) this
theorem vput_f (n : Int) : vint_Put.f n = some (vputB n) := rfl
end Go.Proofs.Ytgjclhhjigflkab.Vi
