/- Numbers as eight bytes each: what plain's and the reference's PutInts and TakeInts come to. -/
import Derived.Test.YtgjclhhjigflkaaMx7
import Derived.Test.YtgjclhhjigflkaaMx8
import Derived.Test.YtgjclhhjigflkaaMx9
import Derived.Test.YtgjclhhjigflkaaEvVint
namespace Go.Proofs.Ytgjclhhjigflkaa.Pl
set_option linter.unusedVariables false
set_option linter.unusedSimpArgs false
open Go.RowKit Go.Proofs.Ytgjclhhjigflkaa.M Go.Proofs.Ytgjclhhjigflkaa.EvW Go.Proofs.Ytgjclhhjigflkaa.Vi Go.Proofs.YtgjclhhjigflkaaW.PrintWords Go.Proofs.YtgjclhhjigflkaaW.PrintLast Go.Proofs.YtgjclhhjigflkaaW.PrintMore

/-- a number's word -/
def word (x : Int) : Nat := (x % 18446744073709551616).toNat
theorem word_lt (x : Int) : word x < 18446744073709551616 := by unfold word; omega
def leN : Nat → Nat → List Int
  | 0, _ => []
  | n + 1, w => ((w % 256 : Nat) : Int) :: leN n (w / 256)
theorem leN_length (n : Nat) : ∀ w, (leN n w).length = n := by
  induction n with
  | zero => intro w; rfl
  | succ n ih => intro w; rw [leN, List.length_cons, ih]
def nums8 (l : List Int) : List Int := l.flatMap fun x => leN 8 (word x)
theorem nums8_cons (x : Int) (l : List Int) : nums8 (x :: l) = leN 8 (word x) ++ nums8 l := by simp [nums8]
theorem nums8_length (l : List Int) : (nums8 l).length = 8 * l.length := by
  induction l with
  | nil => rfl
  | cons x l ih => rw [nums8_cons, List.length_append, leN_length, ih, List.length_cons]; omega
theorem rd_at (l : List Int) (i : Nat) (h : i < l.length) : rd l (i : Int) = l[i] := by
  unfold rd
  rw [Int.toNat_natCast, List.getD_eq_getElem?_getD, List.getElem?_eq_getElem h]
  rfl
/-! plain.PutInts -/
theorem put_l1 (xs : List Int) (N X13 : Int) (R : ByteArray) (d : Nat) : ∀ (p : List Int) (w : Nat) (j : Int), w < 18446744073709551616 → j + d = 8 → 0 ≤ j → p.length + d ≤ 1000000 → Ev (fun k => plain_PutInts.l0 k (p ++ leN d w) xs N (wrap64 (X13 + 1))) R →
    Ev (fun k => plain_PutInts.l1 k p (w : Int) xs N X13 j) R := by
  induction d with
  | zero =>
    intro p w j hw hj h0 hp h
    rw [leN, List.append_nil] at h
    exact Ev.step (fun k => by rw [plain_PutInts.l1, if_neg (by omega)]) h
  | succ d ih =>
    intro p w j hw hj h0 hp h
    have := ih (p ++ [((w % 256 : Nat) : Int)]) (w / 256) (j + 1) (by omega) (by omega) (by omega) (by simp; omega) (by rw [List.append_assoc]; exact h)
    refine Ev.step (fun k => ?_) this
    rw [plain_PutInts.l1, if_pos (by omega), if_pos (by omega), w64 _ (by omega) (by omega), Int.natCast_emod, Int.natCast_ediv]
    rfl
theorem put_l0 (l : List Int) (hl : l.length ≤ 100) (d : Nat) : ∀ (p : List Int) (i : Nat), i + d = l.length → p.length + 8 * d ≤ 1000 → Ev (fun k => plain_PutInts.l0 k p l (l.length : Int) (i : Int)) (strOfNums (p ++ nums8 (l.drop i))) := by
  induction d with
  | zero =>
    intro p i h1 h2
    refine Ev.step (fun k => ?_) (Ev.now _)
    rw [plain_PutInts.l0, if_neg (by omega), List.drop_of_length_le (by omega)]
    simp [nums8]
  | succ d ih =>
    intro p i h1 h2
    have hlt : i < l.length := by omega
    have hw := word_lt l[i]
    have e : IntKind.u64.wrap l[i] = (word l[i] : Int) := by rw [IntKind.wrap_u64]; unfold word; omega
    refine Ev.step (f := fun k => plain_PutInts.l1 k p (word l[i] : Int) l (l.length : Int) (i : Int) 0) (fun k => by rw [plain_PutInts.l0, if_pos (by omega), if_pos (by omega), if_pos (by omega), rd_at l i hlt, e]) ?_
    refine put_l1 l _ _ _ 8 p (word l[i]) 0 hw (by omega) (by omega) (by omega) ?_
    have := ih (p ++ leN 8 (word l[i])) (i + 1) (by omega) (by rw [List.length_append, leN_length]; omega)
    rw [w64 _ (by omega) (by omega), List.drop_eq_getElem_cons hlt, nums8_cons, ← List.append_assoc]
    exact this
theorem put_ev (l : List Int) (hl : l.length ≤ 100) : Ev (fun k => plain_PutInts.f k l) (strOfNums (nums8 l)) := by
  have := put_l0 l hl l.length [] 0 (by omega) (by simp; omega)
  rw [List.drop_zero, List.nil_append] at this
  refine Ev.congr (fun k => ?_) this
  rw [plain_PutInts.f, w64 _ (by omega) (by omega), if_pos (by omega), if_pos (by omega)]
  rfl
/-! the reference's PutInts -/
theorem byte_of (x : Int) (j : Nat) (hj : j < 8) : (x / 2 ^ (8 * j)) % 256 = ((word x / 256 ^ j % 256 : Nat) : Int) := by
  unfold word
  match j, hj with
  | 0, _ => simp; omega
  | 1, _ => simp; omega
  | 2, _ => simp; omega
  | 3, _ => simp; omega
  | 4, _ => simp; omega
  | 5, _ => simp; omega
  | 6, _ => simp; omega
  | 7, _ => simp; omega
theorem and255 (y : Int) : (Go.bits .and .i64 y 255) % 256 = y % 256 := by
  have h : Go.bits .and .i64 y 255 = y % 256 := by
    show IntKind.i64.wrap ((BitVec.ofInt 64 y &&& BitVec.ofInt 64 255).toNat : Int) = y % 256
    have e : (BitVec.ofInt 64 y &&& BitVec.ofInt 64 255).toNat = (y % 256).toNat := by
      rw [BitVec.toNat_and, BitVec.toNat_ofInt, BitVec.toNat_ofInt]
      have e2 : ((255 : Int) % ((2 ^ 64 : Nat) : Int)).toNat = 2 ^ 8 - 1 := by decide
      rw [e2, Nat.and_two_pow_sub_one_eq_mod]
      simp only [Nat.reducePow]
      omega
    rw [e, IntKind.wrap_i64]
    omega
  rw [h]
  omega
theorem rput_l1 (l : List Int) (i : Nat) (hi : i < l.length) (R : ByteArray) (hl : l.length ≤ 100) (d : Nat) : ∀ (p : List Int) (j : Nat), j + d = 8 → p.length + d ≤ 1000000 → Ev (fun k => peristyleref07_PutInts.l0 k l (p ++ leN d (word l[i] / 256 ^ j)) ((i : Int) + 1)) R →
    Ev (fun k => peristyleref07_PutInts.l1 k l p (i : Int) (j : Int)) R := by
  induction d with
  | zero =>
    intro p j hj hp h
    rw [leN, List.append_nil] at h
    refine Ev.step (fun k => ?_) h
    rw [peristyleref07_PutInts.l1, if_neg (by omega), w64 _ (by omega) (by omega)]
  | succ d ih =>
    intro p j hj hp h
    have := ih (p ++ [((word l[i] / 256 ^ j % 256 : Nat) : Int)]) (j + 1) (by omega) (by simp; omega) (by rw [List.append_assoc, Nat.pow_succ, ← Nat.div_div_eq_div_mul]; exact h)
    refine Ev.step (fun k => ?_) this
    have e : shr .i64 l[i] (8 * (j : Int)) = l[i] / 2 ^ (8 * j) := by
      unfold shr
      rw [show (8 * (j : Int)).toNat = 8 * j by omega, show IntKind.i64.bits = 64 from rfl, Nat.min_eq_left (by omega)]
    rw [peristyleref07_PutInts.l1, if_pos (by omega), if_pos (by omega), if_pos (by omega), rd_at l i hi, w64 (8 * (j : Int)) (by omega) (by omega), if_pos (by omega), if_pos (by omega), e, and255, byte_of _ j (by omega), w64 _ (by omega) (by omega)]
    rfl
theorem rput_l0 (l : List Int) (hl : l.length ≤ 100) (d : Nat) : ∀ (p : List Int) (i : Nat), i + d = l.length → p.length + 8 * d ≤ 1000 → Ev (fun k => peristyleref07_PutInts.l0 k l p (i : Int)) (strOfNums (p ++ nums8 (l.drop i))) := by
  induction d with
  | zero =>
    intro p i h1 h2
    refine Ev.step (fun k => ?_) (Ev.now _)
    rw [peristyleref07_PutInts.l0, if_neg (by omega), List.drop_of_length_le (by omega)]
    simp [nums8]
  | succ d ih =>
    intro p i h1 h2
    have hlt : i < l.length := by omega
    refine Ev.step (f := fun k => peristyleref07_PutInts.l1 k l p (i : Int) ((0 : Nat) : Int)) (fun k => by rw [peristyleref07_PutInts.l0, if_pos (by omega)]; rfl) ?_
    refine rput_l1 l i hlt _ hl 8 p 0 (by omega) (by omega) ?_
    have := ih (p ++ leN 8 (word l[i])) (i + 1) (by omega) (by rw [List.length_append, leN_length]; omega)
    rw [List.drop_eq_getElem_cons hlt, nums8_cons, ← List.append_assoc, Nat.pow_zero, Nat.div_one]
    exact this
theorem rput_ev (l : List Int) (hl : l.length ≤ 100) : Ev (fun k => peristyleref07_PutInts.f k l) (strOfNums (nums8 l)) := by
  have := rput_l0 l hl l.length [] 0 (by omega) (by simp; omega)
  rw [List.drop_zero, List.nil_append] at this
  exact Ev.congr (fun k => rfl) this

/-! the numbers of bytes -/
def byteAt (s : List UInt8) (i : Nat) : Nat := (s.getD i 0).toNat
theorem byteAt_lt (s : List UInt8) (i : Nat) : byteAt s i < 256 := (s.getD i 0).toNat_lt
theorem byteAt_drop (s : List UInt8) (a i : Nat) : byteAt (s.drop a) i = byteAt s (a + i) := by
  unfold byteAt
  rw [List.getD_eq_getElem?_getD, List.getD_eq_getElem?_getD, List.getElem?_drop]
theorem bt_byteAt (s : ByteArray) (i : Nat) : bt s (i : Int) = (byteAt s.data.toList i : Int) := by
  by_cases h : i < s.data.toList.length
  · rw [bt_get s i h]
    unfold byteAt
    rw [List.getD_eq_getElem?_getD, List.getElem?_eq_getElem h]
    rfl
  · unfold bt byteAt
    rw [dif_neg (by rw [Int.toNat_natCast, ← data_length]; exact h), List.getD_eq_getElem?_getD, List.getElem?_eq_none (by omega)]
    rfl
/-- little end first -/
def leV (g : Nat → Nat) : Nat → Nat
  | 0 => 0
  | j + 1 => leV g j + g j * 256 ^ j
theorem leV_lt (g : Nat → Nat) (h : ∀ i, g i < 256) (j : Nat) : leV g j < 256 ^ j := by
  induction j with
  | zero => simp [leV]
  | succ j ih =>
    rw [leV, Nat.pow_succ]
    have : g j * 256 ^ j ≤ 255 * 256 ^ j := Nat.mul_le_mul_right _ (by have := h j; omega)
    omega
theorem leV8_lt (s : List UInt8) : leV (byteAt s) 8 < 18446744073709551616 := by
  have h := leV_lt (byteAt s) (byteAt_lt _) 8
  have e : (256 : Nat) ^ 8 = 18446744073709551616 := by decide
  rw [e] at h
  exact h
def intsOf : Nat → List UInt8 → List Int
  | 0, _ => []
  | n + 1, s => I (leV (byteAt s) 8) :: intsOf n (s.drop 8)
theorem intsOf_length (n : Nat) : ∀ s, (intsOf n s).length = n := by
  induction n with
  | zero => intro s; rfl
  | succ n ih => intro s; rw [intsOf, List.length_cons, ih]
def takeIntsS (s : List UInt8) (n : Int) : List Int × Int := if 0 ≤ n ∧ (s.length : Int) = 8 * n then (intsOf n.toNat s, 0) else ([], 20)
theorem acc8 (a v j : Nat) (ha : a < 256 ^ j) (hv : v < 256) (hj : j ≤ 7) : Go.bits .or .u64 (a : Int) (shl .u64 (v : Int) ((8 * j : Nat) : Int)) = ((a + v * 256 ^ j : Nat) : Int) := by
  have e8 : 256 ^ j = 2 ^ (8 * j) := by rw [Nat.pow_mul]
  have hv2 : v * 256 ^ j ≤ 255 * 256 ^ j := Nat.mul_le_mul_right _ (by omega)
  have hj2 : 256 ^ j ≤ 256 ^ 7 := Nat.pow_le_pow_right (by decide) hj
  have h7 : (256 : Nat) ^ 7 = 72057594037927936 := by decide
  obtain ⟨q, hq⟩ : ∃ q, v * 256 ^ j = q := ⟨_, rfl⟩
  have hqm : q % 256 ^ j = 0 := by rw [← hq]; exact Nat.mul_mod_left _ _
  have hq64 : q < 18446744073709551616 := by omega
  have eshl : shl .u64 (v : Int) ((8 * j : Nat) : Int) = (q : Int) := by
    unfold shl
    rw [Int.toNat_natCast, show IntKind.u64.bits = 64 from rfl, Nat.min_eq_left (by omega), IntKind.wrap_u64, ← hq, e8, Int.natCast_mul, Int.natCast_pow]
    rw [← hq, e8] at hq64
    have : (v : Int) * 2 ^ (8 * j) = ((v * 2 ^ (8 * j) : Nat) : Int) := by rw [Int.natCast_mul, Int.natCast_pow]; rfl
    rw [show ((2 : Nat) : Int) = 2 from rfl, this]
    omega
  rw [hq, eshl, bits_join_low .u64 64 (by decide) wraps_u64 (8 * j) (a : Int) (q : Int) (by omega) (by rw [e8] at ha; exact_mod_cast ha) (by omega) (by omega) (by rw [e8] at hqm; exact_mod_cast hqm) (by omega), Int.natCast_add]
theorem wrap_I (m : Nat) : wrap64 (m : Int) = I m := by
  unfold I wrap64
  rw [BitVec.toInt_eq_toNat_cond, BitVec.toNat_ofNat]
  simp only [Nat.reducePow]
  split <;> omega
theorem take_l1 (s : ByteArray) (hs : s.size ≤ 1000000) (i : Nat) (L : List Int) (hi : i < L.length) (N : Int) (hb : 8 * i + 8 ≤ s.size) (R : List Int × Int) (d : Nat) : ∀ (j : Nat), j + d = 8 → Ev (fun k => plain_TakeInts.l0 k s (L.set i (I (leV (byteAt (s.data.toList.drop (8 * i))) 8))) N ((i : Int) + 1)) R →
    Ev (fun k => plain_TakeInts.l1 k s L (i : Int) (leV (byteAt (s.data.toList.drop (8 * i))) j : Int) N (i : Int) (j : Int)) R := by
  induction d with
  | zero =>
    intro j hj h
    obtain rfl : j = 8 := by omega
    refine Ev.step (fun k => ?_) h
    rw [plain_TakeInts.l1, if_neg (by omega), if_pos (by omega), if_pos (by omega), wrap_I, w64 _ (by omega) (by omega), Int.toNat_natCast]
  | succ d ih =>
    intro j hj h
    have := ih (j + 1) (by omega) h
    refine Ev.step (fun k => ?_) this
    have hlt := leV_lt (byteAt (s.data.toList.drop (8 * i))) (byteAt_lt _) j
    have hv := byteAt_lt (s.data.toList.drop (8 * i)) j
    rw [plain_TakeInts.l1, if_pos (by omega), w64 (8 * (i : Int)) (by omega) (by omega), w64 (8 * (i : Int) + (j : Int)) (by omega) (by omega), if_pos (by omega), if_pos (by omega), w64 (8 * (j : Int)) (by omega) (by omega), if_pos (by omega)]
    rw [show 8 * (i : Int) + (j : Int) = ((8 * i + j : Nat) : Int) by omega, bt_byteAt, ← byteAt_drop, uw _ (by omega) (by omega), show 8 * (j : Int) = ((8 * j : Nat) : Int) by omega, acc8 _ _ _ hlt hv (by omega), w64 _ (by omega) (by omega)]
    rfl
theorem set_rep (out : List Int) (d : Nat) (x : Int) : (out ++ List.replicate (d + 1) 0).set out.length x = (out ++ [x]) ++ List.replicate d 0 := by
  rw [List.set_append_right _ _ (Nat.le_refl _), Nat.sub_self, List.replicate_succ, List.set_cons_zero, List.append_assoc]
  rfl
theorem take_l0 (s : ByteArray) (hs : s.size ≤ 1000000) (n : Nat) (hn : s.size = 8 * n) (d : Nat) : ∀ (out : List Int), out.length + d = n → Ev (fun k => plain_TakeInts.l0 k s (out ++ List.replicate d 0) (n : Int) (out.length : Int)) (out ++ intsOf d (s.data.toList.drop (8 * out.length)), 0) := by
  induction d with
  | zero =>
    intro out h1
    refine Ev.step (fun k => ?_) (Ev.now _)
    rw [plain_TakeInts.l0, if_neg (by omega)]
    simp [intsOf]
  | succ d ih =>
    intro out h1
    refine Ev.step (f := fun k => plain_TakeInts.l1 k s (out ++ List.replicate (d + 1) 0) (out.length : Int) ((leV (byteAt (s.data.toList.drop (8 * out.length))) 0 : Nat) : Int) (n : Int) (out.length : Int) ((0 : Nat) : Int)) (fun k => by rw [plain_TakeInts.l0, if_pos (by omega)]; rfl) ?_
    refine take_l1 s hs out.length _ (by simp) _ (by omega) _ 8 0 (by omega) ?_
    rw [set_rep]
    have := ih (out ++ [I (leV (byteAt (s.data.toList.drop (8 * out.length))) 8)]) (by simp; omega)
    rw [intsOf, List.drop_drop]
    rw [List.length_append, show 8 * (out.length + [I (leV (byteAt (s.data.toList.drop (8 * out.length))) 8)].length) = 8 * out.length + 8 by simp; omega] at this
    obtain ⟨X, hX⟩ : ∃ X, I (leV (byteAt (s.data.toList.drop (8 * out.length))) 8) = X := ⟨_, rfl⟩
    rw [hX] at this ⊢
    rw [show out ++ X :: intsOf d (s.data.toList.drop (8 * out.length + 8)) = (out ++ [X]) ++ intsOf d (s.data.toList.drop (8 * out.length + 8)) by simp]
    exact this
theorem take_ev (s : ByteArray) (hs : s.size ≤ 1000000) (n : Int) (hw : wf64 n) : Ev (fun k => plain_TakeInts.f k s n) (takeIntsS s.data.toList n) := by
  unfold wf64 at hw
  unfold takeIntsS
  rw [data_length]
  have stop : Ev (fun k => plain_TakeInts.j0 k s n true) ([], 20) := Ev.step (fun k => by rw [plain_TakeInts.j0, if_pos rfl]) (Ev.now _)
  by_cases h0 : n < 0
  · rw [if_neg (by omega)]
    exact ev_pos h0 stop
  · refine ev_neg h0 ?_
    by_cases h8 : ((s.size : Int) % 8) = 0
    · refine ev_pos h8 ?_
      rw [w64 _ (by omega) (by omega)]
      by_cases hn : n = (s.size : Int) / 8
      · rw [if_pos (by omega), show (n != (s.size : Int) / 8) = false from bne_eq_false_iff_eq.2 hn]
        refine Ev.step (fun k => by rw [plain_TakeInts.j0]) (ev_neg (by decide) (ev_pos (by omega) (ev_pos (by omega) ?_)))
        have := take_l0 s hs n.toNat (by omega) n.toNat [] (by simp)
        rw [show ((n.toNat : Nat) : Int) = n by omega] at this
        exact this
      · rw [if_neg (by omega), show (n != (s.size : Int) / 8) = true from bne_iff_ne.2 hn]
        exact stop
    · rw [if_neg (by omega)]
      exact ev_neg h8 stop
/-! the reference's TakeInts -/
def beV (g : Nat → Nat) : Nat → Nat → Nat
  | _, 0 => 0
  | j, d + 1 => g j + 256 * beV g (j + 1) d
theorem beV_lt (g : Nat → Nat) (h : ∀ i, g i < 256) (d : Nat) : ∀ j, beV g j d < 256 ^ d := by
  induction d with
  | zero => intro j; simp [beV]
  | succ d ih =>
    intro j
    rw [beV, Nat.pow_succ]
    have := ih (j + 1)
    have := h j
    omega
theorem beV_leV (g : Nat → Nat) : leV g 8 = beV g 0 8 := by simp [leV, beV]; omega
theorem or_step (m b : Nat) (hm : m < 72057594037927936) (hb : b < 256) : Go.bits .or .i64 (wrap64 ((m : Int) * 256)) (b : Int) = I (b + 256 * m) := by
  rw [show (m : Int) * 256 = ((m * 256 : Nat) : Int) by omega, wrap_I, ← I_small b (by omega)]
  unfold I
  rw [or_i64]
  congr 1
  apply BitVec.eq_of_toNat_eq
  rw [BitVec.toNat_or, BitVec.toNat_ofNat, BitVec.toNat_ofNat, BitVec.toNat_ofNat, Nat.mod_eq_of_lt (by simp; omega), Nat.mod_eq_of_lt (by simp; omega), Nat.mod_eq_of_lt (by simp; omega)]
  have := Nat.shiftLeft_add_eq_or_of_lt (show b < 2 ^ 8 from hb) m
  rw [Nat.shiftLeft_eq] at this
  rw [← this]
  omega
theorem rtake_l1 (s : ByteArray) (hs : s.size ≤ 1000000) (n : Int) (out : List Int) (ho : out.length ≤ 1000000) (hb : 8 * out.length + 8 ≤ s.size) (R : List Int × Int) (d : Nat) : ∀ (j : Nat), j + d = 8 → Ev (fun k => peristyleref07_TakeInts.l0 k s n (out ++ [I (leV (byteAt (s.data.toList.drop (8 * out.length))) 8)]) ((out.length : Int) + 1)) R →
    Ev (fun k => peristyleref07_TakeInts.l1 k s n out (out.length : Int) (I (beV (byteAt (s.data.toList.drop (8 * out.length))) d j)) ((d : Int) - 1)) R := by
  induction d with
  | zero =>
    intro j hj h
    obtain rfl : j = 8 := by omega
    rw [← beV_leV]
    refine Ev.step (fun k => ?_) h
    rw [peristyleref07_TakeInts.l1, if_neg (by omega), if_pos (by omega), w64 _ (by omega) (by omega)]
  | succ d ih =>
    intro j hj h
    have := ih (j + 1) (by omega) h
    refine Ev.step (fun k => ?_) this
    have hlt := beV_lt (byteAt (s.data.toList.drop (8 * out.length))) (byteAt_lt _) j (d + 1)
    have h56 : 256 ^ j ≤ 256 ^ 7 := Nat.pow_le_pow_right (by decide) (by omega)
    have h7 : (256 : Nat) ^ 7 = 72057594037927936 := by decide
    have hv := byteAt_lt (s.data.toList.drop (8 * out.length)) d
    rw [show ((d + 1 : Nat) : Int) - 1 = (d : Int) by omega]
    rw [peristyleref07_TakeInts.l1, if_pos (by omega), w64 (8 * (out.length : Int)) (by omega) (by omega), w64 (8 * (out.length : Int) + (d : Int)) (by omega) (by omega), if_pos (by omega), if_pos (by omega)]
    rw [show 8 * (out.length : Int) + (d : Int) = ((8 * out.length + d : Nat) : Int) by omega, bt_byteAt, ← byteAt_drop, w64 ((byteAt _ _ : Nat) : Int) (by omega) (by omega), I_small _ (show beV (byteAt (s.data.toList.drop (8 * out.length))) (d + 1) j < 9223372036854775808 by omega), or_step _ _ (by omega) hv, w64 _ (by omega) (by omega)]
    rfl
theorem rtake_l0 (s : ByteArray) (hs : s.size ≤ 1000000) (n : Nat) (hn : s.size = 8 * n) (d : Nat) : ∀ (out : List Int), out.length + d = n → Ev (fun k => peristyleref07_TakeInts.l0 k s (n : Int) out (out.length : Int)) (out ++ intsOf d (s.data.toList.drop (8 * out.length)), 0) := by
  induction d with
  | zero =>
    intro out h1
    refine Ev.step (fun k => ?_) (Ev.now _)
    rw [peristyleref07_TakeInts.l0, if_neg (by omega)]
    simp [intsOf]
  | succ d ih =>
    intro out h1
    refine Ev.step (f := fun k => peristyleref07_TakeInts.l1 k s (n : Int) out (out.length : Int) (I (beV (byteAt (s.data.toList.drop (8 * out.length))) 8 0)) (((8 : Nat) : Int) - 1)) (fun k => by rw [peristyleref07_TakeInts.l0, if_pos (by omega)]; rfl) ?_
    refine rtake_l1 s hs _ out (by omega) (by omega) _ 8 0 (by omega) ?_
    have := ih (out ++ [I (leV (byteAt (s.data.toList.drop (8 * out.length))) 8)]) (by simp; omega)
    rw [intsOf, List.drop_drop]
    rw [List.length_append, show 8 * (out.length + [I (leV (byteAt (s.data.toList.drop (8 * out.length))) 8)].length) = 8 * out.length + 8 by simp; omega] at this
    obtain ⟨X, hX⟩ : ∃ X, I (leV (byteAt (s.data.toList.drop (8 * out.length))) 8) = X := ⟨_, rfl⟩
    rw [hX] at this ⊢
    rw [show out ++ X :: intsOf d (s.data.toList.drop (8 * out.length + 8)) = (out ++ [X]) ++ intsOf d (s.data.toList.drop (8 * out.length + 8)) by simp]
    exact this
theorem rtake_ev (s : ByteArray) (hs : s.size ≤ 1000000) (n : Int) (hw : wf64 n) : Ev (fun k => peristyleref07_TakeInts.f k s n) (takeIntsS s.data.toList n) := by
  unfold wf64 at hw
  unfold takeIntsS
  rw [data_length]
  have stop : Ev (fun k => peristyleref07_TakeInts.j0 k s n true) ([], 20) := Ev.step (fun k => by rw [peristyleref07_TakeInts.j0, if_pos rfl]) (Ev.now _)
  by_cases h0 : n < 0
  · rw [if_neg (by omega)]
    exact ev_pos h0 stop
  · refine ev_neg h0 ?_
    by_cases h1 : n > (s.size : Int)
    · rw [if_neg (by omega)]
      exact ev_pos h1 stop
    · refine ev_neg h1 ?_
      rw [w64 _ (by omega) (by omega)]
      by_cases hn : (s.size : Int) = 8 * n
      · rw [if_pos (by omega), show ((s.size : Int) != 8 * n) = false from bne_eq_false_iff_eq.2 hn]
        refine Ev.step (fun k => by rw [peristyleref07_TakeInts.j0]) (ev_neg (by decide) ?_)
        have := rtake_l0 s hs n.toNat (by omega) n.toNat [] (by simp)
        rw [show ((n.toNat : Nat) : Int) = n by omega] at this
        exact this
      · rw [if_neg (by omega), show ((s.size : Int) != 8 * n) = true from bne_iff_ne.2 hn]
        exact stop
/-! there and back -/
theorem put_bytes (x : Int) (t : List Int) : (leN 8 (word x) ++ t).map (fun n => UInt8.ofNat n.toNat) = (leN 8 (word x)).map (fun n => UInt8.ofNat n.toNat) ++ t.map (fun n => UInt8.ofNat n.toNat) := List.map_append
theorem back_one (x : Int) (h : wf64 x) (t : List UInt8) : I (leV (byteAt ((leN 8 (word x)).map (fun n => UInt8.ofNat n.toNat) ++ t)) 8) = x := by
  have hw := word_lt x
  have e : leV (byteAt ((leN 8 (word x)).map (fun n => UInt8.ofNat n.toNat) ++ t)) 8 = word x := by
    have u : ∀ m : Nat, (UInt8.ofNat (((m % 256 : Nat) : Int)).toNat).toNat = m % 256 := fun m => by rw [Int.toNat_natCast, u8n _ (by omega)]
    simp only [leV, leN, List.map_cons, List.map_nil, List.cons_append, List.nil_append, byteAt, List.getD_cons_zero, List.getD_cons_succ, u]
    omega
  rw [e, ← wrap_I]
  unfold wf64 at h
  unfold word wrap64
  omega
theorem ints_put (l : List Int) (h : ∀ x ∈ l, wf64 x) : intsOf l.length ((nums8 l).map fun n => UInt8.ofNat n.toNat) = l := by
  induction l with
  | nil => rfl
  | cons x l ih =>
    rw [nums8_cons, put_bytes, List.length_cons, intsOf, back_one x (h x (by simp)), List.drop_left' (by rw [List.length_map, leN_length]), ih (fun y hy => h y (by simp [hy]))]
theorem word_I (m : Nat) (h : m < 18446744073709551616) : word (I m) = m := by
  rw [← wrap_I]
  unfold word wrap64
  omega
theorem leN_beV (s : List UInt8) (d : Nat) : ∀ j, j + d ≤ s.length → (leN d (beV (byteAt s) j d)).map (fun n => UInt8.ofNat n.toNat) = (s.drop j).take d := by
  induction d with
  | zero => intro j h; simp [leN]
  | succ d ih =>
    intro j h
    have hj : j < s.length := by omega
    have hb : byteAt s j = (s[j]).toNat := by
      unfold byteAt
      rw [List.getD_eq_getElem?_getD, List.getElem?_eq_getElem hj]
      rfl
    have hl := (s[j]).toNat_lt
    rw [leN, beV, hb, List.map_cons, Int.toNat_natCast, List.drop_eq_getElem_cons hj, List.take_succ_cons]
    have e1 : ((s[j]).toNat + 256 * beV (byteAt s) (j + 1) d) % 256 = (s[j]).toNat := by omega
    have e2 : ((s[j]).toNat + 256 * beV (byteAt s) (j + 1) d) / 256 = beV (byteAt s) (j + 1) d := by omega
    rw [e1, e2, ih (j + 1) (by omega), UInt8.ofNat_toNat]
theorem put_ints (n : Nat) : ∀ (s : List UInt8), s.length = 8 * n → (nums8 (intsOf n s)).map (fun n => UInt8.ofNat n.toNat) = s := by
  induction n with
  | zero => intro s h; rw [List.length_eq_zero_iff.1 h]; rfl
  | succ n ih =>
    intro s h
    have h8 := leN_beV s 8 0 (by omega)
    rw [List.drop_zero] at h8
    rw [intsOf, nums8_cons, put_bytes, word_I _ (leV8_lt s), beV_leV, h8, ih (s.drop 8) (by rw [List.length_drop]; omega), List.take_append_drop]
theorem same_l0 (l : List Int) (hl : l.length ≤ 1000000) (d : Nat) : ∀ i : Int, i + d = l.length → 0 ≤ i → Ev (fun k => peristyleref01_Same.l0 k l l i) true := by
  induction d with
  | zero =>
    intro i h1 h2
    refine Ev.step (fun k => by rw [peristyleref01_Same.l0]) (ev_neg (by omega) (Ev.now _))
  | succ d ih =>
    intro i h1 h2
    refine Ev.step (fun k => by rw [peristyleref01_Same.l0]) (ev_pos (by omega) (ev_pos h2 (ev_pos (by omega) (ev_pos rfl ?_))))
    rw [w64 _ (by omega) (by omega)]
    exact ih (i + 1) (by omega) (by omega)
theorem same_ev (l : List Int) (hl : l.length ≤ 1000000) : Ev (fun k => peristyleref01_Same.f k l l) true := ev_pos rfl (same_l0 l hl l.length 0 (by omega) (by omega))
theorem takeIntsS_length (s : List UInt8) (n : Int) : (takeIntsS s n).1.length ≤ s.length := by
  unfold takeIntsS
  split
  · rw [intsOf_length]; omega
  · simp
end Go.Proofs.Ytgjclhhjigflkaa.Pl
