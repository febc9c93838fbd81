/- Proved: the sums of three texts of one length, turned into one another, are the sum of the texts turned into one another. Conditions: none beyond the statement's own. -/
import Derived.Test.YtgjclhhjigflkaaMx3
import Derived.Test.YtgjclhhjigflkaaEvCheck
namespace Go.Proofs.Ytgjclhhjigflkaa.Pure
set_option linter.unusedVariables false
open Go.RowKit Go.Proofs.Ytgjclhhjigflkaa.M Go.Proofs.Ytgjclhhjigflkaa.Ck Go.Proofs.Ytgjclhhjigflkaa.Crc Go.Proofs.Ytgjclhhjigflkaa.EvW Go.Proofs.YtgjclhhjigflkaaW.PrintWords Go.Proofs.YtgjclhhjigflkaaW.PrintLast Go.Proofs.YtgjclhhjigflkaaW.PrintMore
def x3 (a b c : UInt8) : UInt8 := a ^^^ b ^^^ c
def zip3 : List UInt8 → List UInt8 → List UInt8 → List UInt8
  | a :: us, b :: bs, c :: cs => x3 a b c :: zip3 us bs cs
  | _, _, _ => []
theorem fold3 : ∀ (us bs cs : List UInt8) (x y z : BitVec 32), us.length = bs.length → us.length = cs.length → Crc.fold (x ^^^ y ^^^ z) (zip3 us bs cs) = Crc.fold x us ^^^ Crc.fold y bs ^^^ Crc.fold z cs
  | [], [], [], x, y, z, _, _ => rfl
  | a :: us, b :: bs, c :: cs, x, y, z, h, h' => by
    show Crc.fold (byteStep (x ^^^ y ^^^ z) (a ^^^ b ^^^ c)) (zip3 us bs cs) = _
    rw [byteStep_xor, byteStep_xor, fold3 us bs cs _ _ _ (by simpa using h) (by simpa using h')]
    rfl
  | [], _ :: _, _, _, _, _, h, _ => by simp at h
  | _ :: _, [], _, _, _, _, h, _ => by simp at h
  | [], [], _ :: _, _, _, _, _, h => by simp at h
  | _ :: _, _ :: _, [], _, _, _, _, h => by simp at h
theorem not3 (x y z : BitVec 32) : ~~~(x ^^^ y ^^^ z) = ~~~x ^^^ ~~~y ^^^ ~~~z := by
  apply BitVec.eq_of_getLsbD_eq
  intro i hi
  simp only [BitVec.getLsbD_not, BitVec.getLsbD_xor, hi, decide_true, Bool.true_and]
  cases x.getLsbD i <;> cases y.getLsbD i <;> cases z.getLsbD i <;> rfl
theorem crc3 (us bs cs : List UInt8) (h : us.length = bs.length) (h' : us.length = cs.length) : crc 0#32 (zip3 us bs cs) = crc 0#32 us ^^^ crc 0#32 bs ^^^ crc 0#32 cs := by
  unfold crc
  rw [← not3, ← fold3 us bs cs _ _ _ h h', ← not3]
  congr 2
theorem sum3 (a b c x : ByteArray) (h : a.data.toList.length = b.data.toList.length) (h' : a.data.toList.length = c.data.toList.length) (hx : x.data.toList = zip3 a.data.toList b.data.toList c.data.toList) :
    sumOf 0 x = Go.bits .xor .i64 (Go.bits .xor .i64 (sumOf 0 a) (sumOf 0 b)) (sumOf 0 c) := by
  unfold sumOf
  rw [i64_xor32, i64_xor32, hx]
  congr 2
  exact crc3 _ _ _ h h'
theorem zip3_take : ∀ (n : Nat) (us bs cs : List UInt8), n < us.length → n < bs.length → n < cs.length →
    zip3 (us.take (n + 1)) (bs.take (n + 1)) (cs.take (n + 1)) = zip3 (us.take n) (bs.take n) (cs.take n) ++ [x3 (us.getD n 0) (bs.getD n 0) (cs.getD n 0)]
  | 0, a :: us, b :: bs, c :: cs, _, _, _ => rfl
  | n + 1, a :: us, b :: bs, c :: cs, h1, h2, h3 => by
    show x3 a b c :: zip3 (us.take (n + 1)) (bs.take (n + 1)) (cs.take (n + 1)) = _
    rw [zip3_take n us bs cs (by simpa using h1) (by simpa using h2) (by simpa using h3)]
    rfl
  | _, [], _, _, h, _, _ => by simp at h
  | _, _ :: _, [], _, _, h, _ => by simp at h
  | _, _ :: _, _ :: _, [], _, _, h => by simp at h
theorem zip3_length : ∀ (us bs cs : List UInt8), us.length = bs.length → us.length = cs.length → (zip3 us bs cs).length = us.length
  | [], [], [], _, _ => rfl
  | a :: us, b :: bs, c :: cs, h, h' => by
    show (zip3 us bs cs).length + 1 = _
    rw [zip3_length us bs cs (by simpa using h) (by simpa using h')]
    rfl
  | [], _ :: _, _, h, _ => by simp at h
  | _ :: _, [], _, h, _ => by simp at h
  | [], [], _ :: _, _, h => by simp at h
  | _ :: _, _ :: _, [], _, h => by simp at h
def u8i (b : UInt8) : Int := (b.toNat : Int)
theorem xor8 (a b c : UInt8) : Go.bits .xor .u8 (Go.bits .xor .u8 (a.toNat : Int) (b.toNat : Int)) (c.toNat : Int) = u8i (x3 a b c) := by
  have := a.toNat_lt; have := b.toNat_lt; have := c.toNat_lt
  rw [u8_xor_nat _ _ (by omega) (by omega), u8_xor_nat _ _ (Nat.xor_lt_two_pow (n := 8) (by omega) (by omega)) (by omega)]
  unfold u8i x3
  rw [UInt8.toNat_xor, UInt8.toNat_xor]
/-- the list of bytes while it is filled: the first i are turned, the others noughts -/
def part (a b c : ByteArray) (n i : Nat) : List Int := (zip3 (a.data.toList.take i) (b.data.toList.take i) (c.data.toList.take i)).map u8i ++ List.replicate (n - i) 0
theorem part_len (a b c : ByteArray) (n i : Nat) (hi : i ≤ n) (ha : n ≤ a.data.toList.length) (hb : n ≤ b.data.toList.length) (hc : n ≤ c.data.toList.length) : (part a b c n i).length = n := by
  unfold part
  rw [List.length_append, List.length_map, zip3_length _ _ _ (by simp only [List.length_take]; omega) (by simp only [List.length_take]; omega), List.length_replicate, List.length_take]
  omega
theorem part_set (a b c : ByteArray) (n i : Nat) (hi : i < n) (ha : n ≤ a.data.toList.length) (hb : n ≤ b.data.toList.length) (hc : n ≤ c.data.toList.length) :
    (part a b c n i).set i (u8i (x3 (a.data.toList.getD i 0) (b.data.toList.getD i 0) (c.data.toList.getD i 0))) = part a b c n (i + 1) := by
  unfold part
  have hl : ((zip3 (a.data.toList.take i) (b.data.toList.take i) (c.data.toList.take i)).map u8i).length = i := by
    rw [List.length_map, zip3_length _ _ _ (by simp only [List.length_take]; omega) (by simp only [List.length_take]; omega), List.length_take]; omega
  rw [List.set_append_right _ _ (by omega), hl, Nat.sub_self, show n - i = (n - (i + 1)) + 1 by omega, List.replicate_succ, List.set_cons_zero, zip3_take i _ _ _ (by omega) (by omega) (by omega), List.map_append, List.append_assoc]
  rfl
theorem bt_getD (s : ByteArray) (i : Nat) (h : i < s.data.toList.length) : bt s (i : Int) = ((s.data.toList.getD i 0).toNat : Int) := by
  rw [bt_get s i h, List.getD_eq_getElem?_getD, List.getElem?_eq_getElem h]; rfl
theorem tail_ev (a b c : ByteArray) (n : Nat) (hn : n ≤ 512) (ha : n ≤ a.size) (hb : n ≤ b.size) (hc : n ≤ c.size) (d : Nat) : ∀ i, i + d = n →
    Ev (fun k => peristylelaw03_CheckThree.l0 k a b c (n : Int) (part a b c n i) (i : Int)) true := by
  have la := data_length a; have lb := data_length b; have lc := data_length c
  induction d with
  | zero =>
    intro i hi
    obtain rfl : i = n := by omega
    refine Ev.step (fun k => by rw [peristylelaw03_CheckThree.l0, if_neg (by omega)]) ?_
    have hx : strOfNums (part a b c i i) = strOfNums ((zip3 (a.data.toList.take i) (b.data.toList.take i) (c.data.toList.take i)).map u8i) := by unfold part; simp
    refine Ev.bind (sum_ev _ (by rw [strOfNums_size, part_len a b c i i (Nat.le_refl _) (by omega) (by omega) (by omega)]; omega)) ?_
    refine ev_pos (by omega) (ev_pos (by omega) (Ev.bind (sum_ev _ (by simp; omega)) (ev_pos (by omega) (Ev.bind (sum_ev _ (by simp; omega)) (ev_pos (by omega) (Ev.bind (sum_ev _ (by simp; omega)) (ev_pos ?_ (Ev.bind awake_ev (Ev.now _)))))))))
    have ex : ∀ s : ByteArray, (s.extract 0 ((i : Int)).toNat).data.toList = s.data.toList.take i := by
      intro s
      rw [ByteArray.data_extract, Array.toList_extract, List.extract_eq_take_drop]
      simp
    refine sum3 _ _ _ _ ?_ ?_ ?_
    · rw [ex, ex, List.length_take, List.length_take]; omega
    · rw [ex, ex, List.length_take, List.length_take]; omega
    · rw [hx, ex, ex, ex, strOfNums_data, List.map_map]
      conv => rhs; rw [← List.map_id (zip3 _ _ _)]
      apply List.map_congr_left
      intro u _
      simp [u8i]
  | succ d ih =>
    intro i hi
    refine Ev.step (fun k => ?_) (ih (i + 1) (by omega))
    rw [peristylelaw03_CheckThree.l0, if_pos (by omega), if_pos (by omega), if_pos (by omega), if_pos (by omega), if_pos (by omega), if_pos (by rw [part_len a b c n i (by omega) (by omega) (by omega) (by omega)]; omega)]
    rw [bt_getD a i (by omega), bt_getD b i (by omega), bt_getD c i (by omega), xor8, Int.toNat_natCast, part_set a b c n i (by omega) (by omega) (by omega) (by omega), w64 _ (by omega) (by omega)]
    rfl
theorem CheckThree : peristylelaw03_CheckThree.Pure := by
  intro a b c ha hb hc
  refine Ev.rounds ?_
  unfold peristylelaw03_CheckThree.f
  obtain ⟨n, hn⟩ : ∃ n : Nat, mn (mn (a.size : Int) (b.size : Int)) (c.size : Int) = (n : Int) := ⟨(mn (mn (a.size : Int) (b.size : Int)) (c.size : Int)).toNat, by unfold mn; split <;> split <;> omega⟩
  have h1 : n ≤ a.size ∧ n ≤ b.size ∧ n ≤ c.size := by unfold mn at hn; split at hn <;> split at hn <;> omega
  rw [hn]
  by_cases h : (n : Int) > 512
  · exact ev_pos h (Ev.bind awake_ev (Ev.now _))
  · refine ev_neg h (ev_pos (by omega) (ev_pos (by omega) ?_))
    have := tail_ev a b c n (by omega) h1.1 h1.2.1 h1.2.2 n 0 (by omega)
    have e0 : part a b c n 0 = List.replicate ((n : Int)).toNat 0 := by unfold part; simp [zip3]
    rw [e0] at this
    exact this
end Go.Proofs.Ytgjclhhjigflkaa.Pure
