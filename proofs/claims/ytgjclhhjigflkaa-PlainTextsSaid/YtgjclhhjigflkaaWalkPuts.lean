/- The walks of vint.puts and plain.PutTexts: texts gathered in a strings.Builder. -/
import Derived.Test.YtgjclhhjigflkaaWalkBuilder
import Derived.Test.YtgjclhhjigflkaaWalkPut
import Derived.Test.YtgjclhhjigflkaaShelf
namespace Go.Proofs.Ytgjclhhjigflkaa.M
open Go.RowKit Go.Proofs.Ytgjclhhjigflkaa.MyWords Go.Proofs.YtgjclhhjigflkaaW.PrintWords Go.Proofs.YtgjclhhjigflkaaW.PrintLast Go.Proofs.YtgjclhhjigflkaaW.PrintMore
set_option linter.unusedVariables false
set_option linter.unusedSimpArgs false
def vputB (a : Int) : ByteArray := strOfNums (vb 9 (IntKind.u64.wrap (zigw a)).toNat)
theorem vb_length (k : Nat) : ∀ n, (vb k n).length ≤ k + 1 := by
  induction k with
  | zero => intro n; simp [vb]
  | succ k ih =>
    intro n
    rw [vb]
    split
    · simp
    · have := ih (n / 128)
      simp only [List.length_cons]
      omega
theorem vputB_size (a : Int) : (vputB a).size ≤ 10 := by
  unfold vputB
  rw [strOfNums_size]
  exact vb_length 9 _
/-- the bytes of numbers, one behind the other -/
def vputs (l : List Int) : List UInt8 := l.flatMap fun a => (vputB a).data.toList
theorem vputs_snoc (l : List Int) (a : Int) : vputs (l ++ [a]) = vputs l ++ (vputB a).data.toList := by simp [vputs]
theorem vputs_length (l : List Int) : (vputs l).length ≤ 10 * l.length := by
  induction l with
  | nil => simp [vputs]
  | cons a l ih =>
    have h : vputs (a :: l) = (vputB a).data.toList ++ vputs l := by simp [vputs]
    rw [h, List.length_append, data_length, List.length_cons]
    have := vputB_size a
    omega
def vint_puts.f (l0 : List Int) : Option ByteArray := if l0.length ≤ 1000000 then some ⟨(vputs l0).toArray⟩ else none
theorem bld_new (w : World) : Bld w.heap.size w.heap.size (Lib.byteCells []) (w.alloc (.cells #[.pointer none, .slice none 0 0] 65)) := Lib.fresh_isBuilder _ _ w
theorem take_rd (l : List Int) (k : Nat) (h : k < l.length) : l.take (k + 1) = l.take k ++ [rd l (k : Int)] := by
  rw [List.take_succ_eq_append_getElem h]
  simp [rd, List.getD_eq_getElem?_getD, List.getElem?_eq_getElem h]
theorem bld_below {B b : Nat} {bs : List Value} {w w1 : World} (h : Bld B b bs w) (hb : Below w.heap.size w w1) : Bld B b bs w1 := by
  have go : ∀ p, Lib.BuilderAt 65 5 B b p bs w → Lib.BuilderAt 65 5 B b p bs w1 := by
    rintro p ⟨hB, v, hk, ho, hn⟩
    exact ⟨hB, v, blk_below hk hb, pw_own_below ho hb, hn⟩
  rcases h with h | h
  · exact .inl (go _ h)
  · exact .inr (go _ h)
set_option maxHeartbeats 2000000 in
set_option maxRecDepth 100000 in
theorem vint_puts.calls (A0 : Option Addr) (c0 : Nat) (l0 : List Int) (r : ByteArray) (w : World) (hr0 : Kd.C (Kd.int .i64) w A0 l0.length l0) (hc0 : l0.length ≤ c0) (h : vint_puts.f l0 = some r) :
    Calls Try.prog 56 #[.slice A0 l0.length c0] w fun e w' => e = .returned (.string r) ∧ Below w.heap.size w w' := by
  unfold vint_puts.f at h
  by_cases hl : l0.length ≤ 1000000
  · rw [if_pos hl] at h
    obtain rfl := Option.some.inj h
    clear h
    have HR0 := Aside0.mk hr0
    clear hr0
    go_enter Try.func56, Try.ntmps56
    go_wp2
    go_loopw [8] (fun v8 wr => ∃ k : Nat, v8 = .int .i64 (k : Int) ∧ k ≤ l0.length ∧ Aside0 (Bld w.heap.size w.heap.size (Lib.byteCells (vputs (l0.take k))) wr) ∧ Aside0 (Below w.heap.size w wr)) (fun v8 _ => l0.length - (intOf v8).toNat)
    case atStart => exact ⟨0, rfl, by omega, ⟨bld_new w⟩, ⟨(Below.refl _ _).alloc (Nat.le_refl _) _⟩⟩
    case round =>
      obtain ⟨k, rfl, hk, HD, HB⟩ := hrel
      by_cases hlt : k < l0.length
      · obtain ⟨ad, hA, hcell⟩ := Kd.at_int (Kd.C_below HR0.out HB.out) (k : Int) (by omega) (by omega)
        subst hA
        obtain ⟨x, hx⟩ : ∃ x, rd l0 (k : Int) = x := ⟨_, rfl⟩
        rw [hx, Int.toNat_natCast] at hcell
        have HX := Aside0.mk hx
        clear hx
        have hlen := vputs_length (l0.take k)
        have hlen2 : (l0.take k).length ≤ k := List.length_take_le _ _
        have hp := vputB_size x
        have hsz := HB.out.size
        go_wp2_with fail
        refine (vint_Put.calls x (vputB x) wr rfl).mono ?_
        rintro e w1 ⟨rfl, hb1⟩
        have hD1 := bld_below HD.out hb1
        have hsz1 := hb1.size
        go_wp2_with fail
        refine (bld_WriteString w.heap.size w.heap.size _ (vputB x) w1 hD1 (by rw [Lib.byteCells_length]; omega) (by omega)).mono ?_
        rintro e w2 ⟨rfl, hD2, hb2⟩
        go_wp2
        refine ⟨⟨k + 1, by simp, by omega, ⟨?_⟩, ⟨(below_step HB.out hb1).trans hb2⟩⟩, by simp [intOf]; omega⟩
        rw [take_rd l0 k hlt, vputs_snoc, Lib.byteCells_append, HX.out]
        exact hD2
      · have hsz := HB.out.size
        have hk2 : l0.take k = l0 := List.take_of_length_le (by omega)
        have hd := HD.out
        rw [hk2] at hd
        clear hk2
        go_wp2_with fail
        refine (Try.Builder_String_any w.heap.size w.heap.size _ wr hd (by omega)).mono ?_
        rintro e w2 ⟨rfl, hb2⟩
        go_wp2
        go_ret
        exact ⟨rfl, HB.out.trans hb2⟩
  · rw [if_neg hl] at h
    cases h

/-! texts, each behind its length -/
def ptext (s : ByteArray) : List UInt8 := UInt8.ofNat s.size :: s.data.toList
def ptexts (l : List ByteArray) : List UInt8 := l.flatMap ptext
theorem ptexts_snoc (l : List ByteArray) (s : ByteArray) : ptexts (l ++ [s]) = ptexts l ++ ptext s := by simp [ptexts]
def short (s : ByteArray) : Bool := decide (s.size ≤ 32)
def plain_PutTexts.f (l0 : List ByteArray) : Option (ByteArray × Int) := if l0.length ≤ 1000000 then (if l0.all short = true then some (⟨(ptexts l0).toArray⟩, 0) else some (⟨#[]⟩, 1)) else none
theorem ptexts_length (l : List ByteArray) (h : l.all short = true) : (ptexts l).length ≤ 33 * l.length := by
  induction l with
  | nil => simp [ptexts]
  | cons s l ih =>
    rw [List.all_cons, Bool.and_eq_true] at h
    have h1 : s.size ≤ 32 := of_decide_eq_true h.1
    have h2 : ptexts (s :: l) = ptext s ++ ptexts l := by simp [ptexts]
    rw [h2, List.length_append, ptext, List.length_cons, data_length, List.length_cons]
    have := ih h.2
    omega
theorem take_rdS (l : List ByteArray) (k : Nat) (h : k < l.length) : l.take (k + 1) = l.take k ++ [rdOf ByteArray.empty l (k : Int)] := by
  rw [List.take_succ_eq_append_getElem h]
  simp [rdOf, List.getD_eq_getElem?_getD, List.getElem?_eq_getElem h]
theorem all_take (l : List ByteArray) (k : Nat) (h : k < l.length) (x : ByteArray) (hx : rdOf ByteArray.empty l (k : Int) = x) (ht : (l.take k).all short = true) : (l.take (k + 1)).all short = short x := by
  rw [take_rdS l k h, hx, List.all_append, ht]
  simp
theorem all_not (l : List ByteArray) (k : Nat) (h : k < l.length) (x : ByteArray) (hx : rdOf ByteArray.empty l (k : Int) = x) (hs : short x = false) : l.all short = false := by
  have e : l = l.take (k + 1) ++ l.drop (k + 1) := (List.take_append_drop _ _).symm
  rw [e, take_rdS l k h, hx, List.all_append, List.all_append]
  simp [hs]
set_option maxHeartbeats 2000000 in
set_option maxRecDepth 100000 in
theorem plain_PutTexts.calls (A0 : Option Addr) (c0 : Nat) (l0 : List ByteArray) (r1 : ByteArray) (r2 : Int) (w : World) (hr0 : Kd.C Kd.string w A0 l0.length l0) (hc0 : l0.length ≤ c0) (h : plain_PutTexts.f l0 = some (r1, r2)) :
    Calls Try.prog 37 #[.slice A0 l0.length c0] w fun e w' => e = .returned (.tuple #[.string r1, .int .i64 r2]) ∧ Below w.heap.size w w' := by
  unfold plain_PutTexts.f at h
  by_cases hl : l0.length ≤ 1000000
  · rw [if_pos hl] at h
    have H := Aside0.mk h
    clear h
    have HR0 := Aside0.mk hr0
    clear hr0
    go_enter Try.func37, Try.ntmps37
    go_wp2
    go_loopw [9] (fun v9 wr => ∃ k : Nat, v9 = .int .i64 (k : Int) ∧ k ≤ l0.length ∧ Aside0 ((l0.take k).all short = true) ∧ Aside0 (Bld w.heap.size w.heap.size (Lib.byteCells (ptexts (l0.take k))) wr) ∧ Aside0 (Below w.heap.size w wr)) (fun v9 _ => l0.length - (intOf v9).toNat)
    case atStart => exact ⟨0, rfl, by omega, ⟨rfl⟩, ⟨bld_new w⟩, ⟨(Below.refl _ _).alloc (Nat.le_refl _) _⟩⟩
    case round =>
      obtain ⟨k, rfl, hk, HS, HD, HB⟩ := hrel
      by_cases hlt : k < l0.length
      · obtain ⟨ad, hA, hcell⟩ := Kd.at_string (Kd.C_below HR0.out HB.out) (k : Int) (by omega) (by omega)
        subst hA
        obtain ⟨x, hx⟩ : ∃ x, rdOf ByteArray.empty l0 (k : Int) = x := ⟨_, rfl⟩
        rw [hx, Int.toNat_natCast] at hcell
        have HX := Aside0.mk hx
        clear hx
        have hsz := HB.out.size
        by_cases h32 : x.size ≤ 32
        · have hsh : short x = true := decide_eq_true h32
          have hall := all_take l0 k hlt x HX.out HS.out
          rw [hsh] at hall
          have HALL := Aside0.mk hall
          have hlen := ptexts_length (l0.take k) HS.out
          have hlen2 : (l0.take k).length ≤ k := List.length_take_le _ _
          clear hall hsh
          go_wp2_with fail
          refine (bld_WriteByte w.heap.size w.heap.size _ _ wr HD.out (by rw [Lib.byteCells_length]; omega) (by omega)).mono ?_
          rintro e w1 ⟨rfl, hD1, hb1⟩
          have HD1 := Aside0.mk hD1
          clear hD1
          have hsz1 := hb1.size
          go_wp2_with fail
          refine (bld_WriteString w.heap.size w.heap.size _ x w1 HD1.out (by rw [List.length_append, Lib.byteCells_length]; simp only [List.length_singleton]; omega) (by omega)).mono ?_
          rintro e w2 ⟨rfl, hD2, hb2⟩
          have HD2 := Aside0.mk hD2
          clear hD2
          go_wp2
          refine ⟨⟨k + 1, by simp, by omega, HALL, ⟨?_⟩, ⟨(HB.out.trans hb1).trans hb2⟩⟩, by simp [intOf]; omega⟩
          rw [take_rdS l0 k hlt, ptexts_snoc, Lib.byteCells_append, HX.out]
          have hd := HD2.out
          rw [List.append_assoc] at hd
          refine Eq.mp (congrArg (fun z => Bld w.heap.size w.heap.size (Lib.byteCells (ptexts (l0.take k)) ++ z) w2) ?_) hd
          have e8 : (UInt8.ofNat x.size).toNat = x.size := by rw [UInt8.toNat_ofNat']; omega
          show _ = Value.int .u8 ((UInt8.ofNat x.size).toNat : Int) :: Lib.byteCells x.data.toList
          rw [e8]
          rfl
        · have hsh : short x = false := decide_eq_false h32
          have hno := all_not l0 k hlt x HX.out hsh
          have h2 := H.out
          rw [if_neg (by rw [hno]; decide)] at h2
          simp only [Option.some.injEq, Prod.mk.injEq] at h2
          obtain ⟨rfl, rfl⟩ := h2
          clear hsh hno
          go_wp2
          go_ret2
          exact ⟨rfl, HB.out⟩
      · have hsz := HB.out.size
        have hk2 : l0.take k = l0 := List.take_of_length_le (by omega)
        have hd := HD.out
        have hs := HS.out
        rw [hk2] at hd hs
        have h2 := H.out
        rw [if_pos hs] at h2
        simp only [Option.some.injEq, Prod.mk.injEq] at h2
        obtain ⟨rfl, rfl⟩ := h2
        clear hk2 hs
        have HDD := Aside0.mk hd
        clear hd
        go_wp2_with fail
        refine (Try.Builder_String_any w.heap.size w.heap.size _ wr HDD.out (by omega)).mono ?_
        rintro e w2 ⟨rfl, hb2⟩
        go_wp2
        go_ret2
        exact ⟨rfl, HB.out.trans hb2⟩
  · rw [if_neg hl] at h
    cases h
end Go.Proofs.Ytgjclhhjigflkaa.M
