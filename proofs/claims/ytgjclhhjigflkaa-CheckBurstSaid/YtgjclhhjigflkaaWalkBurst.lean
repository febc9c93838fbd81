/- The walk of the law CheckBurst: sealed bytes of which some are turned. -/
import Derived.Test.YtgjclhhjigflkaaMx1
import Derived.Test.YtgjclhhjigflkaaWalkBits
import Derived.Lib.AtoiErrMem
import Derived.Lib.VarintBits
import Derived.Laws.BitsAllLaws
namespace Go.Proofs.Ytgjclhhjigflkaa.M
set_option linter.unusedVariables false
set_option linter.unusedSimpArgs false
open Go Go.RowKit Go.Proofs.Ytgjclhhjigflkaa.MyWords Go.Proofs.YtgjclhhjigflkaaW.PrintWords Go.Proofs.YtgjclhhjigflkaaW.PrintLast Go.Proofs.YtgjclhhjigflkaaW.PrintMore
/-- a row of bytes, made of a string -/
structure Bur (W : World) (g : Nat) (l : List UInt8) : Prop where
  ex : ∃ (cs : Array Value) (m : Nat), W.heap[g]? = some (.cells cs 5 (m, m + 1)) ∧ cs.size = m ∧ l.length ≤ m ∧ ∀ j, j < l.length → cs[j]? = some (.int .u8 ((l.getD j 0).toNat : Int))
theorem Bur.cell {W : World} {g : Nat} {l : List UInt8} (h : Bur W g l) (j : Nat) (hj : j < l.length) : W.cell? ⟨g, j, none⟩ = some (.int .u8 ((l.getD j 0).toNat : Int)) := by
  obtain ⟨cs, m, h1, _, _, h4⟩ := h.ex
  rw [cell_of_row W g j cs _ _ h1, h4 j hj]
theorem Bur.frozen {W : World} {g : Nat} {l : List UInt8} (h : Bur W g l) (j : Nat) (hj : j < l.length) : W.frozen? ⟨g, j, none⟩ = false := by
  obtain ⟨cs, m, h1, _, h3, _⟩ := h.ex
  simp [World.frozen?, h1]
  omega
theorem Bur.set {W : World} {g : Nat} {l : List UInt8} (h : Bur W g l) (j : Nat) (hj : j < l.length) (v : UInt8) : Bur (W.setCell ⟨g, j, none⟩ (.int .u8 (v.toNat : Int))) g (l.set j v) := by
  obtain ⟨cs, m, h1, h2, h3, h4⟩ := h.ex
  refine ⟨cs.setIfInBounds j (.int .u8 (v.toNat : Int)), m, by simp [World.setCell, Array.getElem?_modify, h1], by simpa using h2, by simpa using h3, fun i hi => ?_⟩
  rw [List.length_set] at hi
  by_cases e : j = i
  · subst e
    rw [Array.getElem?_setIfInBounds_self_of_lt (by omega), List.getD_eq_getElem?_getD, List.getElem?_set_self hi]
    rfl
  · rw [Array.getElem?_setIfInBounds_ne e, h4 i hi, List.getD_eq_getElem?_getD, List.getD_eq_getElem?_getD, List.getElem?_set_ne e]
theorem Bur.drew {W : World} {g : Nat} {l : List UInt8} (h : Bur W g l) : Bur W.drew g l := ⟨h.ex⟩
section
variable {P : Program} {ops : Array Oper} {rest : List Oper} {o : Oper} {a : Act} {Q : Exit → Act → World → Prop}
theorem conv_event {W : World} (hgd : o.guard = none) {N : Tmp} (_hd : o.dst = some N) (x : Operand) (ho : o.op = .convert 9 31 x) (s : ByteArray) (hx : a.eval x = .string s)
    (hs : P.underlying 9 = some .string) (hd : P.underlying 31 = some (.slice 5)) (he : P.underlying 5 = some (.int .u8))
    (h : ∀ g cap w1, Aside0 (g = W.heap.size) → Aside0 (Bur w1 g s.data.toList) → Aside0 (Below W.heap.size W w1) → wpList P ops Q rest (a.put o.dst (.slice (some ⟨g, 0, none⟩) s.size cap)) w1) : wpList P ops Q (o :: rest) a W := by
  have hr := Lib.run_convert_string_bytes (P := P) W 9 31 5 s hs hd he
  have hrun : (execOp a.eval o).run P W = .ok (.value (.slice (some ⟨W.heap.size, 0, none⟩) s.size (grownCap W s.size 0 5))) (Lib.bytesWorld W 5 s) := by
    simp [execOp, ho, hx, hr]
  refine Kd.event_run hgd hrun (h _ _ _ ⟨rfl⟩ ⟨⟨_, _, Lib.bytesWorld_at_new W _ s, rfl, ?_, ?_⟩⟩ ⟨Lib.bytesWorld_below W _ s⟩)
  · rw [data_length]
    unfold Lib.bytesCells
    rw [Array.size_append, Array.size_map]
    have e : s.data.size = s.size := rfl
    omega
  · intro j hj
    rw [data_length] at hj
    have e := Lib.bytesWorld_cell W 5 s j hj
    rwa [cell_of_row _ _ _ _ _ _ (Lib.bytesWorld_at_new W 5 s)] at e
end
def flip (l : List UInt8) (k : Nat) : List UInt8 := l.set (k / 8) (l.getD (k / 8) 0 ^^^ UInt8.ofNat (2 ^ (k % 8)))
theorem flip_length (l : List UInt8) (k : Nat) : (flip l k).length = l.length := by simp [flip]
def turnS (D : List UInt8) (F : Nat) (by_ : Int) : Nat → List UInt8
  | 0 => D
  | i + 1 => if bitOf by_ i = true then flip (turnS D F by_ i) (F + i) else turnS D F by_ i
theorem turnS_length (D : List UInt8) (F : Nat) (by_ : Int) (i : Nat) : (turnS D F by_ i).length = D.length := by
  induction i with
  | zero => rfl
  | succ i ih => rw [turnS]; split <;> simp [flip_length, ih]
def turnB (by_ : Int) : Nat → Bool
  | 0 => false
  | i + 1 => bitOf by_ i || turnB by_ i
def firstOf (a1 : Int) (L : Nat) : Nat := ((Go.bits .and .i64 a1 65535) % ((8 * L : Nat) : Int)).toNat
def mostOf (F L : Nat) : Nat := min 32 (8 * L - F)
def peristylelaw03_CheckBurst.f (k : Nat) (a0 : ByteArray) (a1 a2 : Int) : Option Bool :=
  if (a0.size : Int) > 1024 then peristylelaw03_awake.f k else (check_Seal.f k a0).bind fun t =>
    if t.size = a0.size + 4 then
      (check_Open.f k ⟨(turnS t.data.toList (firstOf a1 t.size) a2 (mostOf (firstOf a1 t.size) t.size)).toArray⟩).bind fun o =>
        (peristylelaw03_awake.f k).bind fun b => some (((o.2 == 5) == turnB a2 (mostOf (firstOf a1 t.size) t.size)) && (((o.2 == 0) == !(turnB a2 (mostOf (firstOf a1 t.size) t.size))) && b))
    else some false
def peristylelaw03_CheckBurst.Pure : Prop := ∀ (a0 : ByteArray) (a1 a2 : Int), a0.size ≤ 140737488351232 → (Lit.int .i64 a1).wf = true → (Lit.int .i64 a2).wf = true → ∃ k, peristylelaw03_CheckBurst.f k a0 a1 a2 = some true
theorem and16 (x : Int) : 0 ≤ Go.bits .and .i64 x 65535 ∧ Go.bits .and .i64 x 65535 < 65536 := by
  have h : Go.bits .and .i64 x 65535 = x % 65536 := by
    show IntKind.i64.wrap ((BitVec.ofInt 64 x &&& BitVec.ofInt 64 65535).toNat : Int) = x % 65536
    have e : (BitVec.ofInt 64 x &&& BitVec.ofInt 64 65535).toNat = (x % 65536).toNat := by
      rw [BitVec.toNat_and, BitVec.toNat_ofInt, BitVec.toNat_ofInt]
      have e2 : ((65535 : Int) % ((2 ^ 64 : Nat) : Int)).toNat = 2 ^ 16 - 1 := by decide
      rw [e2, Nat.and_two_pow_sub_one_eq_mod]
      simp only [Nat.reducePow]
      omega
    rw [e, IntKind.wrap_i64]
    omega
  rw [h]
  omega
theorem and7 (x : Int) (h : 0 ≤ x) : Go.bits .and .i64 x 7 = x % 8 := by
  show IntKind.i64.wrap ((BitVec.ofInt 64 x &&& BitVec.ofInt 64 7).toNat : Int) = x % 8
  have e : (BitVec.ofInt 64 x &&& BitVec.ofInt 64 7).toNat = (x % 8).toNat := by
    rw [BitVec.toNat_and, BitVec.toNat_ofInt, BitVec.toNat_ofInt]
    have e2 : ((7 : Int) % ((2 ^ 64 : Nat) : Int)).toNat = 2 ^ 3 - 1 := by decide
    rw [e2, Nat.and_two_pow_sub_one_eq_mod]
    simp only [Nat.reducePow]
    omega
  rw [e, IntKind.wrap_i64]
  omega
theorem str_of {W : World} {g : Nat} {l : List UInt8} (h : Bur W g l) (n cap : Nat) (hn : l.length = n) : (convert 31 9 (.slice (some ⟨g, 0, none⟩) n cap)).run Try.prog W = .ok (.string ⟨l.toArray⟩) W := by
  have e : strOfNums (l.map fun b => (b.toNat : Int)) = ⟨l.toArray⟩ := by
    apply ByteArray.ext
    apply Array.toList_inj.1
    rw [strOfNums_data, List.map_map]
    conv => rhs; rw [← List.map_id l]
    apply List.map_congr_left
    intro b _
    simp
  rw [← e]
  refine run_convert_bytes_arg W 31 5 Try.underlying31 Try.underlying5 g 0 n cap _ (by simpa using hn) (fun i hi => ?_) 9 Try.underlying9
  rw [Nat.zero_add, h.cell i (by omega)]
  congr 3
  simp [List.getD_eq_getElem?_getD, List.getElem?_eq_getElem (show i < l.length by omega)]
set_option maxHeartbeats 4000000 in
set_option maxRecDepth 100000 in
theorem peristylelaw03_CheckBurst.calls (k : Nat) (a0 : ByteArray) (a1 a2 : Int) (r : Bool) (w : World) (h : peristylelaw03_CheckBurst.f k a0 a1 a2 = some r) :
    Calls Try.prog 6 #[.string a0, .int .i64 a1, .int .i64 a2] w fun e w' => e = .returned (.bool r) ∧ Below w.heap.size w w' := by
  unfold peristylelaw03_CheckBurst.f at h
  by_cases c : (a0.size : Int) > 1024
  · rw [if_pos c] at h
    have cb : decide ((1024 : Int) < (a0.size : Int)) = true := decide_eq_true c
    have H := Aside0.mk h
    clear h c
    go_enter Try.func6, Try.ntmps6
    go_wp2_with (first | (go_at_call 15; (with_reducible refine (peristylelaw03_awake.calls k r _ H.out).mono ?_); rintro e w1 ⟨rfl, hb⟩))
    go_ret
    exact ⟨rfl, hb⟩
  · rw [if_neg c] at h
    have cb : decide ((1024 : Int) < (a0.size : Int)) = false := decide_eq_false c
    have hsz : a0.size ≤ 1024 := by omega
    obtain ⟨t, ht, h⟩ := Option.bind_eq_some_iff.1 h
    have HT := Aside0.mk ht
    clear ht c
    by_cases c2 : t.size = a0.size + 4
    · rw [if_pos c2] at h
      obtain ⟨⟨o1, o2⟩, ho, h⟩ := Option.bind_eq_some_iff.1 h
      obtain ⟨b, hb, h⟩ := Option.bind_eq_some_iff.1 h
      have HO := Aside0.mk ho
      have HA := Aside0.mk hb
      have HR := Aside0.mk (Option.some.inj h)
      clear ho hb h
      have HC2 := Aside0.mk c2
      have h16 := and16 a1
      obtain ⟨A, hA⟩ : ∃ A, Go.bits .and .i64 a1 65535 = A := ⟨_, rfl⟩
      obtain ⟨F, hF⟩ : ∃ F, firstOf a1 (a0.size + 4) = F := ⟨_, rfl⟩
      have hF2 : A % (8 * ((a0.size : Int) + 4)) = (F : Int) := by
        rw [← hF]
        unfold firstOf
        rw [hA]
        have e : ((8 * (a0.size + 4) : Nat) : Int) = 8 * ((a0.size : Int) + 4) := by omega
        rw [e]
        have := Int.emod_nonneg A (show 8 * ((a0.size : Int) + 4) ≠ 0 by omega)
        rw [Int.toNat_of_nonneg this]
      have hF3 : F < 8 * (a0.size + 4) := by have := Int.emod_lt_of_pos A (show (0 : Int) < 8 * ((a0.size : Int) + 4) by omega); omega
      obtain ⟨m, hm⟩ : ∃ m, mostOf F (a0.size + 4) = m := ⟨_, rfl⟩
      have hm2 : m ≤ 32 ∧ F + m ≤ 8 * (a0.size + 4) ∧ (m = 32 ∨ F + m = 8 * (a0.size + 4)) := by unfold mostOf at hm; omega
      rw [c2] at HO HR
      rw [hF] at HO HR
      rw [hm] at HO HR
      obtain ⟨D, hD⟩ : ∃ D, t.data.toList = D := ⟨_, rfl⟩
      have hTl : D.length = a0.size + 4 := by rw [← hD, data_length]; exact c2
      rw [hD] at HO
      have HD := Aside0.mk hD
      have HTL := Aside0.mk hTl
      have ct2 : ((t.size : Int) != ((a0.size : Int) + 4)) = false := bne_eq_false_iff_eq.2 (by omega)
      clear hD hTl hF hm
      go_enter Try.func6, Try.ntmps6
      go_wp2_with (first | (go_at_call 21; (with_reducible refine (check_Seal.calls k a0 t _ HT.out).mono ?_); rintro e w1 ⟨rfl, hb1⟩; have HB1 := Aside0.mk hb1; clear hb1) | ((with_reducible refine gate_dst (N := 20) rfl ?_); refine conv_event rfl (N := 20) rfl _ rfl t rfl Try.underlying9 Try.underlying31 Try.underlying5 ?_; intro g cap w2 hg HU HB2))
      have HG0 := Aside0.mk (show w.heap.size ≤ g by have := HB1.out.size; have := hg.out; omega)
      have HB3 := Aside0.mk (below_step HB1.out HB2.out)
      have HU2 : Aside0 (Bur w2 g D) := ⟨by rw [← HD.out]; exact HU.out⟩
      clear HU HB1 HB2 hg
      go_loopw [9, 10] (fun v9 v10 wr => ∃ i : Nat, v9 = .bool (turnB a2 i) ∧ v10 = .int .i64 (i : Int) ∧ i ≤ m ∧ Aside0 (Bur wr g (turnS D F a2 i)) ∧ Aside0 (Below w.heap.size w wr)) (fun _ v10 _ => m - (intOf v10).toNat)
      case atStart => exact ⟨0, rfl, rfl, Nat.zero_le _, HU2, HB3⟩
      case round =>
        obtain ⟨i, rfl, rfl, hi, HU, HB⟩ := hrel
        clear HU2 HB3
        by_cases him : i < m
        · have hb := shr_bit a2 i (by omega)
          have c1 : decide ((i : Int) < 32) = true := decide_eq_true (by omega)
          have c3 : decide ((F : Int) + (i : Int) < 8 * ((a0.size : Int) + 4)) = true := decide_eq_true (by omega)
          have HBit := Aside0.mk hb
          clear hb
          by_cases hbit : bitOf a2 i = true
          · have cb1 : (Go.bits .and .i64 (a2 / 2 ^ i) 1 == 1) = true := HBit.out.trans hbit
            have HBT := Aside0.mk hbit
            clear hbit
            obtain ⟨q, hq⟩ : ∃ q, (F + i) / 8 = q := ⟨_, rfl⟩
            obtain ⟨p, hp⟩ : ∃ p, (F + i) % 8 = p := ⟨_, rfl⟩
            have hqe : ((F : Int) + (i : Int)) / 8 = (q : Int) := by omega
            have hqlt : q < a0.size + 4 := by omega
            have hplt : p < 8 := by omega
            have hand : Go.bits .and .i64 ((F : Int) + (i : Int)) 7 = (p : Int) := by
              rw [and7 _ (by omega)]
              omega
            have hlen : (turnS D F a2 i).length = a0.size + 4 := by rw [turnS_length]; exact HTL.out
            have hcell := HU.out.cell q (by omega)
            have hfz := HU.out.frozen q (by omega)
            obtain ⟨x, hx⟩ : ∃ x, (turnS D F a2 i).getD q 0 = x := ⟨_, rfl⟩
            rw [hx] at hcell
            have HX := Aside0.mk hx
            have HLEN := Aside0.mk hlen
            have HQ := Aside0.mk hq
            have HP := Aside0.mk hp
            clear hx hlen hq hp
            go_wp2
            go_region
            go_wp2
            have hxor : Go.bits .xor .u8 (x.toNat : Int) (2 ^ p % 256) = ((x ^^^ UInt8.ofNat (2 ^ p)).toNat : Int) := by
              have hp2 : 2 ^ p < 256 := Nat.lt_of_lt_of_le (Nat.pow_lt_pow_right (by decide) hplt) (by decide)
              have := u8_xor_nat x.toNat (2 ^ p) x.toNat_lt hp2
              have e2 : ((2 : Int) ^ p % 256) = ((2 ^ p : Nat) : Int) := by
                have e3 : ((2 ^ p : Nat) : Int) = (2 : Int) ^ p := by rw [Int.natCast_pow]; rfl
                rw [← e3]
                exact Int.emod_eq_of_lt (Int.natCast_nonneg _) (by exact_mod_cast hp2)
              rw [e2, this, UInt8.toNat_xor, UInt8.toNat_ofNat', Nat.mod_eq_of_lt hp2]
            have hT1 : turnB a2 (i + 1) = true := by rw [turnB, HBT.out, Bool.true_or]
            have hT2 : turnS D F a2 (i + 1) = (turnS D F a2 i).set q (x ^^^ UInt8.ofNat (2 ^ p)) := by rw [turnS, if_pos HBT.out, flip, HQ.out, HP.out, HX.out]
            refine ⟨⟨i + 1, by rw [hT1], by simp, by omega, ⟨?_⟩, ⟨(HB.out.setCell HG0.out _).drew⟩⟩, by simp [intOf]; omega⟩
            rw [hxor, hT2]
            exact (HU.out.set q (by rw [HLEN.out]; omega) _).drew
          · have hbit : bitOf a2 i = false := Bool.eq_false_iff.mpr hbit
            have cb1 : (Go.bits .and .i64 (a2 / 2 ^ i) 1 == 1) = false := HBit.out.trans hbit
            have HBT := Aside0.mk hbit
            clear hbit
            go_wp2
            have hT1 : turnB a2 (i + 1) = turnB a2 i := by rw [turnB, HBT.out, Bool.false_or]
            have hT2 : turnS D F a2 (i + 1) = turnS D F a2 i := by rw [turnS, HBT.out]; rfl
            exact ⟨⟨i + 1, by rw [hT1], by simp, by omega, ⟨by rw [hT2]; exact HU.out⟩, HB⟩, by simp [intOf]; omega⟩
        · obtain rfl : i = m := by omega
          have hstr := str_of HU.out (a0.size + 4) cap (by rw [turnS_length]; exact HTL.out)
          obtain ⟨T, hT⟩ : ∃ T, turnB a2 i = T := ⟨_, rfl⟩
          rw [hT] at HR
          rw [hT]
          clear hT
          by_cases c32 : i < 32
          · have c1 : decide ((i : Int) < 32) = true := decide_eq_true (by omega)
            have c3 : decide ((F : Int) + (i : Int) < 8 * ((a0.size : Int) + 4)) = false := decide_eq_false (by omega)
            go_wp2_with (first | (go_at_call 20; (with_reducible refine (check_Open.calls k _ o1 o2 _ HO.out).mono ?_); rintro e w5 ⟨rfl, hb5⟩; have HB5 := Aside0.mk hb5; clear hb5) | (go_at_call 15; (with_reducible refine (peristylelaw03_awake.calls k b _ HA.out).mono ?_); rintro e w6 ⟨rfl, hb6⟩; have HB6 := Aside0.mk hb6; clear hb6))
            all_goals go_ret
            all_goals first | (refine ⟨?_, below_step (below_step HB.out HB5.out) HB6.out⟩; rw [← HR.out]; simp_all; done) | (refine ⟨?_, below_step HB.out HB5.out⟩; rw [← HR.out]; simp_all; done) | skip


          · have c1 : decide ((i : Int) < 32) = false := decide_eq_false (by omega)
            go_wp2_with (first | (go_at_call 20; (with_reducible refine (check_Open.calls k _ o1 o2 _ HO.out).mono ?_); rintro e w5 ⟨rfl, hb5⟩; have HB5 := Aside0.mk hb5; clear hb5) | (go_at_call 15; (with_reducible refine (peristylelaw03_awake.calls k b _ HA.out).mono ?_); rintro e w6 ⟨rfl, hb6⟩; have HB6 := Aside0.mk hb6; clear hb6))
            all_goals go_ret
            all_goals first | (refine ⟨?_, below_step (below_step HB.out HB5.out) HB6.out⟩; rw [← HR.out]; simp_all; done) | (refine ⟨?_, below_step HB.out HB5.out⟩; rw [← HR.out]; simp_all; done) | skip


    · rw [if_neg c2] at h
      have HR := Aside0.mk (Option.some.inj h)
      clear h
      have ct2 : ((t.size : Int) != ((a0.size : Int) + 4)) = true := bne_iff_ne.2 (by omega)
      go_enter Try.func6, Try.ntmps6
      go_wp2_with (first | (go_at_call 21; (with_reducible refine (check_Seal.calls k a0 t _ HT.out).mono ?_); rintro e w1 ⟨rfl, hb1⟩; have HB1 := Aside0.mk hb1; clear hb1) | ((with_reducible refine gate_dst (N := 20) rfl ?_); refine conv_event rfl (N := 20) rfl _ rfl t rfl Try.underlying9 Try.underlying31 Try.underlying5 ?_; intro g cap w2 hg HU HB2))
      go_ret
      exact ⟨by rw [← HR.out]; rfl, below_step HB1.out HB2.out⟩
theorem peristylelaw03_CheckBurst.walk (P : peristylelaw03_CheckBurst.Pure) (a0 : ByteArray) (a1 a2 : Int) (w : World) (w0 : a0.size ≤ 140737488351232) (w1 : (Lit.int .i64 a1).wf = true) (w2 : (Lit.int .i64 a2).wf = true) :
    Calls Try.prog 6 #[.string a0, .int .i64 a1, .int .i64 a2] w fun e w' => e = .returned (.bool true) ∧ Below w.heap.size w w' := by
  obtain ⟨k, h⟩ := P a0 a1 a2 w0 w1 w2
  exact peristylelaw03_CheckBurst.calls k a0 a1 a2 true w h
end Go.Proofs.Ytgjclhhjigflkaa.M
