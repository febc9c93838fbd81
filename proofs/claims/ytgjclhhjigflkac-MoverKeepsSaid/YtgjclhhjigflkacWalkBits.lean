/- The walks of the reference's bits: Of, Word, Zig, Zag, Field, With: arrays of 64 truths. -/
import Derived.Test.YtgjclhhjigflkacMyWords
import Derived.Test.YtgjclhhjigflkacProg
import Derived.Outline
import Derived.RegionTactic
import Derived.BigRegion
import Derived.ChangeAlike
namespace Go.Proofs.Ytgjclhhjigflkac.M
open Go.RowKit Go.Proofs.Ytgjclhhjigflkac.MyWords Go.Proofs.YtgjclhhjigflkacW.PrintWords Go.Proofs.YtgjclhhjigflkacW.PrintLast Go.Proofs.YtgjclhhjigflkacW.PrintMore
set_option linter.unusedVariables false
set_option linter.unusedSimpArgs false
section
variable {e : Operand → Value} {o : Oper} (W : World)
theorem run_alloc_bits (ho : o.op = .alloc 182) : (execOp e o).run Try.prog W = .ok (.value (.pointer (some ⟨W.heap.size, 0, none⟩))) (W.alloc (.cells (arr fun _ => false) 182 (0, 0))) := by
  unfold execOp
  simp only [ho]
  kernel_rfl
theorem run_build_bits (ho : o.op = .build 182 #[]) : (execOp e o).run Try.prog W = .ok (.value (.agg (arr fun _ => false))) W := by
  unfold execOp
  simp only [ho]
  kernel_rfl
end
theorem info_arr (f : Nat → Bool) : (Try.prog.info? 182).map (·.size) = some (arr f).size := by rw [arr_size]; kernel_rfl
theorem info_bits : (Try.prog.info? 182).map (·.size) = some 64 := by kernel_rfl
/-- a bit of a number -/
def bitOf (x : Int) (k : Nat) : Bool := (BitVec.ofInt 64 x).getLsbD k
theorem shr_bit (x : Int) (k : Nat) (hk : k < 64) : (Go.bits .and .i64 (x / 2 ^ k) 1 == 1) = bitOf x k := by
  unfold bitOf
  have e : Go.bits .and .i64 (x / 2 ^ k) 1 = (x / 2 ^ k) % 2 := by
    show IntKind.i64.wrap ((BitVec.ofInt 64 (x / 2 ^ k) &&& BitVec.ofInt 64 1).toNat : Int) = _
    rw [BitVec.toNat_and, show (BitVec.ofInt 64 1).toNat = 2 ^ 1 - 1 by decide, Nat.and_two_pow_sub_one_eq_mod, BitVec.toNat_ofInt, IntKind.wrap_i64]
    omega
  rw [e, BitVec.getLsbD, BitVec.toNat_ofInt, Nat.testBit_eq_decide_div_mod_eq]
  have hy : ((((x % ((2 ^ 64 : Nat) : Int)).toNat / 2 ^ k % 2 : Nat)) : Int) = x / 2 ^ k % 2 := by
    have h0 : 0 ≤ x % ((2 ^ 64 : Nat) : Int) := Int.emod_nonneg _ (by decide)
    rw [Int.natCast_emod, Int.natCast_ediv, Int.toNat_of_nonneg h0]
    have hx : x = x % ((2 ^ 64 : Nat) : Int) + (2 ^ k : Int) * (2 * ((2 ^ (63 - k) : Int) * (x / ((2 ^ 64 : Nat) : Int)))) := by
      have h1 := Int.emod_add_mul_ediv x ((2 ^ 64 : Nat) : Int)
      have h2 : ((2 ^ 64 : Nat) : Int) = (2 ^ k : Int) * (2 * (2 ^ (63 - k) : Int)) := by
        rw [Int.natCast_pow, show (2 : Int) * 2 ^ (63 - k) = 2 ^ (63 - k + 1) by rw [Int.pow_succ, Int.mul_comm], ← Int.pow_add, show k + (63 - k + 1) = 64 by omega]
        rfl
      generalize hq : x / ((2 ^ 64 : Nat) : Int) = q at h1 ⊢
      rw [← Int.mul_assoc, ← Int.mul_assoc, Int.mul_assoc (2 ^ k : Int), ← h2]
      exact h1.symm
    conv => rhs; rw [hx]
    rw [Int.add_mul_ediv_left _ _ (by have : (0 : Int) < 2 ^ k := Int.pow_pos (by decide); omega)]
    have e2 : ((2 ^ k : Nat) : Int) = (2 : Int) ^ k := Int.natCast_pow 2 k
    rw [e2]
    omega
  by_cases h : x / 2 ^ k % 2 = 1
  · rw [h]
    simp only [beq_self_eq_true]
    symm
    rw [decide_eq_true_eq]
    omega
  · rw [beq_eq_false_iff_ne.2 h]
    symm
    rw [decide_eq_false_iff_not]
    omega
/-- one block is told, the others stay -/
theorem blk_other {W w1 : World} {g k : Nat} {o : Obj} (h : ∀ k, k ≠ g → w1.heap[k]? = W.heap[k]?) (hk : k ≠ g) (hb : W.heap[k]? = some o) : w1.heap[k]? = some o := (h k hk).trans hb
set_option maxHeartbeats 1000000 in
set_option maxRecDepth 100000 in
theorem ref_Of.calls (a0 : Int) (w : World) :
    Calls Try.prog 143 #[.int .i64 a0] w fun e w' => e = .returned (.agg (arr (bitOf a0))) ∧ Below w.heap.size w w' := by
  go_enter Try.func143, Try.ntmps143
  go_wp2_with (first | ((with_reducible refine gate_dst (N := 2) rfl ?_); refine alloc_event rfl (N := 2) rfl (run_alloc_bits _ rfl) ?_; intro g1 w1 hg1 hA1 hb1 hs1) | ((with_reducible refine gate_dst (N := 5) rfl ?_); refine Kd.event_run rfl (run_build_bits _ rfl) ?_) | ((with_reducible refine gate_dst (N := 3) rfl ?_); refine alloc_event rfl (N := 3) rfl (run_alloc_bits _ rfl) ?_; intro g2 w2 hg2 hA2 hb2 hs2) | (refine row_store_event rfl _ (.tmp 3) (.tmp 5) rfl _ _ rfl rfl _ _ hA2.out (info_arr _) rfl (arr_one _) ?_; intro w3 h3))
  have hne : g1 ≠ g2 := by have := hg1.out; have := hg2.out; have := hs1.out; omega
  have hA3 : w3.heap[g1]? = some (.cells (arr fun _ => false) 182 (0, 0)) := blk_other h3.other hne (blk_below hA1.out (by have := hb2.out; exact this))
  have hB3 : Below w.heap.size w w3 := h3.below (below_step hb1.out hb2.out) (by have := hg2.out; have := hs1.out; omega)
  have hw1 : w.heap.size ≤ g1 := by have := hg1.out; omega
  have hw2 : w.heap.size ≤ g2 := by have := hg2.out; have := hs1.out; omega
  have HA3 := Aside0.mk hA3
  have HB3 := Aside0.mk hB3
  have HN := Aside0.mk hne
  have HA4 := Aside0.mk h3.at_
  clear hA3 hB3 h3 hA1 hA2 hb1 hb2 hs1 hs2 hg1 hg2 hne
  go_loopw [4] (fun v4 wr => ∃ (k : Nat) (f : Nat → Bool), v4 = .int .i64 (k : Int) ∧ k ≤ 64 ∧ Aside0 (∀ j, j < k → f j = bitOf a0 j) ∧ Aside0 (wr.heap[g2]? = some (.cells (arr f) 182 (0, 0))) ∧ Aside0 (wr.heap[g1]? = some (.cells (arr fun _ => false) 182 (0, 0))) ∧ Aside0 (Below w.heap.size w wr)) (fun v4 _ => 64 - (intOf v4).toNat)
  case atStart => exact ⟨0, _, rfl, by omega, ⟨fun j hj => by omega⟩, HA4, HA3, HB3⟩
  case round =>
    obtain ⟨k, f, rfl, hk, HF, HC, HG, HB⟩ := hrel
    clear HA3 HA4 HB3
    by_cases hlt : k < 64
    · have hfz : wr.frozen? ⟨g2, k, none⟩ = false := blk_frozen HC.out _
      have hcell : wr.cell? ⟨g2, k, none⟩ = some (.bool (f k)) := by rw [blk_cell HC.out]; exact arr_get f k hlt
      have hb := shr_bit a0 k hlt
      have HBit := Aside0.mk hb
      clear hb
      go_wp2
      refine ⟨⟨k + 1, fun j => if j = k then bitOf a0 k else f j, by simp, by omega, ⟨fun j hj => ?_⟩, ⟨?_⟩, ⟨blk_far HG.out HN.out _⟩, ⟨HB.out.setCell hw2 _⟩⟩, by simp [intOf]; omega⟩
      · by_cases e : j = k
        · simp [e]
        · simp only [if_neg e]
          exact HF.out j (by omega)
      · rw [HBit.out, ← arr_set]
        exact blk_set HC.out _ _
    · go_wp2_with (first | (refine wpList_load_row rfl _ (.tmp 3) rfl _ rfl _ _ _ _ HC.out Try.underlying182 rfl (info_arr _) ?_) | (refine row_store_event rfl _ (.tmp 2) (.tmp 17) rfl _ _ rfl rfl _ _ HG.out (info_arr _) rfl (arr_one _) ?_; intro w4 h4))
      refine bodyPost_ret (v := .agg (arr f)) (results_cell_row Try.results143 _ _ g1 _ _ _ _ rfl h4.at_ Try.underlying182 rfl (info_arr _)) rfl ⟨?_, h4.below HB.out hw1⟩
      rw [arr_congr (fun j hj => HF.out j (by omega))]

/-! the word of truths -/
def bvUp (f : Nat → Bool) : Nat → BitVec 64
  | 0 => 0#64
  | k + 1 => bvUp f k ||| (if f k then 1#64 <<< k else 0#64)
def bvOf (f : Nat → Bool) : BitVec 64 := bvUp f 64
def wordOf (f : Nat → Bool) : Int := (bvOf f).toInt
theorem bvUp_bit (f : Nat → Bool) (k i : Nat) : k ≤ 64 → (bvUp f k).getLsbD i = (decide (i < k) && f i) := by
  induction k with
  | zero => intro _; simp [bvUp]
  | succ k ih =>
    intro hk
    rw [bvUp, BitVec.getLsbD_or, ih (by omega)]
    by_cases e : i = k
    · subst e
      cases h : f i <;> simp [BitVec.getLsbD_shiftLeft, show i < 64 by omega]
    · have h2 : (if f k then 1#64 <<< k else 0#64 : BitVec 64).getLsbD i = false := by
        cases h : f k
        · simp
        · simp [BitVec.getLsbD_shiftLeft, BitVec.getLsbD_one]
          intros
          omega
      rw [h2, Bool.or_false]
      by_cases hl : i < k
      · simp [hl, show i < k + 1 by omega]
      · simp [hl, show ¬ i < k + 1 by omega]
theorem bvOf_bit (f : Nat → Bool) (i : Nat) : (bvOf f).getLsbD i = (decide (i < 64) && f i) := bvUp_bit f 64 i (Nat.le_refl _)
theorem wordOf_congr {f g : Nat → Bool} (h : ∀ j, j < 64 → f j = g j) : wordOf f = wordOf g := by
  unfold wordOf
  congr 1
  apply BitVec.eq_of_getLsbD_eq
  intro i hi
  rw [bvOf_bit, bvOf_bit, h i hi]
theorem or_i64 (x y : BitVec 64) : Go.bits .or .i64 x.toInt y.toInt = (x ||| y).toInt := by
  show IntKind.i64.wrap ((BitVec.ofInt 64 x.toInt ||| BitVec.ofInt 64 y.toInt).toNat : Int) = _
  rw [BitVec.ofInt_toInt, BitVec.ofInt_toInt, IntKind.wrap_i64, BitVec.toInt_eq_toNat_cond]
  have := (x ||| y).isLt
  split <;> omega
theorem shl_one (k : Nat) (hk : k < 64) : IntKind.i64.wrap (2 ^ k) = ((1#64 <<< k : BitVec 64)).toInt := by
  rw [IntKind.wrap_i64, BitVec.toInt_eq_toNat_cond, BitVec.toNat_shiftLeft]
  have h2 : (1#64).toNat <<< k = 2 ^ k := by simp [Nat.shiftLeft_eq]
  rw [h2]
  have h3 : 2 ^ k < 2 ^ 64 := Nat.pow_lt_pow_right (by decide) hk
  rw [Nat.mod_eq_of_lt h3]
  have h4 : (((2 ^ k : Nat)) : Int) = (2 : Int) ^ k := Int.natCast_pow 2 k
  rw [← h4]
  split <;> omega
set_option maxHeartbeats 1000000 in
set_option maxRecDepth 100000 in
theorem ref_Word.calls (f : Nat → Bool) (w : World) :
    Calls Try.prog 144 #[.agg (arr f)] w fun e w' => e = .returned (.int .i64 (wordOf f)) ∧ Below w.heap.size w w' := by
  go_enter Try.func144, Try.ntmps144
  go_wp2
  go_loop [3, 4] (fun v3 v4 => ∃ k : Nat, k ≤ 64 ∧ v3 = .int .i64 (bvUp f k).toInt ∧ v4 = .int .i64 (k : Int)) (fun _ v4 => 64 - (intOf v4).toNat)
  case atStart => exact ⟨0, by omega, rfl, rfl⟩
  case round =>
    obtain ⟨k, hk, rfl, rfl⟩ := hrel
    by_cases hlt : k < 64
    · have hc : ∀ b, f k = b → (w.alloc (.cells (arr f) 182)).cell? ⟨w.heap.size, k, none⟩ = some (.bool b) := by
        intro b hb
        rw [blk_cell (blk_new w _), arr_get f k hlt, hb]
      have hs := shl_one k hlt
      cases hf : f k with
      | true =>
        have hcell := hc true hf
        have HO := Aside0.mk (show Go.bits .or .i64 (bvUp f k).toInt (IntKind.i64.wrap (2 ^ k)) = (bvUp f (k + 1)).toInt by rw [hs, or_i64, bvUp, hf]; rfl)
        clear hc hs hf
        go_wp2
        refine ⟨⟨k + 1, by omega, ?_, by simp⟩, by simp [intOf]; omega⟩
        rw [← HO.out, i64_w]
      | false =>
        have hcell := hc false hf
        have HO := Aside0.mk (show bvUp f k = bvUp f (k + 1) by rw [bvUp, hf]; simp)
        clear hc hs hf
        go_wp2
        refine ⟨⟨k + 1, by omega, ?_, by simp⟩, by simp [intOf]; omega⟩
        rw [← HO.out]
    · go_wp2
      go_ret
      refine ⟨?_, (Below.refl _ _).alloc (Nat.le_refl _) _⟩
      obtain rfl : k = 64 := by omega
      rfl

/-! Zig and Zag -/
def zigF (x : Int) (j : Nat) : Bool := if j = 0 then bitOf x 63 else bitOf x (j - 1) != bitOf x 63
theorem cell_arr {w : World} {g : Nat} {f : Nat → Bool} (h : w.heap[g]? = some (.cells (arr f) 182 (0, 0))) (i : Nat) (hi : i < 64) (b : Bool) (hb : f i = b) : w.cell? ⟨g, i, none⟩ = some (.bool b) := by
  rw [blk_cell h, arr_get f i hi, hb]
set_option maxHeartbeats 2000000 in
set_option maxRecDepth 100000 in
theorem ref_Zig.calls (a0 : Int) (w : World) :
    Calls Try.prog 107 #[.int .i64 a0] w fun e w' => e = .returned (.int .i64 (wordOf (zigF a0))) ∧ Below w.heap.size w w' := by
  obtain ⟨b63, hb63⟩ : ∃ b, bitOf a0 63 = b := ⟨_, rfl⟩
  have HB63 := Aside0.mk hb63
  clear hb63
  go_enter Try.func107, Try.ntmps107
  go_wp2_with (first | (go_at_call 143; refine (ref_Of.calls a0 _).mono ?_; rintro e w1 ⟨rfl, hb⟩; have hb1 := Aside0.mk hb; clear hb) | ((with_reducible refine gate_dst (N := 3) rfl ?_); refine alloc_event rfl (N := 3) rfl (run_alloc_bits _ rfl) ?_; intro g1 w2 hg1 hA1 hb2 hs2) | (refine row_store_event rfl _ (.tmp 3) (.tmp 7) rfl _ _ rfl rfl _ _ hA1.out (info_arr _) rfl (arr_one _) ?_; intro w3 h3) | ((with_reducible refine gate_dst (N := 8) rfl ?_); refine Kd.event_run rfl (run_build_bits _ rfl) ?_) | ((with_reducible refine gate_dst (N := 4) rfl ?_); refine alloc_event rfl (N := 4) rfl (run_alloc_bits _ rfl) ?_; intro g2 w4 hg2 hA2 hb4 hs4) | (refine row_store_event rfl _ (.tmp 4) (.tmp 8) rfl _ _ rfl rfl _ _ hA2.out (info_arr _) rfl (arr_one _) ?_; intro w5 h5; have hne := Aside0.mk (show g1 ≠ g2 by have := hg1.out; have := hg2.out; have := hs2.out; have := h3.size; omega); have hA5 := Aside0.mk (blk_other h5.other hne.out (blk_below h3.at_ hb4.out)); have hA6 := Aside0.mk h5.at_; have hlow := Aside0.mk (show w.heap.size ≤ g1 ∧ w.heap.size ≤ g2 by have := hb1.out.size; have := hg1.out; have := hg2.out; have := hs2.out; have := h3.size; omega); have hB5 := Aside0.mk (h5.below (below_step (h3.below (below_step hb1.out hb2.out) hlow.out.1) hb4.out) hlow.out.2); clear h5 h3 hA1 hA2 hb1 hb2 hs2 hb4 hs4 hg1 hg2; have hc63 := cell_arr hA5.out 63 (by decide) b63 HB63.out; have hc0 := cell_arr hA6.out 0 (by decide) false rfl; have hf0 := blk_frozen hA6.out 0))
  clear hc63 hc0 hf0
  go_loopw [5] (fun v5 wr => ∃ (k : Nat) (f : Nat → Bool), v5 = .int .i64 (k : Int) ∧ 1 ≤ k ∧ k ≤ 64 ∧ Aside0 (∀ j, j < k → f j = zigF a0 j) ∧ Aside0 (wr.heap[g2]? = some (.cells (arr f) 182 (0, 0))) ∧ Aside0 (wr.heap[g1]? = some (.cells (arr (bitOf a0)) 182 (0, 0))) ∧ Aside0 (Below w.heap.size w wr)) (fun v5 _ => 64 - (intOf v5).toNat)
  case atStart =>
    refine ⟨1, fun j => if j = 0 then b63 else false, rfl, by omega, by omega, ⟨fun j hj => ?_⟩, ⟨?_⟩, ⟨blk_far hA5.out hne.out _⟩, ⟨hB5.out.setCell hlow.out.2 _⟩⟩
    · obtain rfl : j = 0 := by omega
      simp [zigF, HB63.out]
    · rw [← arr_set]
      exact blk_set hA6.out _ _
  case round =>
    obtain ⟨k, f, rfl, h1, hk, HF, HC, HG, HB⟩ := hrel
    clear hA5 hA6 hB5
    by_cases hlt : k < 64
    · obtain ⟨bk, hbk⟩ : ∃ b, bitOf a0 (k - 1) = b := ⟨_, rfl⟩
      have hc1 := cell_arr HG.out (k - 1) (by omega) bk hbk
      have hc63 := cell_arr HG.out 63 (by decide) b63 HB63.out
      have hfz : wr.frozen? ⟨g2, k, none⟩ = false := blk_frozen HC.out _
      have hcell := cell_arr HC.out k hlt (f k) rfl
      have HBK := Aside0.mk hbk
      clear hbk
      go_wp2
      go_region
      go_wp2
      refine ⟨⟨k + 1, fun j => if j = k then !(bk == b63) else f j, by simp, by omega, by omega, ⟨fun j hj => ?_⟩, ⟨?_⟩, ⟨blk_far HG.out hne.out _⟩, ⟨(HB.out.setCell hlow.out.2 _).drew⟩⟩, by simp [intOf]; omega⟩
      · by_cases e : j = k
        · subst e
          simp only [if_pos rfl, zigF, if_neg (show ¬ j = 0 by omega), HBK.out, HB63.out]
          cases bk <;> cases b63 <;> rfl
        · simp only [if_neg e]
          exact HF.out j (by omega)
      · rw [← arr_set]
        exact blk_set HC.out _ _
    · go_wp2_with (first | (refine wpList_load_row rfl _ (.tmp 4) rfl _ rfl _ _ _ _ HC.out Try.underlying182 rfl (info_arr _) ?_) | (go_at_call 144; refine (ref_Word.calls _ _).mono ?_; rintro e w6 ⟨rfl, hb6⟩; have hb7 := Aside0.mk hb6; clear hb6))
      go_ret
      refine ⟨?_, below_step HB.out hb7.out⟩
      have e : wordOf f = wordOf (zigF a0) := wordOf_congr (fun j hj => HF.out j (by omega))
      rw [← e]
      rfl
def zagF (x : Int) (j : Nat) : Bool := if j = 63 then bitOf x 0 else bitOf x (j + 1) != bitOf x 0
set_option maxHeartbeats 2000000 in
set_option maxRecDepth 100000 in
theorem ref_Zag.calls (a0 : Int) (w : World) :
    Calls Try.prog 147 #[.int .i64 a0] w fun e w' => e = .returned (.int .i64 (wordOf (zagF a0))) ∧ Below w.heap.size w w' := by
  obtain ⟨b0, hb0⟩ : ∃ b, bitOf a0 0 = b := ⟨_, rfl⟩
  have HB0 := Aside0.mk hb0
  clear hb0
  go_enter Try.func147, Try.ntmps147
  go_wp2_with (first | (go_at_call 143; refine (ref_Of.calls a0 _).mono ?_; rintro e w1 ⟨rfl, hb⟩; have hb1 := Aside0.mk hb; clear hb) | ((with_reducible refine gate_dst (N := 3) rfl ?_); refine alloc_event rfl (N := 3) rfl (run_alloc_bits _ rfl) ?_; intro g1 w2 hg1 hA1 hb2 hs2) | (refine row_store_event rfl _ (.tmp 3) (.tmp 7) rfl _ _ rfl rfl _ _ hA1.out (info_arr _) rfl (arr_one _) ?_; intro w3 h3) | ((with_reducible refine gate_dst (N := 8) rfl ?_); refine Kd.event_run rfl (run_build_bits _ rfl) ?_) | ((with_reducible refine gate_dst (N := 4) rfl ?_); refine alloc_event rfl (N := 4) rfl (run_alloc_bits _ rfl) ?_; intro g2 w4 hg2 hA2 hb4 hs4) | (refine row_store_event rfl _ (.tmp 4) (.tmp 8) rfl _ _ rfl rfl _ _ hA2.out (info_arr _) rfl (arr_one _) ?_; intro w5 h5; have hne := Aside0.mk (show g1 ≠ g2 by have := hg1.out; have := hg2.out; have := hs2.out; have := h3.size; omega); have hA5 := Aside0.mk (blk_other h5.other hne.out (blk_below h3.at_ hb4.out)); have hA6 := Aside0.mk h5.at_; have hlow := Aside0.mk (show w.heap.size ≤ g1 ∧ w.heap.size ≤ g2 by have := hb1.out.size; have := hg1.out; have := hg2.out; have := hs2.out; have := h3.size; omega); have hB5 := Aside0.mk (h5.below (below_step (h3.below (below_step hb1.out hb2.out) hlow.out.1) hb4.out) hlow.out.2); clear h5 h3 hA1 hA2 hb1 hb2 hs2 hb4 hs4 hg1 hg2))
  go_loopw [5] (fun v5 wr => ∃ (k : Nat) (f : Nat → Bool), v5 = .int .i64 (k : Int) ∧ k ≤ 63 ∧ Aside0 (∀ j, j < k → f j = zagF a0 j) ∧ Aside0 (wr.heap[g2]? = some (.cells (arr f) 182 (0, 0))) ∧ Aside0 (wr.heap[g1]? = some (.cells (arr (bitOf a0)) 182 (0, 0))) ∧ Aside0 (Below w.heap.size w wr)) (fun v5 _ => 63 - (intOf v5).toNat)
  case atStart => exact ⟨0, _, rfl, by omega, ⟨fun j hj => by omega⟩, hA6, hA5, hB5⟩
  case round =>
    obtain ⟨k, f, rfl, hk, HF, HC, HG, HB⟩ := hrel
    clear hA5 hA6 hB5
    have hc0 := cell_arr HG.out 0 (by decide) b0 HB0.out
    by_cases hlt : k < 63
    · obtain ⟨bk, hbk⟩ : ∃ b, bitOf a0 (k + 1) = b := ⟨_, rfl⟩
      have hc1 := cell_arr HG.out (k + 1) (by omega) bk hbk
      have hfz : wr.frozen? ⟨g2, k, none⟩ = false := blk_frozen HC.out _
      have hcell := cell_arr HC.out k (by omega) (f k) rfl
      have HBK := Aside0.mk hbk
      clear hbk
      go_wp2
      go_region
      go_wp2
      refine ⟨⟨k + 1, fun j => if j = k then !(bk == b0) else f j, by simp, by omega, ⟨fun j hj => ?_⟩, ⟨?_⟩, ⟨blk_far HG.out hne.out _⟩, ⟨(HB.out.setCell hlow.out.2 _).drew⟩⟩, by simp [intOf]; omega⟩
      · by_cases e : j = k
        · subst e
          simp only [if_pos rfl, zagF, if_neg (show ¬ j = 63 by omega), HBK.out, HB0.out]
          cases bk <;> cases b0 <;> rfl
        · simp only [if_neg e]
          exact HF.out j (by omega)
      · rw [← arr_set]
        exact blk_set HC.out _ _
    · obtain rfl : k = 63 := by omega
      have hfz : wr.frozen? ⟨g2, 63, none⟩ = false := blk_frozen HC.out _
      have hcell := cell_arr HC.out 63 (by decide) (f 63) rfl
      have HC2 : Aside0 ((wr.setCell ⟨g2, 63, none⟩ (.bool b0)).heap[g2]? = some (.cells (arr fun j => if j = 63 then b0 else f j) 182 (0, 0))) := ⟨by rw [← arr_set]; exact blk_set HC.out _ _⟩
      clear hlt
      go_wp2_with (first | (refine wpList_load_row rfl _ (.tmp 4) rfl _ rfl _ _ _ _ HC2.out Try.underlying182 rfl (info_arr _) ?_) | (go_at_call 144; refine (ref_Word.calls _ _).mono ?_; rintro e w6 ⟨rfl, hb6⟩; have hb7 := Aside0.mk hb6; clear hb6))
      go_ret
      refine ⟨?_, below_step (HB.out.setCell hlow.out.2 _) hb7.out⟩
      have e : wordOf (fun j => if j = 63 then b0 else f j) = wordOf (zagF a0) := wordOf_congr (fun j hj => by
        by_cases e : j = 63
        · subst e; simp [zagF, HB0.out]
        · simp only [if_neg e]
          exact HF.out j (by omega))
      rw [← e]
      rfl
end Go.Proofs.Ytgjclhhjigflkac.M
