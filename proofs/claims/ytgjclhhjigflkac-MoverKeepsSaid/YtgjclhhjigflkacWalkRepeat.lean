/- The walk of slices.Repeat over one whole number. -/
import Derived.Test.YtgjclhhjigflkacMyWords
import Derived.Test.YtgjclhhjigflkacProg
import Derived.Test.YtgjclhhjigflkacShelf
import Derived.Deep.RegionLaw
namespace Go.Proofs.Ytgjclhhjigflkac.M
open Go Go.RowKit Go.Proofs.Ytgjclhhjigflkac.MyWords Go.Proofs.YtgjclhhjigflkacW.PrintWords Go.Proofs.YtgjclhhjigflkacW.PrintLast Go.Proofs.YtgjclhhjigflkacW.PrintMore
set_option linter.unusedVariables false
set_option linter.unusedSimpArgs false
section
variable {P : Program} {ops : Array Oper} {rest : List Oper} {o : Oper} {a : Act} {Q : Exit → Act → World → Prop}
theorem make_event {W : World} (hgd : o.guard = none) {N : Tmp} (_hd : o.dst = some N) (x y : Operand) (ho : o.op = .makeSlice 43 x y) (n : Nat) (hx : a.eval x = .int .i64 (n : Int)) (hy : a.eval y = .int .i64 (n : Int))
    (ht : P.underlying 43 = some (.slice 3)) (hinfo : (P.info? 3).map (fun i => (i.zero, i.size, i.bytes)) = some (some (.int .i64 0), 1, 8)) (hn : n ≤ 1000000)
    (h : ∀ g w1, Aside0 (g = W.heap.size) → Aside0 (w1.heap[g]? = some (.cells (List.replicate n (Value.int .i64 0)).toArray 3 (0, 0))) → Aside0 (Below W.heap.size W w1) → wpList P ops Q rest (a.put o.dst (.slice (some ⟨g, 0, none⟩) n n)) w1) : wpList P ops Q (o :: rest) a W := by
  have hr := print_make_int (P := P) 43 3 (.int .i64 0) 8 ht hinfo rfl (by decide) (n : Int) (by omega) (by simp; omega) W
  have hrun : (execOp a.eval o).run P W = .ok (.value (.slice (some ⟨W.heap.size, 0, none⟩) n n)) (W.alloc (.cells (madeCells #[.int .i64 0] n) 3)) := by
    simp [execOp, ho, hx, hy, hr]
  refine Kd.event_run hgd hrun (h _ _ ⟨rfl⟩ ⟨?_⟩ ⟨below_alloc (Below.refl _ _) _⟩)
  rw [blk_new]
  have e : madeCells #[Value.int .i64 0] n = (List.replicate n (Value.int .i64 0)).toArray := by
    apply Array.toList_inj.1
    apply List.ext_getElem?
    intro i
    by_cases hi : i < n
    · simp [madeCells, hi, Nat.mod_one]
    · simp [madeCells, hi]
  rw [e]
end
theorem one_cell {w : World} {ad : Addr} {x : Int} (h : w.cell? (ad.add 0) = some (.int .i64 x)) (j : Nat) (v : Value) (hj : [Value.int .i64 x][j]? = some v) : w.cell? (ad.add j) = some v := by
  cases j with
  | zero =>
    have : Value.int .i64 x = v := by simpa using hj
    rw [← this]
    exact h
  | succ j => simp at hj
theorem src_cell {w : World} {g m n : Nat} {x : Int} {cur : List Value} (hg : w.heap[g]? = some (.cells cur.toArray 3 (0, 0))) (hc : cur.take m = List.replicate m (Value.int .i64 x)) (j : Nat) (v : Value) (hj : (List.replicate (min m (n - m)) (Value.int .i64 x))[j]? = some v) : w.drew.cell? ((⟨g, 0, none⟩ : Addr).add j) = some v := by
  have hlt : j < min m (n - m) := by
    rcases Nat.lt_or_ge j (min m (n - m)) with h | h
    · exact h
    · rw [List.getElem?_eq_none (by simpa using h)] at hj
      cases hj
  have hv : Value.int .i64 x = v := by simpa [List.getElem?_replicate, hlt] using hj
  have h1 : (cur.take m)[j]? = some (Value.int .i64 x) := by rw [hc, List.getElem?_replicate, if_pos (by omega)]
  have h2 : cur[j]? = some (Value.int .i64 x) := by rw [List.getElem?_take] at h1; split at h1 <;> simp_all
  rw [add_plain, ← hv]
  show w.cell? _ = _
  rw [blk_cell hg j]
  simpa using h2
theorem rep_step {m n : Nat} {x : Value} {cur : List Value} (h1 : cur.length = n) (h2 : cur.take m = List.replicate m x) (hm : m ≤ n) :
    (splice cur m (List.replicate (min m (n - m)) x)).length = n ∧ (splice cur m (List.replicate (min m (n - m)) x)).take (m + min m (n - m)) = List.replicate (m + min m (n - m)) x := by
  unfold splice
  constructor
  · simp; omega
  · rw [← List.append_assoc, List.take_append_of_le_length (by simp; omega), List.take_of_length_le (by simp; omega), h2, List.replicate_append_replicate]
def slices_Repeat_int_int.f (l0 : List Int) (a1 : Int) : Option (List Int) := if l0.length = 1 ∧ 1 ≤ a1 ∧ a1 ≤ 1000000 then some (List.replicate a1.toNat (rd l0 0)) else none
set_option maxHeartbeats 1000000 in
set_option maxRecDepth 100000 in
theorem slices_Repeat_int_int.calls (A0 : Option Addr) (c0 : Nat) (l0 : List Int) (a1 : Int) (r : List Int) (w : World) (hr0 : Kd.C (Kd.int .i64) w A0 l0.length l0) (hc0 : l0.length ≤ c0) (h : slices_Repeat_int_int.f l0 a1 = some r) :
    Calls Try.prog 94 #[.slice A0 l0.length c0, .int .i64 a1] w fun e w' => ∃ v0_ : Value, e = .returned (v0_) ∧ Kd.R (Kd.int .i64) 3 w' w.heap.size (fun _ => True) v0_ r ∧ Below w.heap.size w w' := by
  unfold slices_Repeat_int_int.f at h
  by_cases hl : l0.length = 1 ∧ 1 ≤ a1 ∧ a1 ≤ 1000000
  · rw [if_pos hl] at h
    obtain ⟨h1, h2, h3⟩ := hl
    obtain ⟨n, rfl⟩ := Int.eq_ofNat_of_zero_le (show 0 ≤ a1 by omega)
    obtain ⟨x, rfl⟩ := List.length_eq_one_iff.1 h1
    have HE := Aside0.mk (Option.some.inj h)
    clear h
    obtain ⟨ad, hA, hcell⟩ := Kd.at_int hr0 0 (by omega) (by simp)
    subst hA
    have hcell : w.cell? (ad.add 0) = some (.int .i64 x) := hcell
    have HCELL := Aside0.mk hcell
    clear hcell hr0 hc0 h1
    have hq1 : (n : Int) / 18446744073709551616 = 0 := by omega
    have hq2 : (n : Int) % 18446744073709551616 = (n : Int) := by omega
    have hq3 : decide ((9223372036854775807 : Int) < (n : Int)) = false := decide_eq_false (by omega)
    have hq4 : decide ((n : Int) < 0) = false := decide_eq_false (by omega)
    go_enter Try.func94, Try.ntmps94
    go_wp2_with (first | (go_at_call 127; refine (Try.bits_Mul 1 n (by decide) (by omega) _).mono ?_; rintro e w1 ⟨rfl, rfl⟩) | ((with_reducible refine gate_dst (N := 30) rfl ?_); refine make_event rfl (N := 30) rfl _ _ rfl n (by first | rfl | (go_simp; done)) (by first | rfl | (go_simp; done)) Try.underlying43 (by kernel_rfl) (by omega) ?_; intro g w2 hg hK hB; have HGW := Aside0.mk (show w1.heap.size ≤ g by rw [hg.out]; exact Nat.le_refl _); have HCX := Aside0.mk ((hB.out.cell (World.block_lt_of_cell? w1 _ HCELL.out)).trans HCELL.out)) | ((with_reducible refine gate_builtin (b := .copy) (xs := #[.tmp 31, .tmp 32]) rfl ?_); refine wpList_copy_splice rfl (.tmp 31) (.tmp 32) 43 43 rfl 3 Try.underlying43 (by kernel_rfl) (some ⟨g, 0, none⟩) (some ad) n n 1 c0 rfl rfl g 0 (List.replicate n (Value.int .i64 0)) 3 hK.out [Value.int .i64 x] (show 1 = min 1 n by omega) (fun _ => ⟨rfl, ad, rfl, fun j v hj => one_cell HCX.out j v hj⟩) (by rw [List.length_replicate, List.length_singleton]; omega) (by intro v hv; rw [List.mem_singleton.1 hv]; rfl) w1.heap.size w1 hB.out HGW.out ?_; intro w3 hg3 hb3; have HK3 := Aside0.mk hg3; have HB3 := Aside0.mk hb3; clear hg3 hb3))
    go_loopw [8] (fun v8 wr => ∃ (m : Nat) (cur : List Value), v8 = .int .i64 (m : Int) ∧ 1 ≤ m ∧ m ≤ n ∧ Aside0 (cur.length = n ∧ cur.take m = List.replicate m (Value.int .i64 x)) ∧ Aside0 (wr.heap[g]? = some (.cells cur.toArray 3 (0, 0))) ∧ Aside0 (Below w1.heap.size w1 wr)) (fun v8 _ => n - (intOf v8).toNat)
    case atStart =>
      refine ⟨1, splice (List.replicate n (Value.int .i64 0)) 0 [Value.int .i64 x], rfl, by omega, by omega, ⟨?_, ?_⟩, ⟨HK3.out⟩, HB3⟩
      · simp [splice]; omega
      · simp [splice]
    case round =>
      obtain ⟨m, cur, rfl, hm1, hm2, HF, HC, HB⟩ := hrel
      by_cases hlt : m < n
      · have hcut1 : (m : Int) ≤ (n : Int) := by omega
        go_wp2
        go_region_law ((refine step_copy_splice rfl (.tmp 41) (.tmp 44) 43 43 rfl 3 Try.underlying43 (by kernel_rfl) (some ⟨g, m, none⟩) (some ⟨g, 0, none⟩) (n - m) (n - m) m n ?hd ?hs g m cur 3 HC.out (List.replicate (min m (n - m)) (Value.int .i64 x)) List.length_replicate (fun _ => ⟨rfl, ⟨g, 0, none⟩, rfl, fun j v hj => src_cell HC.out HF.out.2 j v hj⟩) (by rw [List.length_replicate, HF.out.1]; omega) (by intro v hv; rw [List.eq_of_mem_replicate hv]; rfl) w1.heap.size w1 (below_drew HB.out) HGW.out ?_); (case hd => first | (go_simp; done) | (go_simp; omega)); (case hs => first | (go_simp; done) | (go_simp; omega)); intro w4 hg4 hb4)
        have HG4 := Aside0.mk hg4.out
        have HB4 := Aside0.mk hb4
        clear hg4 hb4
        go_wp2
        have hw : IntKind.i64.wrap ((m : Int) + ((min m (n - m) : Nat) : Int)) = ((m + min m (n - m) : Nat) : Int) := by
          rw [IntWalk.i64_in _ (by omega)]; omega
        rw [hw]
        obtain ⟨hf1, hf2⟩ := HF.out
        refine ⟨⟨m + min m (n - m), rfl, by omega, by omega, _, ⟨?_⟩, ⟨HG4.out⟩⟩, by simp only [intOf]; omega⟩
        exact rep_step hf1 hf2 hm2
      · go_wp2
        go_ret
        obtain ⟨hf1, hf2⟩ := HF.out
        have hmn : m = n := by omega
        have hr : r = List.replicate n x := by
          rw [← HE.out]; simp [rd]
        have hr2 : r.length = n := by rw [hr, List.length_replicate]
        have hsl : (Value.slice (some ⟨g, 0, none⟩) n n) = .slice (some ⟨g, 0, none⟩) r.length n := by rw [hr2]
        refine ⟨_, rfl, Kd.R_of_own (xs := r) ⟨by simp [encs], .inr ⟨g, n, cur.toArray, hsl, HGW.out, HC.out, by omega, by simp only [maxLen]; omega, by simp [hf1], ?_⟩⟩ (fun _ _ => trivial), HB.out⟩
        rw [hr2, Nat.mul_one, hr, ← hmn]
        simpa [encs] using hf2
  · rw [if_neg hl] at h
    cases h
end Go.Proofs.Ytgjclhhjigflkac.M
