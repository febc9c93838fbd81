/- The walk of cover.used. -/
import Derived.Test.YtgjclhhjigflkabCvCols
namespace Go.Proofs.Ytgjclhhjigflkab.Sc
open Go Go.RowKit Go.Proofs.Ytgjclhhjigflkab.C Go.Proofs.Ytgjclhhjigflkab.MyWords Go.Proofs.Ytgjclhhjigflkab.Hand Go.Proofs.YtgjclhhjigflkabW.PrintWords Go.Proofs.YtgjclhhjigflkabW.PrintLast Go.Proofs.YtgjclhhjigflkabW.PrintMore
set_option linter.unusedVariables false
set_option linter.unusedSimpArgs false
theorem used_fn (q : Prj) (c : List Value) (n : ByteArray) (b : Nat) (w : World) (hK : kP.K w q c) (hb : w.heap[b]? = some (.cells #[.string n] 9 (0, 0))) :
    Calls Try.prog 124 #[.agg c.toArray, .pointer (some ⟨b, 0, none⟩)] w fun e w' => e = .returned (.bool (byName n q)) ∧ Below w.heap.size w w' := by
  obtain ⟨Ap, cp, rfl, _, _⟩ := k138_open hK
  have HT := Aside0.mk hb
  have hbl := blk_lt hb
  clear hK hb
  obtain ⟨r, hr⟩ : ∃ r, (q.f0.toList == n.toList) = r := ⟨_, rfl⟩
  have HP : Aside0 (byName n q = r) := ⟨hr⟩
  cases r
  all_goals
    go_enter Try.func124, Try.ntmps124
    go_wp2_with (first | ((with_reducible refine gate_dst (N := 2) rfl ?_); refine box_event rfl (N := 2) rfl (cs := #[.string q.f0, .slice Ap q.f1.length cp, .int .i64 q.f2]) (t := TP) ?hr ?_; (case hr => first | (go_simp; done) | (go_simp; rfl)); intro b2 hg2 w2 hb2 hB2; have hcn : w2.cell? ⟨b, 0, none⟩ = some (.string n) := (cell_of_row w2 b 0 _ _ _ (blk_below HT.out hB2)).trans rfl; have hcq : w2.cell? ⟨b2, 0, none⟩ = some (.string q.f0) := (cell_of_row w2 b2 0 _ _ _ hb2).trans rfl; have HB2 := Aside0.mk hB2; clear hg2 hb2 hB2))
    go_ret
    exact ⟨by rw [HP.out]; rfl, HB2.out⟩
theorem used_succ (t : Tab) (l : List ByteArray) (k : Nat) (h : k < l.length) : usedP t (l.take (k + 1)) = usedStep t (usedP t (l.take k)) l[k] := by
  unfold usedP
  rw [List.take_succ_eq_append_getElem h, List.foldl_append]
  rfl
theorem used_len (t : Tab) : ∀ (l : List ByteArray) (out : List Int), (l.foldl (usedStep t) out).length ≤ out.length + l.length
  | [], out => by simp
  | n :: l, out => by
    rw [List.foldl_cons]
    refine Nat.le_trans (used_len t l _) ?_
    unfold usedStep
    split
    · simp; omega
    · simp
theorem used_le (t : Tab) (l : List ByteArray) : (usedP t l).length ≤ l.length := by
  have := used_len t l []
  simpa [usedP] using this
set_option maxHeartbeats 2000000 in
set_option maxRecDepth 100000 in
theorem used_calls {w : World} {t : Tab} {At : Option Addr} {ct : Nat} {Bt : Option Addr} {dt : Nat} (H : TA w t At ct Bt dt) (l : List ByteArray) (A : Option Addr) (c0 : Nat) (hr : Kd.C Kd.string w A l.length l) (hl : l.length ≤ 1000000) :
    Calls Try.prog 78 #[.agg #[.string t.f0, .slice At t.f1.length ct, .slice Bt t.f2.length dt], .slice A l.length c0] w fun e w' => ∃ v, e = .returned v ∧ Kd.R (Kd.int .i64) 3 w' w.heap.size (fun k => w.heap.size ≤ k) v (usedP t l) ∧ Below w.heap.size w w' := by
  have HR := Aside0.mk hr
  have HT := Aside0.mk H
  clear hr H
  go_enter Try.func78, Try.ntmps78
  go_wp2_with (first | ((with_reducible refine gate_dst (N := 2) rfl ?_); refine box_event rfl (N := 2) rfl (cs := #[.string t.f0, .slice At t.f1.length ct, .slice Bt t.f2.length dt]) (t := TT) ?hr ?_; (case hr => first | (go_simp; done) | (go_simp; rfl)); intro b hgb w1 hb hBb; have HXb := Aside0.mk hb; have HBb := Aside0.mk hBb; clear hgb hb hBb))
  go_loopw [5, 11] (fun v5 v11 wr => ∃ k : Nat, v11 = .int .i64 (k : Int) ∧ k ≤ l.length ∧ Aside0 (Kd.R (Kd.int .i64) 3 wr w1.heap.size (fun k => w1.heap.size ≤ k) v5 (usedP t (l.take k))) ∧ Aside0 (Below w1.heap.size w1 wr)) (fun _ v11 _ => l.length - (intOf v11).toNat)
  case atStart => exact ⟨0, rfl, Nat.zero_le _, ⟨Kd.R_nil _ _ _ _ _⟩, ⟨Below.refl _ _⟩⟩
  case round =>
    obtain ⟨k, rfl, hk, HO, HB1⟩ := hrel
    have HB := Aside0.mk (below_step HBb.out HB1.out)
    by_cases hkl : k < l.length
    · obtain ⟨ad, cl, hA, hcl, hK, hcc⟩ := at_cells (Kd.C_below HR.out HB.out) k hkl
      have hsu := used_succ t l k hkl
      obtain ⟨n, hn⟩ : ∃ n, l[k] = n := ⟨_, rfl⟩
      rw [hn] at hK hsu
      obtain rfl : cl = [.string n] := hK
      subst hA
      have hcell : wr.cell? (ad.add k) = some (.string n) := by
        have := hcc 0 _ rfl
        rw [Go.Addr.add_add] at this
        simpa [Kd.string, Kd.scalar] using this
      obtain ⟨r, hr⟩ : ∃ r, idxF (byName n) t.f2 0 = r := ⟨_, rfl⟩
      have HRR := Aside0.mk hr
      have HSU := Aside0.mk hsu
      have hlen := Nat.le_trans (used_le t (l.take k)) (List.length_take_le k l)
      obtain ⟨L, hL⟩ : ∃ L, usedP t (l.take k) = L := ⟨_, rfl⟩
      rw [hL] at HO HSU hlen
      obtain ⟨A3, c3, rfl⟩ := Kd.R_slice HO.out
      clear hcl hcc hn hr hsu hL
      go_wp2_with (first | ((with_reducible refine gate_dst (N := 7) rfl ?_); refine box_event rfl (N := 7) rfl (cs := #[.string ⟨#[]⟩]) (t := 9) ?hr ?_; (case hr => first | (go_simp; done) | (go_simp; rfl)); intro b7 hg7 w7 hb7 hB7; have HX7 := Aside0.mk hb7; have HB7 := Aside0.mk hB7; have HG7 := Aside0.mk hg7; have hc7 : w7.cell? ⟨b7, 0, none⟩ = some (.string ⟨#[]⟩) := (cell_of_row w7 b7 0 _ _ _ hb7).trans rfl; have hf7 := frozen_of_row w7 b7 0 _ _ hb7; have hc2 : (w7.setCell ⟨b7, 0, none⟩ (.string n)).cell? ⟨b, 2, none⟩ = some (.slice Bt t.f2.length dt) := (cell_of_row _ b 2 _ _ _ ((heap_setCell_other w7 ⟨b7, 0, none⟩ b _ (by have h1 := blk_lt (blk_below HXb.out HB1.out); show b ≠ b7; omega)).trans (blk_below (blk_below HXb.out HB1.out) hB7))).trans rfl; clear hg7 hb7 hB7 hcell))
      obtain ⟨w8, hw8⟩ : ∃ w8, w8 = w7.setCell ⟨b7, 0, none⟩ (.string n) := ⟨_, rfl⟩
      rw [← hw8]
      have hset := cellSet_mk (i := 0) (v := Value.string n) HX7.out
      rw [← hw8] at hset
      have HX8 : Aside0 (w8.heap[b7]? = some (.cells #[.string n] 9 (0, 0))) := ⟨hset.at_⟩
      have HB8 : Aside0 (Below wr.heap.size wr w8) := ⟨hset.below HB7.out (by have := HG7.out; omega)⟩
      clear hset hw8 hc7 hf7 hc2
      refine (index_proj (.func (.func 124) #[] #[.pointer (some ⟨b7, 0, none⟩)]) (byName n) Bt dt t.f2 r w8 (Kd.C_below HT.out.p (below_step HB.out HB8.out)) HT.out.dt (by have := HT.out.g.p; omega) (fun i hi c w2 hb hcl hk => CallsV.of Try.func124 (by kernel_rfl) rfl (used_fn t.f2[i] c n b7 w2 hk (blk_below HX8.out hb))) HRR.out).mono ?_
      rintro e w9 ⟨rfl, hb9⟩
      have HB9 := Aside0.mk (below_step HB8.out hb9)
      clear hb9 HX8 HB8 HX7 HB7 HG7
      by_cases h0 : 0 ≤ r
      · have g0 : decide (0 ≤ r) = true := decide_eq_true h0
        have HO9 := Aside0.mk (Kd.R_below HO.out HB9.out)
        have hrd := Kd.R_reads' HO9.out
        have HRD := Aside0.mk hrd
        obtain ⟨kk, hkk⟩ := (has_ev L (by omega) r).rounds
        by_cases hin : r ∈ L
        · rw [decide_eq_true hin] at hkk
          have HKK := Aside0.mk hkk
          have hst : usedStep t L n = L := by unfold usedStep; rw [HRR.out, if_neg (fun h => h.2 hin)]
          have HST := Aside0.mk hst
          clear hkk hin hst hrd
          go_wp2_with fail
          refine (slices_Contains_int_int.calls kk A3 c3 L r true _ HRD.out.2.2 HRD.out.2.1 HKK.out).mono ?_
          rintro e w10 ⟨rfl, hd⟩
          have HB10 := Aside0.mk (below_step HB9.out hd.below)
          have HO10 := Aside0.mk (Kd.R_below HO9.out hd.below)
          clear hd
          go_wp2_with fail
          exact ⟨⟨k + 1, by simp, by omega, ⟨by rw [HSU.out, HST.out]; exact HO10.out⟩, ⟨below_step HB1.out HB10.out⟩⟩, by simp [intOf]; omega⟩
        · rw [decide_eq_false hin] at hkk
          have HKK := Aside0.mk hkk
          have hst : usedStep t L n = L ++ [r] := by unfold usedStep; rw [HRR.out, if_pos ⟨h0, hin⟩]
          have HST := Aside0.mk hst
          clear hkk hin hst hrd
          go_wp2_with fail
          refine (slices_Contains_int_int.calls kk A3 c3 L r false _ HRD.out.2.2 HRD.out.2.1 HKK.out).mono ?_
          rintro e w10 ⟨rfl, hd⟩
          have HB10 := Aside0.mk (below_step HB9.out hd.below)
          have HO10 := Aside0.mk (Kd.R_below HO9.out hd.below)
          have HBw := Aside0.mk (below_step HB1.out HB10.out)
          clear hd
          go_wp2_with (first | ((with_reducible refine gate_builtin (b := .append) (xs := #[.tmp 27, .tmp 29]) rfl ?_); at_builtin; refine Kd.R_append (Kd.int .i64) (w0 := w1) w1.heap.size rfl (.tmp 27) (.tmp 29) 33 3 (.int .i64 0) 8 rfl Try.underlying33 (by kernel_rfl) rfl (by decide) (by decide) _ L r [.int .i64 r] (fun k => w1.heap.size ≤ k) (fun _ => False) rfl rfl rfl (fun _ hk => hk.elim) (fun _ hk => Nat.le_trans HBw.out.size hk) HO10.out HBw.out HBw.out.size (by omega) ?_; intro v4 w4 hR4 hB4 hG4 hA4; have HR4 := Aside0.mk hR4; have HB4 := Aside0.mk hB4; clear hR4 hB4 hG4 hA4))
          exact ⟨⟨k + 1, by simp, by omega, ⟨by rw [HSU.out, HST.out]; exact HR4.out⟩, HB4⟩, by simp [intOf]; omega⟩
      · have g0 : decide (0 ≤ r) = false := decide_eq_false h0
        have hst : usedStep t L n = L := by unfold usedStep; rw [HRR.out, if_neg (fun h => h0 h.1)]
        have HST := Aside0.mk hst
        clear hst
        have HO9 := Aside0.mk (Kd.R_below HO.out HB9.out)
        go_wp2_with fail
        exact ⟨⟨k + 1, by simp, by omega, ⟨by rw [HSU.out, HST.out]; exact HO9.out⟩, ⟨below_step HB1.out HB9.out⟩⟩, by simp [intOf]; omega⟩
    · obtain rfl : k = l.length := by omega
      go_wp2_with fail
      go_ret
      have := HO.out
      rw [List.take_length] at this
      exact ⟨_, rfl, Kd.R_lower (Kd.R_mono this (fun k hk => Nat.le_trans HBb.out.size hk)) HBb.out.size, HB.out⟩
end Go.Proofs.Ytgjclhhjigflkab.Sc
