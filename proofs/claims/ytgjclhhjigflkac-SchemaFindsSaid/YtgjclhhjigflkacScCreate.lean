import Derived.Test.YtgjclhhjigflkacScMix
import Derived.ArgAppend
import Derived.Deep.MidRow
/- The walk of schema.copied: tables, and all that they lead to, of the call's own. (Written by gencopied.py.) -/
namespace Go.Proofs.Ytgjclhhjigflkac.Sc
open Go Go.RowKit Go.Proofs.Ytgjclhhjigflkac.C Go.Proofs.Ytgjclhhjigflkac.MyWords Go.Proofs.Ytgjclhhjigflkac.Hand Go.Proofs.YtgjclhhjigflkacW.PrintWords Go.Proofs.YtgjclhhjigflkacW.PrintLast Go.Proofs.YtgjclhhjigflkacW.PrintMore
set_option linter.unusedVariables false
set_option linter.unusedSimpArgs false
theorem info_tab : (Try.prog.info? TT).map (fun i => (i.zero, i.size, i.bytes)) = some (some (.agg #[(.string ⟨#[]⟩), (.slice none 0 0), (.slice none 0 0)]), kT.sz, 64) := by kernel_rfl
theorem size_S : (Try.prog.info? 43).map (·.size) = some 1 := by kernel_rfl
theorem run_alloc_T {e : Operand → Value} {o : Oper} {W : World} (ho : o.op = .alloc TT) : (execOp e o).run Try.prog W = .ok (.value (.pointer (some ⟨W.heap.size, 0, none⟩))) (W.alloc (.cells #[.string ⟨#[]⟩, .slice none 0 0, .slice none 0 0] TT (0, 0))) := by
  unfold execOp
  simp only [ho]
  kernel_rfl
theorem run_alloc_Pr {e : Operand → Value} {o : Oper} {W : World} (ho : o.op = .alloc TP) : (execOp e o).run Try.prog W = .ok (.value (.pointer (some ⟨W.heap.size, 0, none⟩))) (W.alloc (.cells #[.string ⟨#[]⟩, .slice none 0 0, .int .i64 0] TP (0, 0))) := by
  unfold execOp
  simp only [ho]
  kernel_rfl
theorem one3 (a b c : Value) (ha : a.oneCell' = true) (hb : b.oneCell' = true) (hc : c.oneCell' = true) : (#[a, b, c] : Array Value).all (·.oneCell') = true := by simp [ha, hb, hc]
theorem run_store_u {e : Operand → Value} {o : Oper} {W w1 : World} (ty : TypeId) (x y : Operand) (ho : o.op = .store ty x y) (p u : Value) (hx : e x = p) (hy : e y = u) (h : (Instr.storeAt ty p u).run Try.prog W = .ok () w1) : (execOp e o).run Try.prog W = .ok .skip w1 := by
  unfold execOp
  simp only [ho, hx, hy, Sem.run_bind, Sem.run_pure, Result.andThen_ok, h]
theorem add0 (g n : Nat) : (⟨(Addr.add ⟨g, 0, none⟩ n).block, (Addr.add ⟨g, 0, none⟩ n).off + 1, none⟩ : Addr) = ⟨g, n + 1, none⟩ := by
  unfold Addr.add
  split
  · rename_i h
    simp_all
  · simp
theorem below_grown {w0 W w1 : World} {n g : Nat} (h : Below n w0 W) (hg : W.grownBy w1 (some g)) (hng : n ≤ g) (h0 : n ≤ w0.heap.size := by exact Nat.le_refl _) : Below n w0 w1 := by
  have := h.size
  exact h.trans ⟨hg.os, hg.tape, hg.output, hg.size, fun k hk => hg.block k (by omega) (fun he => by injection he with he; omega)⟩
set_option maxHeartbeats 8000000 in
set_option maxRecDepth 100000 in
theorem copied_calls (l : List Tab) (A : Option Addr) (c0 : Nat) (w : World) (hr : Kd.C kT w A l.length l) (hl : l.length ≤ 1000000) (hg : ∀ t ∈ l, GT t) :
    Calls Try.prog 101 #[.slice A l.length c0] w fun e w' => ∃ v, e = .returned v ∧ Kd.S kT TT w' w.heap.size (fun k => w.heap.size ≤ k) v l ∧ Below w.heap.size w w' := by
  have HR := Aside0.mk hr
  have HG := Aside0.mk hg
  clear hr hg
  go_enter Try.func101, Try.ntmps101
  go_wp2
  go_loopw [3, 10] (fun v3 v10 wr => ∃ k : Nat, v10 = .int .i64 (k : Int) ∧ k ≤ l.length ∧ Aside0 (Kd.S kT TT wr w.heap.size (fun k => w.heap.size ≤ k) v3 (l.take k)) ∧ Aside0 (Below w.heap.size w wr)) (fun _ v10 _ => l.length - (intOf v10).toNat)
  case atStart => exact ⟨0, rfl, Nat.zero_le _, ⟨Kd.S_nil _ _ _ _ _⟩, ⟨Below.refl _ _⟩⟩
  case round =>
    obtain ⟨k, rfl, hk, HO, HB⟩ := hrel
    obtain ⟨wo, hwo⟩ : ∃ x : World, x = wr := ⟨wr, rfl⟩
    subst hwo
    by_cases hkl : k < l.length
    · obtain ⟨ad, cl, hA, hcl, hK, hcc⟩ := at_cells (Kd.C_below HR.out HB.out) k hkl
      have htk : l.take (k + 1) = l.take k ++ [l[k]] := (List.take_append_getElem hkl).symm
      have hgt := HG.out l[k] (List.getElem_mem hkl)
      obtain ⟨t, ht⟩ : ∃ t, l[k] = t := ⟨_, rfl⟩
      rw [ht] at hK hgt htk
      have HGT := Aside0.mk hgt
      have HTK := Aside0.mk htk
      obtain ⟨A1, c1, A2, c2, rfl, hl1, hC1, hl2, hC2⟩ := k47_open hK
      have HC1 := Aside0.mk hC1
      have HC2 := Aside0.mk hC2
      have HCC := Aside0.mk hcc
      subst hA
      have hlen : (l.take k).length = k := by rw [List.length_take]; omega
      obtain ⟨L, hL⟩ : ∃ L, l.take k = L := ⟨_, rfl⟩
      rw [hL] at HO HTK hlen
      clear hgt htk hC1 hC2 hcc hcl hK ht hL
      go_wp2_with (first | (refine load_event rfl TT (.tmp 12) rfl (ad.add (k * kT.sz)) ?e1 [.string t.f0, .slice A1 t.f1.length c1, .slice A2 t.f2.length c2] HCC.out _ Try.underlying47 rfl size_T ?_; (case e1 => first | rfl | (go_simp; done) | (go_simp; rfl))) | ((with_reducible refine gate_dst (N := 5) rfl ?_); refine alloc_event rfl (N := 5) rfl (run_alloc_T rfl) ?_; intro b5 w5 hg5 hx5 hB5 hz5) | ((with_reducible refine gate_ (.store TT (.tmp 5) (.tmp 13)) rfl ?_); refine row_store_event rfl TT (.tmp 5) (.tmp 13) rfl b5 #[.string t.f0, .slice A1 t.f1.length c1, .slice A2 t.f2.length c2] rfl rfl TT _ hx5.out size_T rfl (one3 _ _ _ rfl rfl rfl) ?_; intro w6 hs; have HX6 := Aside0.mk hs.at_; have HB6 := Aside0.mk (hs.below hB5.out (Nat.le_of_eq hg5.out.symm)); have HZ6 : Aside0 (w6.heap.size = wo.heap.size + 1) := ⟨hs.size.trans hz5.out⟩; have hc61 : w6.cell? ⟨b5, 1, none⟩ = some (.slice A1 t.f1.length c1) := (cell_of_row w6 b5 1 _ _ _ hs.at_).trans rfl; clear hs hx5 hB5 hz5))
      clear hc61
      refine (clone_col A1 c1 t.f1 w6 (Kd.C_below HC1.out HB6.out) HGT.out.c).mono ?_
      rintro e w7 ⟨v7, rfl, hR7, hB7⟩
      obtain ⟨A7, c7, rfl⟩ := Kd.R_slice hR7
      have hx7 := blk_below HX6.out hB7
      have hc71 : w7.cell? ⟨b5, 1, none⟩ = some (.slice A1 t.f1.length c1) := (cell_of_row w7 b5 1 _ _ _ hx7).trans rfl
      have hf71 := frozen_of_row w7 b5 1 _ _ hx7
      have hset := cellSet_mk (i := 1) (v := Value.slice A7 t.f1.length c7) hx7
      have hc72 : (w7.setCell ⟨b5, 1, none⟩ (.slice A7 t.f1.length c7)).cell? ⟨b5, 2, none⟩ = some (.slice A2 t.f2.length c2) := (cell_of_row _ b5 2 _ _ _ hset.at_).trans rfl
      have HS7 := Aside0.mk hset
      have HR7 := Aside0.mk hR7
      have HB7 := Aside0.mk hB7
      clear hx7 hset hR7 hB7
      go_wp2_with fail
      clear hc71 hf71 hc72
      obtain ⟨w8, hw8⟩ : ∃ x, x = w7.setCell ⟨b5, 1, none⟩ (.slice A7 t.f1.length c7) := ⟨_, rfl⟩
      have hset := HS7.out
      have hR8 := Kd.R_far HR7.out (p := ⟨b5, 1, none⟩) (fun k hk => by show k ≠ b5; have := HZ6.out; have := hg5.out; omega) (Value.slice A7 t.f1.length c7)
      rw [← hw8] at hset hR8 ⊢
      have hR8 := Kd.R_mono (Kd.R_bound hR8) (ok' := fun k => w6.heap.size ≤ k ∧ k < w8.heap.size) (fun k hk => ⟨hk.1, hk.2.2.1⟩)
      have HX8 : Aside0 (w8.heap[b5]? = some (.cells #[.string t.f0, .slice A7 t.f1.length c7, .slice A2 t.f2.length c2] TT (0, 0))) := ⟨hset.at_⟩
      have HR8 := Aside0.mk hR8
      have HZ8 : Aside0 (wo.heap.size < w8.heap.size) := ⟨by have h1 := hset.size; have h2 := HB7.out.size; have h3 := HZ6.out; omega⟩
      have HB8 : Aside0 (Below wo.heap.size wo w8) := ⟨hset.below (below_step HB6.out HB7.out) (by have := hg5.out; omega)⟩
      clear hset hR8 hw8 HS7 HR7 HB7
      refine (clone_proj A2 c2 t.f2 (fun k => k < wo.heap.size) w8 (Kd.F_below (Kd.C_F k52_heap HC2.out) HB8.out) HGT.out.p).mono ?_
      rintro e w9 ⟨v9, rfl, hN9, hB9⟩
      obtain ⟨A9, c9, rfl⟩ := Kd.N_slice hN9
      have hx9 := blk_below HX8.out hB9
      have hc91 : w9.cell? ⟨b5, 2, none⟩ = some (.slice A2 t.f2.length c2) := (cell_of_row w9 b5 2 _ _ _ hx9).trans rfl
      have hf91 := frozen_of_row w9 b5 2 _ _ hx9
      have hset := cellSet_mk (i := 2) (v := Value.slice A9 t.f2.length c9) hx9
      have hc92 : (w9.setCell ⟨b5, 2, none⟩ (.slice A9 t.f2.length c9)).cell? ⟨b5, 2, none⟩ = some (.slice A9 t.f2.length c9) := (cell_of_row _ b5 2 _ _ _ hset.at_).trans rfl
      have HS9 := Aside0.mk hset
      have HN9 := Aside0.mk hN9
      have HR9 := Aside0.mk (Kd.R_below HR8.out hB9)
      have HB9 := Aside0.mk (below_step HB8.out hB9)
      have HZ9 : Aside0 (w8.heap.size ≤ w9.heap.size) := ⟨hB9.size⟩
      clear hx9 hset hN9 hB9
      go_wp2_with fail
      clear hc91 hf91 hc92
      obtain ⟨w10, hw10⟩ : ∃ x, x = w9.setCell ⟨b5, 2, none⟩ (.slice A9 t.f2.length c9) := ⟨_, rfl⟩
      have hset := HS9.out
      have hN10 := Kd.N_far HN9.out (p := ⟨b5, 2, none⟩) (fun k hk => by show k ≠ b5; have := HZ8.out; have := hg5.out; rcases hk with hk | hk <;> omega) (Value.slice A9 t.f2.length c9)
      have hR10 := Kd.R_far HR9.out (p := ⟨b5, 2, none⟩) (fun k hk => by show k ≠ b5; have hk2 : w6.heap.size ≤ k ∧ k < w8.heap.size := hk; have := HZ6.out; have := hg5.out; omega) (Value.slice A9 t.f2.length c9)
      rw [← hw10] at hset hN10 hR10 ⊢
      have HX10 : Aside0 (w10.heap[b5]? = some (.cells #[.string t.f0, .slice A7 t.f1.length c7, .slice A9 t.f2.length c9] TT (0, 0))) := ⟨hset.at_⟩
      have HM10 := Aside0.mk (mix_start hN10)
      have HR10 := Aside0.mk hR10
      have HB10 : Aside0 (Below wo.heap.size wo w10) := ⟨hset.below HB9.out (by have := hg5.out; omega)⟩
      clear hset hN10 hR10 hw10 HS9 HN9 HR9 HB9 HX8 HR8 HB8 HX6
      obtain ⟨b2, hb2⟩ : ∃ b2, w8.heap.size = b2 := ⟨_, rfl⟩
      obtain ⟨b6, hb6⟩ : ∃ b6, w6.heap.size = b6 := ⟨_, rfl⟩
      rw [hb2] at HM10
      rw [hb2, hb6] at HR10
      have HZ : Aside0 (wo.heap.size < b2 ∧ wo.heap.size < b6 ∧ b5 = wo.heap.size) := ⟨by rw [← hb2, ← hb6]; have h1 := HZ8.out; have h2 := HZ6.out; have h3 := hg5.out; omega⟩
      clear hb2 hb6 HZ9 HZ8 HZ6 HB6 hg5
      go_loopw [25] (fun v25 wt => ∃ j : Nat, v25 = .int .i64 (j : Int) ∧ j ≤ t.f2.length ∧ Aside0 (Mix wt b2 j (.slice A9 t.f2.length c9) t.f2) ∧ Aside0 (wt.heap[b5]? = some (.cells #[.string t.f0, .slice A7 t.f1.length c7, .slice A9 t.f2.length c9] TT (0, 0))) ∧ Aside0 (Kd.R kC TC wt b6 (fun k => b6 ≤ k ∧ k < b2) (.slice A7 t.f1.length c7) t.f1) ∧ Aside0 (Below wo.heap.size wo wt)) (fun v25 _ => t.f2.length - (intOf v25).toNat)
      case atStart => exact ⟨0, rfl, Nat.zero_le _, HM10, HX10, HR10, HB10⟩
      case round =>
        clear HM10 HX10 HR10 HB10
        obtain ⟨j, rfl, hj, HM, HX, HRc, HBt⟩ := hrel
        have hpl := HGT.out.p
        by_cases hjl : j < t.f2.length
        · have hN := mix_N HM.out
          obtain ⟨g, cap, hv, hbg, hgl, cells9, hcells9⟩ := Kd.N_form hN (by omega)
          injection hv with hA9 _ hc9
          obtain ⟨ad9, had⟩ : ∃ ad9, ad9 = (⟨g, 0, none⟩ : Addr) := ⟨_, rfl⟩
          rw [← had] at hA9
          subst hA9
          obtain ⟨ad', cl, hA', hcl, hK, hcc⟩ := at_cells (Kd.N_reads' hN).2.2 j hjl
          injection hA' with hA'
          subst hA'
          obtain ⟨x, hx⟩ : ∃ x, t.f2[j] = x := ⟨_, rfl⟩
          rw [hx] at hK
          obtain ⟨Ax, cx, rfl, hlx, hCx⟩ := k52_open hK
          have HCC9 := Aside0.mk hcc
          have HAD := Aside0.mk had
          have HXX := Aside0.mk hx
          have HCX := Aside0.mk hCx
          have hlx2 : x.f1.length ≤ 1000000 := by rw [← hx]; exact (HGT.out.ps _ (List.getElem_mem hjl)).2
          clear hN hbg hgl hcells9 cells9 had hcl hK hcc hx hCx hc9
          go_wp2_with (first | (refine load_event rfl TP (.tmp 28) rfl (ad9.add (j * kP.sz)) ?e1 [.string x.f0, .slice Ax x.f1.length cx, .int .i64 x.f2] HCC9.out _ Try.underlying52 rfl size_P ?_; (case e1 => first | rfl | (go_simp; done) | (go_simp; rfl))) | ((with_reducible refine gate_dst (N := 7) rfl ?_); refine alloc_event rfl (N := 7) rfl (run_alloc_Pr rfl) ?_; intro b7 w11 hg7 hx7 hB11 hz7) | ((with_reducible refine gate_ (.store TP (.tmp 7) (.tmp 29)) rfl ?_); refine row_store_event rfl TP (.tmp 7) (.tmp 29) rfl b7 #[.string x.f0, .slice Ax x.f1.length cx, .int .i64 x.f2] rfl rfl TP _ hx7.out size_P rfl (one3 _ _ _ rfl rfl rfl) ?_; intro w12 hs; have HX7 := Aside0.mk hs.at_; have HB12 := Aside0.mk (hs.below hB11.out (Nat.le_of_eq hg7.out.symm)); clear hs hx7 hB11 hz7 hg7))
          have HX12 := Aside0.mk (blk_below HX.out HB12.out)
          have HM12 := Aside0.mk (mix_below HM.out HB12.out)
          have HR12 := Aside0.mk (Kd.R_below HRc.out HB12.out)
          have HBt12 := Aside0.mk (below_step HBt.out HB12.out)
          have HC52 : Aside0 (w12.cell? ⟨b5, 2, none⟩ = some (.slice (some ad9) t.f2.length c9)) := ⟨(cell_of_row w12 b5 2 _ _ _ HX12.out).trans rfl⟩
          have HC71 : Aside0 (w12.cell? ⟨b7, 1, none⟩ = some (.slice Ax x.f1.length cx)) := ⟨(cell_of_row w12 b7 1 _ _ _ HX7.out).trans rfl⟩
          have HCX12 := Aside0.mk (Kd.C_below HCX.out HB12.out)
          clear HX HM HRc HX7 HB12 HCX
          refine start_ (n := 9) (S := fun w' => w'.cell? ⟨b5, 2, none⟩ = some (.slice (some ad9) t.f2.length c9) ∧ w'.cell? ⟨b7, 1, none⟩ = some (.slice Ax x.f1.length cx)) (ds := [8]) #[Z,Z,Z,Z,Z,Z,Z,Z,Z] (by kernel_rfl) rfl rfl (⟨HC52.out, HC71.out⟩) (fun hHeld => ?_)
          refine pure_ (i := 0) (N := (some 30)) (v := ?_) (a' := ?_) #[Y,Z,Z,Z,Z,Z,Z,Z,Z] rfl rfl (by kernel_rfl) (fun _ _ _ h => h) (Or.inl ⟨by rfl, ?_⟩) ?_ ?_
          rotate_left
          · intro w'
            go_simp
            with_reducible rfl
          rotate_left
          · simp only [Act.put, List.setIfInBounds_toArray, List.set_cons_zero, List.set_cons_succ, i64_w, i32_w]
            rfl
          refine take_ (i := 1) (N := (some 31)) (v := ?_) (a' := ?_) #[Y,Y,Z,Z,Z,Z,Z,Z,Z] rfl rfl (by kernel_rfl) (fun _ _ _ h => h) (Or.inl ⟨by rfl, ?_⟩) hHeld ?_ ?_
          rotate_left
          · intro w' s0
            go_simp
            with_reducible rfl
          rotate_left
          · simp only [Act.put, List.setIfInBounds_toArray, List.set_cons_zero, List.set_cons_succ, i64_w, i32_w]
            rfl
          refine pure_ (i := 2) (N := (some 32)) (v := ?_) (a' := ?_) #[Y,Y,Y,Z,Z,Z,Z,Z,Z] rfl rfl (by kernel_rfl) (fun _ _ _ h => h) (Or.inl ⟨by rfl, ?_⟩) ?_ ?_
          rotate_left
          · intro w'
            go_simp
            with_reducible rfl
          rotate_left
          · simp only [Act.put, List.setIfInBounds_toArray, List.set_cons_zero, List.set_cons_succ, i64_w, i32_w]
            rfl
          refine pure_ (i := 3) (N := (some 33)) (v := ?_) (a' := ?_) #[Y,Y,Y,Y,Z,Z,Z,Z,Z] rfl rfl (by kernel_rfl) (fun _ _ _ h => h) (Or.inl ⟨by rfl, ?_⟩) ?_ ?_
          rotate_left
          · intro w'
            go_simp
            with_reducible rfl
          rotate_left
          · simp only [Act.put, List.setIfInBounds_toArray, List.set_cons_zero, List.set_cons_succ, i64_w, i32_w]
            rfl
          refine take_ (i := 4) (N := (some 34)) (v := ?_) (a' := ?_) #[Y,Y,Y,Y,Y,Z,Z,Z,Z] rfl rfl (by kernel_rfl) (fun _ _ _ h => h) (Or.inl ⟨by rfl, ?_⟩) hHeld ?_ ?_
          rotate_left
          · intro w' s0
            go_simp
            with_reducible rfl
          rotate_left
          · simp only [Act.put, List.setIfInBounds_toArray, List.set_cons_zero, List.set_cons_succ, i64_w, i32_w]
            rfl
          refine one_ (i := 5) (N := (some 35)) #[Y,Y,Y,Y,Y,Y,Z,Z,Z] rfl rfl (by kernel_rfl) (by decide) (fun K hK => ?_)
          refine goes_ Try.func104 (by kernel_rfl) rfl #[.slice Ax x.f1.length cx] (by rfl) rfl rfl (by (try simp only [List.map_toArray, List.map_cons, List.map_nil]); first | done | rfl) ?_
          refine (clone_int Ax cx x.f1 _ (Kd.C_below HCX12.out (below_drew (Below.refl _ _))) hlx2).mono ?_
          rintro e w13 ⟨v35, rfl, hR35, hB13⟩
          obtain ⟨A35, c35, rfl⟩ := Kd.R_slice hR35
          refine ⟨_, rfl, ?_⟩
          have hB13b : Below w12.heap.size w12 w13 := below_then (below_drew (Below.refl _ _)) (Nat.le_refl _) hB13
          have HR35 := Aside0.mk hR35
          have HB13 := Aside0.mk hB13b
          refine hK.out _ _ ⟨pw_cell_below hB13b HC52.out, pw_cell_below hB13b HC71.out⟩ (fun hHeld => ?_)
          clear hR35 hB13 hB13b
          clear hK K
          refine norm_ (a' := ?_) ?_ ?_
          rotate_left
          · show Act.put _ (some 35) _ = _
            simp only [Act.put, List.setIfInBounds_toArray, List.set_cons_zero, List.set_cons_succ, i64_w, i32_w]
            rfl
          have hm := mix_below HM12.out HB13.out
          rw [HAD.out] at hm
          have hlt := Kd.N_lt (mix_N hm) g (by simp [Value.ownBlock])
          have hb2g := hm.1 g (by simp [Value.ownBlock])
          have hltz := Kd.N_lt (mix_N (by have := HM12.out; rw [HAD.out] at this; exact this)) g (by simp [Value.ownBlock])
          have hu := Kd.R_mono HR35.out (ok' := fun k => b2 ≤ k ∧ k ≠ g) (fun k hk => by have hk2 : w12.heap.size ≤ k := hk; omega)
          rw [← HXX.out] at hu
          obtain ⟨hrun, hmix, hgrown⟩ := mix_set hm hjl (by have h0 : w12.drew.heap.size = w12.heap.size := rfl; omega) hu
          rw [HXX.out] at hmix hgrown
          have hrun2 := hrun _ size_S
          rw [HXX.out] at hrun2
          have HRUN := Aside0.mk hrun2
          have HMIX := Aside0.mk hmix
          have HGRW := Aside0.mk hgrown
          have HGG : Aside0 (b2 ≤ g) := ⟨hb2g⟩
          clear hm hlt hltz hu hrun hrun2 hmix hgrown hb2g
          refine pure_ (i := 6) (N := (some 36)) (v := ?_) (a' := ?_) #[Y,Y,Y,Y,Y,Y,Y,Z,Z] rfl rfl (by kernel_rfl) (fun _ _ _ h => h) (Or.inl ⟨by rfl, ?_⟩) ?_ ?_
          rotate_left
          · intro w'
            go_simp
            with_reducible rfl
          rotate_left
          · simp only [Act.put, List.setIfInBounds_toArray, List.set_cons_zero, List.set_cons_succ, i64_w, i32_w]
            rfl
          refine pure_ (i := 7) (N := (some 37)) (v := ?_) (a' := ?_) #[Y,Y,Y,Y,Y,Y,Y,Y,Z] rfl rfl (by kernel_rfl) (fun _ _ _ h => h) (Or.inl ⟨by rfl, ?_⟩) ?_ ?_
          rotate_left
          · intro w'
            go_simp
            with_reducible rfl
          rotate_left
          · simp only [Act.put, List.setIfInBounds_toArray, List.set_cons_zero, List.set_cons_succ, i64_w, i32_w]
            rfl
          refine last_ (i := 8) (N := none) #[Y,Y,Y,Y,Y,Y,Y,Y,Y] rfl rfl (by kernel_rfl) (by decide) (fun K hK => ?_)
          refine skip_ (w1 := w13.setCells g (j * 3 + 1) [.slice A35 x.f1.length c35]) (by rfl) rfl (run_store_u 43 (.tmp 37) (.tmp 35) rfl (.pointer (some ⟨(ad9.add (j * 3)).block, (ad9.add (j * 3)).off + 1, none⟩)) (.slice A35 x.f1.length c35) (by first | rfl | (go_simp; done)) (by first | rfl | (go_simp; done)) (by rw [HAD.out, add0]; exact HRUN.out)) ?_
          refine hK.out _ _ ?_
          clear hK K
          obtain ⟨w14, hw14⟩ : ∃ y, y = w13.setCells g (j * 3 + 1) [Value.slice A35 x.f1.length c35] := ⟨_, rfl⟩
          have hmix := HMIX.out
          have hgrown := HGRW.out
          rw [← hw14] at hmix hgrown ⊢
          have HX14 : Aside0 (w14.heap[b5]? = some (.cells #[.string t.f0, .slice A7 t.f1.length c7, .slice (some ad9) t.f2.length c9] TT (0, 0))) := ⟨(hgrown.block b5 (blk_lt (blk_below HX12.out HB13.out)) (fun he => by injection he with he; have := HGG.out; have := HZ.out; omega)).trans (blk_below HX12.out HB13.out)⟩
          have HR14 := Aside0.mk (Kd.R_grown (Kd.R_below HR12.out HB13.out) hgrown (fun k hk he => by injection he with he; have hk2 : b6 ≤ k ∧ k < b2 := hk; have := HGG.out; omega))
          have HBt14 : Aside0 (Below wo.heap.size wo w14) := ⟨below_grown (below_step HBt12.out HB13.out) hgrown (by have := HGG.out; have := HZ.out; omega)⟩
          rw [← HAD.out] at hmix
          have HM14 := Aside0.mk hmix
          clear hw14 hmix hgrown HMIX HGRW HRUN HX12 HM12 HR12 HBt12 HB13 HR35 HC52 HC71 HCX12 HCC9
          refine done_ (by kernel_rfl) ?_
          go_wp2_with fail
          exact ⟨⟨j + 1, by simp, by omega, HM14, HX14, HR14, HBt14⟩, by simp [intOf]; omega⟩
        · obtain rfl : j = t.f2.length := by omega
          have HOt : Aside0 (Kd.S kT TT wr w.heap.size (fun k => w.heap.size ≤ k ∧ ¬ wo.heap.size < k) (u3 : Value) L) := ⟨Kd.S_below (Kd.S_mono (Kd.S_bound HO.out) (fun k hk => ⟨hk.1, by have := hk.2.2.1; omega⟩)) HBt.out⟩
          have HBw := Aside0.mk (below_step HB.out HBt.out)
          have hme := mix_end HM.out (Nat.le_refl _)
          have HMM : Aside0 (kT.M wr w.heap.size (fun k => wo.heap.size < k) t [.string t.f0, .slice A7 t.f1.length c7, .slice A9 t.f2.length c9]) := ⟨k47_mkM wr w.heap.size _ t (Kd.R_lower (Kd.R_mono HRc.out (fun k hk => by have hk2 : b6 ≤ k ∧ k < b2 := hk; have := HZ.out; show wo.heap.size < k; omega)) (by have := HZ.out; have := HB.out.size; omega)) (Kd.R_lower (Kd.R_mono hme (fun k hk => by have hk2 : b2 ≤ k := hk; have := HZ.out; show wo.heap.size < k; omega)) (by have := HZ.out; have := HB.out.size; omega))⟩
          have HOK : Aside0 (∀ k, wo.heap.size < k → w.heap.size ≤ k ∧ some k ≠ (u3 : Value).ownBlock) := ⟨fun k hk => ⟨by have := HB.out.size; omega, fun he => by have := Kd.S_lt HO.out k he.symm; omega⟩⟩
          have hls : (L.length + 1) * 64 ≤ 140737488355328 := by omega
          clear hme
          go_wp2_with (first | ((with_reducible refine gate_dst (N := 40) rfl ?_); refine wpList_load_row rfl TT (.tmp 5) rfl b5 rfl TT #[.string t.f0, .slice A7 t.f1.length c7, .slice A9 t.f2.length c9] (0, 0) _ HX.out Try.underlying47 rfl size_T ?_) | ((with_reducible refine gate_builtin (b := .append) (xs := #[.tmp 39, .tmp 41]) rfl ?_); at_builtin; refine Kd.S_append kT (w0 := w) w.heap.size rfl (.tmp 39) (.tmp 41) 49 TT (.agg #[(.string ⟨#[]⟩), (.slice none 0 0), (.slice none 0 0)]) 64 rfl Try.underlying49 info_tab rfl (by decide) (by omega) _ L t [.string t.f0, .slice A7 t.f1.length c7, .slice A9 t.f2.length c9] (fun k => w.heap.size ≤ k) (fun k => wo.heap.size < k) rfl rfl HMM.out HOK.out (fun k hk => Nat.le_trans HBw.out.size hk) HOt.out HBw.out HBw.out.size hls ?_; intro v4 w4 hN4 hB4 hG4 hA4; have HN4 := Aside0.mk hN4; have HB4 := Aside0.mk hB4; clear hN4 hB4 hG4 hA4))
          exact ⟨⟨k + 1, by simp, by omega, ⟨by rw [HTK.out]; exact HN4.out⟩, HB4⟩, by simp [intOf]; omega⟩
    · obtain rfl : k = l.length := by omega
      go_wp2_with fail
      go_ret
      have := HO.out
      rw [List.take_length] at this
      exact ⟨_, rfl, this, HB.out⟩
end Go.Proofs.Ytgjclhhjigflkac.Sc

/- 'append(l[:len(l):len(l)], x)': a new row, whatever the old one is. -/
namespace Go.Proofs.Ytgjclhhjigflkac.Sc
open Go Go.RowKit Go.Proofs.Ytgjclhhjigflkac.C Go.Proofs.Ytgjclhhjigflkac.MyWords Go.Proofs.Ytgjclhhjigflkac.Hand Go.Proofs.YtgjclhhjigflkacW.PrintWords Go.Proofs.YtgjclhhjigflkacW.PrintLast Go.Proofs.YtgjclhhjigflkacW.PrintMore
set_option linter.unusedVariables false
set_option linter.unusedSimpArgs false
theorem below_new {W w1 : World} (hg : W.grownBy w1 none) : Below W.heap.size W w1 := ⟨hg.os, hg.tape, hg.output, hg.size, fun k hk => hg.block k hk (by simp)⟩
theorem run_full {W : World} (l : List Tab) (A : Option Addr) (hC : Kd.C kT W A l.length l) (hl : l.length ≤ 1000000) (x : Tab) (cs : List Value) (hcs : cs.length = 3) (hx : kT.K W x cs) (B : Addr) (hB : ∀ j u, cs[j]? = some u → W.cell? (B.add j) = some u) (ty : TypeId) (c1 : Nat) (hc1 : A = none → c1 = 0) (hc2 : c1 ≤ l.length) (c : Nat) :
    ∃ w' A' c', (Builtin.append_ #[49, 49] ty #[.slice A l.length c1, .slice (some B) 1 c]).run Try.prog W = .ok (.slice A' (l.length + 1) c') w' ∧ l.length + 1 ≤ c' ∧ Kd.C kT w' A' (l ++ [x]).length (l ++ [x]) ∧ Below W.heap.size W w' := by
  obtain ⟨i0, hi, hzz⟩ := Option.map_eq_some_iff.1 info_tab
  simp only [Prod.mk.injEq] at hzz
  obtain ⟨hz0, hz1, hz2⟩ := hzz
  have hone : ∀ u ∈ cs, u.oneCell' = true := kT.K_one hx
  have main : ∃ v' w', (Builtin.append_ #[49, 49] ty #[.slice A l.length c1, .slice (some B) 1 c]).run Try.prog W = .ok v' w' ∧ (∃ olds, Reps (kT.K W) 3 l olds ∧ w'.ownsRow W.heap.size TT 3 v' (l.length + 1) (olds ++ cs)) ∧ W.grownBy w' none := by
    cases A with
    | none =>
      obtain rfl : l = [] := C_none hC
      obtain rfl := hc1 rfl
      obtain ⟨v', w', hrun, r1, r2, _⟩ := run_append_own (P := Try.prog) W W.heap.size 49 ty TT i0 _ 3 64 Try.underlying49 hi hz0 hz1 hz2 rfl (by decide) (.slice none 0 0) 0 [] (World.ownsRow_nil W _ TT 3) B 1 c cs (by rw [hcs]) hB hone (by decide) (by decide) (Nat.le_refl _)
      exact ⟨v', w', hrun, ⟨[], Reps.none _ _, r1⟩, r2⟩
    | some b =>
      obtain ⟨olds, hor, hoc⟩ := ReadsRow.inner_ hC
      obtain ⟨v', w', hrun, r1, r2⟩ := run_append_arg_grows (P := Try.prog) W 49 ty TT i0 _ 3 64 Try.underlying49 hi hz0 hz1 hz2 rfl (by decide) b l.length c1 olds hor.1 hoc B 1 c cs (by rw [hcs]) hB (by omega) (by simp only [maxLen]; omega) (by omega)
      exact ⟨v', w', hrun, ⟨olds, hor, r1⟩, r2⟩
  obtain ⟨v', w', hrun, ⟨olds, hor, r1⟩, r2⟩ := main
  have hb := below_new r2
  have hrep : Reps (kT.K w') 3 (l ++ [x]) (olds ++ cs) := Reps.snoc (hor.imp_ (fun _ _ h => kT.K_below hb h)) (kT.K_below hb hx) hcs
  have ho : OwnRow (kT.K w') TT 3 w' W.heap.size v' (l ++ [x]) := ⟨olds ++ cs, by rw [List.length_append, List.length_singleton]; exact r1, hrep⟩
  obtain ⟨A', c', he, hle, hrd⟩ := OwnRow.reads ho
  refine ⟨w', A', c', ?_, by rw [List.length_append, List.length_singleton] at hle; exact hle, hrd, hb⟩
  rw [hrun, he, List.length_append, List.length_singleton]
end Go.Proofs.Ytgjclhhjigflkac.Sc

/- The walks of schema.Find, Column and projection: which of some has a name. (Written by genlook.py.) -/
namespace Go.Proofs.Ytgjclhhjigflkac.Sc
open Go Go.RowKit Go.Proofs.Ytgjclhhjigflkac.C Go.Proofs.Ytgjclhhjigflkac.MyWords Go.Proofs.Ytgjclhhjigflkac.Hand Go.Proofs.YtgjclhhjigflkacW.PrintWords Go.Proofs.YtgjclhhjigflkacW.PrintLast Go.Proofs.YtgjclhhjigflkacW.PrintMore
set_option linter.unusedVariables false
set_option linter.unusedSimpArgs false
/-- has it that name? -/
def isN (n s : ByteArray) : Bool := s.toList == n.toList
theorem look_table (x : Tab) (c : List Value) (n : ByteArray) (b : Nat) (w : World) (hK : kT.K w x c) (hb : w.heap[b]? = some (.cells #[.string n] 9 (0, 0))) :
    Calls Try.prog 74 #[.agg c.toArray, .pointer (some ⟨b, 0, none⟩)] w fun e w' => e = .returned (.bool (isN n x.f0)) ∧ Below w.heap.size w w' := by
  obtain ⟨A1, c1, A2, c2, rfl, _, _, _, _⟩ := k47_open hK
  have HT := Aside0.mk hb
  have hbl := blk_lt hb
  clear hK hb
  obtain ⟨r, hr⟩ : ∃ r, (x.f0.toList == n.toList) = r := ⟨_, rfl⟩
  have HP : Aside0 (isN n x.f0 = r) := ⟨hr⟩
  cases r
  all_goals
    go_enter Try.func74, Try.ntmps74
    go_wp2_with (first | ((with_reducible refine gate_dst (N := 2) rfl ?_); refine box_event rfl (N := 2) rfl (cs := #[.string x.f0, .slice A1 x.f1.length c1, .slice A2 x.f2.length c2]) (t := TT) ?hr ?_; (case hr => first | (go_simp; done) | (go_simp; rfl)); intro b2 hg2 w2 hb2 hB2; have hcn : w2.cell? ⟨b, 0, none⟩ = some (.string n) := (cell_of_row w2 b 0 _ _ _ (blk_below HT.out hB2)).trans rfl; have hcq : w2.cell? ⟨b2, 0, none⟩ = some (.string x.f0) := (cell_of_row w2 b2 0 _ _ _ hb2).trans rfl; have HB2 := Aside0.mk hB2; clear hg2 hb2 hB2))
    go_ret
    exact ⟨by rw [HP.out]; rfl, HB2.out⟩
theorem look_col (x : Col) (c : List Value) (n : ByteArray) (b : Nat) (w : World) (hK : kC.K w x c) (hb : w.heap[b]? = some (.cells #[.string n] 9 (0, 0))) :
    Calls Try.prog 76 #[.agg c.toArray, .pointer (some ⟨b, 0, none⟩)] w fun e w' => e = .returned (.bool (isN n x.f0)) ∧ Below w.heap.size w w' := by
  obtain rfl := k96_open hK
  have HT := Aside0.mk hb
  have hbl := blk_lt hb
  clear hK hb
  obtain ⟨r, hr⟩ : ∃ r, (x.f0.toList == n.toList) = r := ⟨_, rfl⟩
  have HP : Aside0 (isN n x.f0 = r) := ⟨hr⟩
  cases r
  all_goals
    go_enter Try.func76, Try.ntmps76
    go_wp2_with (first | ((with_reducible refine gate_dst (N := 2) rfl ?_); refine box_event rfl (N := 2) rfl (cs := #[.string x.f0, .int .i64 x.f1, .bool x.f2]) (t := TC) ?hr ?_; (case hr => first | (go_simp; done) | (go_simp; rfl)); intro b2 hg2 w2 hb2 hB2; have hcn : w2.cell? ⟨b, 0, none⟩ = some (.string n) := (cell_of_row w2 b 0 _ _ _ (blk_below HT.out hB2)).trans rfl; have hcq : w2.cell? ⟨b2, 0, none⟩ = some (.string x.f0) := (cell_of_row w2 b2 0 _ _ _ hb2).trans rfl; have HB2 := Aside0.mk hB2; clear hg2 hb2 hB2))
    go_ret
    exact ⟨by rw [HP.out]; rfl, HB2.out⟩
theorem look_proj (x : Prj) (c : List Value) (n : ByteArray) (b : Nat) (w : World) (hK : kP.K w x c) (hb : w.heap[b]? = some (.cells #[.string n] 9 (0, 0))) :
    Calls Try.prog 141 #[.agg c.toArray, .pointer (some ⟨b, 0, none⟩)] w fun e w' => e = .returned (.bool (isN n x.f0)) ∧ Below w.heap.size w w' := by
  obtain ⟨A1, c1, rfl, _, _⟩ := k52_open hK
  have HT := Aside0.mk hb
  have hbl := blk_lt hb
  clear hK hb
  obtain ⟨r, hr⟩ : ∃ r, (x.f0.toList == n.toList) = r := ⟨_, rfl⟩
  have HP : Aside0 (isN n x.f0 = r) := ⟨hr⟩
  cases r
  all_goals
    go_enter Try.func141, Try.ntmps141
    go_wp2_with (first | ((with_reducible refine gate_dst (N := 2) rfl ?_); refine box_event rfl (N := 2) rfl (cs := #[.string x.f0, .slice A1 x.f1.length c1, .int .i64 x.f2]) (t := TP) ?hr ?_; (case hr => first | (go_simp; done) | (go_simp; rfl)); intro b2 hg2 w2 hb2 hB2; have hcn : w2.cell? ⟨b, 0, none⟩ = some (.string n) := (cell_of_row w2 b 0 _ _ _ (blk_below HT.out hB2)).trans rfl; have hcq : w2.cell? ⟨b2, 0, none⟩ = some (.string x.f0) := (cell_of_row w2 b2 0 _ _ _ hb2).trans rfl; have HB2 := Aside0.mk hB2; clear hg2 hb2 hB2))
    go_ret
    exact ⟨by rw [HP.out]; rfl, HB2.out⟩
theorem find_calls (l : List Tab) (A : Option Addr) (c0 : Nat) (n : ByteArray) (w : World) (hr : Kd.C kT w A l.length l) (hc : l.length ≤ c0) (hl : l.length ≤ 1000000) :
    Calls Try.prog 31 #[.slice A l.length c0, .string n] w fun e w' => e = .returned (.int .i64 (idxF (fun t : Tab => isN n t.f0) l 0)) ∧ Below w.heap.size w w' := by
  have HR := Aside0.mk hr
  obtain ⟨r, hr0⟩ : ∃ r, idxF (fun t : Tab => isN n t.f0) l 0 = r := ⟨_, rfl⟩
  have HF := Aside0.mk hr0
  rw [hr0]
  clear hr hr0
  go_enter Try.func31, Try.ntmps31
  go_wp2_with (first | ((with_reducible refine gate_dst (N := 3) rfl ?_); refine box_event rfl (N := 3) rfl (cs := #[.string n]) (t := 9) ?hr ?_; (case hr => first | (go_simp; done) | (go_simp; rfl)); intro bn hgn wn hbn hBn; have HXn := Aside0.mk hbn; have HBn := Aside0.mk hBn; clear hgn hbn hBn))
  refine (index_table (.func (.func 74) #[] #[.pointer (some ⟨bn, 0, none⟩)]) (fun t : Tab => isN n t.f0) A c0 l r _ (Kd.C_below HR.out HBn.out) hc (by omega) (fun i hi c w2 hb hcl hk => CallsV.of Try.func74 (by kernel_rfl) rfl (look_table l[i] c n bn w2 hk (blk_below HXn.out hb))) HF.out).mono ?_
  rintro e w3 ⟨rfl, hb3⟩
  go_wp2_with fail
  go_ret
  exact ⟨rfl, below_step HBn.out hb3⟩
theorem colu_calls (t : Tab) (At : Option Addr) (ct : Nat) (Bt : Option Addr) (dt : Nat) (n : ByteArray) (w : World) (hp : Kd.C kC w At t.f1.length t.f1) (hdt : t.f1.length ≤ ct) (hl : t.f1.length ≤ 1000000) :
    Calls Try.prog 33 #[.agg #[.string t.f0, .slice At t.f1.length ct, .slice Bt t.f2.length dt], .string n] w fun e w' => e = .returned (.int .i64 (idxF (fun x : Col => isN n x.f0) t.f1 0)) ∧ Below w.heap.size w w' := by
  have HP := Aside0.mk hp
  obtain ⟨r, hr0⟩ : ∃ r, idxF (fun x : Col => isN n x.f0) t.f1 0 = r := ⟨_, rfl⟩
  have HF := Aside0.mk hr0
  rw [hr0]
  clear hp hr0
  go_enter Try.func33, Try.ntmps33
  go_wp2_with (first | ((with_reducible refine gate_dst (N := 2) rfl ?_); refine box_event rfl (N := 2) rfl (cs := #[.string t.f0, .slice At t.f1.length ct, .slice Bt t.f2.length dt]) (t := TT) ?hr ?_; (case hr => first | (go_simp; done) | (go_simp; rfl)); intro b1 hgb1 w1 hb1 hBb1; have HXb1 := Aside0.mk hb1; have HBb1 := Aside0.mk hBb1; clear hgb1 hb1 hBb1) | (((with_reducible refine gate_dst (N := 3) rfl ?_); refine box_event rfl (N := 3) rfl (cs := #[.string n]) (t := 9) ?hr ?_; (case hr => first | (go_simp; done) | (go_simp; rfl)); intro bn hgn wn hbn hBn; have HXn := Aside0.mk hbn; have HBn := Aside0.mk hBn; clear hgn hbn hBn); have hc12 : wn.cell? ⟨b1, 1, none⟩ = some (.slice At t.f1.length ct) := (cell_of_row wn b1 1 _ _ _ (blk_below HXb1.out HBn.out)).trans rfl))
  refine (index_col (.func (.func 76) #[] #[.pointer (some ⟨bn, 0, none⟩)]) (fun x : Col => isN n x.f0) At ct t.f1 r _ (Kd.C_below HP.out (below_step HBb1.out HBn.out)) hdt (by omega) (fun i hi c w2 hb hcl hk => CallsV.of Try.func76 (by kernel_rfl) rfl (look_col t.f1[i] c n bn w2 hk (blk_below HXn.out hb))) HF.out).mono ?_
  rintro e w3 ⟨rfl, hb3⟩
  go_wp2_with fail
  go_ret
  exact ⟨rfl, below_step (below_step HBb1.out HBn.out) hb3⟩
theorem proj_calls (t : Tab) (At : Option Addr) (ct : Nat) (Bt : Option Addr) (dt : Nat) (n : ByteArray) (w : World) (hp : Kd.C kP w Bt t.f2.length t.f2) (hdt : t.f2.length ≤ dt) (hl : t.f2.length ≤ 1000000) :
    Calls Try.prog 103 #[.agg #[.string t.f0, .slice At t.f1.length ct, .slice Bt t.f2.length dt], .string n] w fun e w' => e = .returned (.int .i64 (idxF (fun x : Prj => isN n x.f0) t.f2 0)) ∧ Below w.heap.size w w' := by
  have HP := Aside0.mk hp
  obtain ⟨r, hr0⟩ : ∃ r, idxF (fun x : Prj => isN n x.f0) t.f2 0 = r := ⟨_, rfl⟩
  have HF := Aside0.mk hr0
  rw [hr0]
  clear hp hr0
  go_enter Try.func103, Try.ntmps103
  go_wp2_with (first | ((with_reducible refine gate_dst (N := 2) rfl ?_); refine box_event rfl (N := 2) rfl (cs := #[.string t.f0, .slice At t.f1.length ct, .slice Bt t.f2.length dt]) (t := TT) ?hr ?_; (case hr => first | (go_simp; done) | (go_simp; rfl)); intro b1 hgb1 w1 hb1 hBb1; have HXb1 := Aside0.mk hb1; have HBb1 := Aside0.mk hBb1; clear hgb1 hb1 hBb1) | (((with_reducible refine gate_dst (N := 3) rfl ?_); refine box_event rfl (N := 3) rfl (cs := #[.string n]) (t := 9) ?hr ?_; (case hr => first | (go_simp; done) | (go_simp; rfl)); intro bn hgn wn hbn hBn; have HXn := Aside0.mk hbn; have HBn := Aside0.mk hBn; clear hgn hbn hBn); have hc12 : wn.cell? ⟨b1, 2, none⟩ = some (.slice Bt t.f2.length dt) := (cell_of_row wn b1 2 _ _ _ (blk_below HXb1.out HBn.out)).trans rfl))
  refine (index_proj (.func (.func 141) #[] #[.pointer (some ⟨bn, 0, none⟩)]) (fun x : Prj => isN n x.f0) Bt dt t.f2 r _ (Kd.C_below HP.out (below_step HBb1.out HBn.out)) hdt (by omega) (fun i hi c w2 hb hcl hk => CallsV.of Try.func141 (by kernel_rfl) rfl (look_proj t.f2[i] c n bn w2 hk (blk_below HXn.out hb))) HF.out).mono ?_
  rintro e w3 ⟨rfl, hb3⟩
  go_wp2_with fail
  go_ret
  exact ⟨rfl, below_step (below_step HBb1.out HBn.out) hb3⟩
end Go.Proofs.Ytgjclhhjigflkac.Sc

/- The walk of schema.Create. (Written by gencreate.py.) -/
namespace Go.Proofs.Ytgjclhhjigflkac.Sc
open Go Go.RowKit Go.Proofs.Ytgjclhhjigflkac.C Go.Proofs.Ytgjclhhjigflkac.MyWords Go.Proofs.Ytgjclhhjigflkac.Hand Go.Proofs.YtgjclhhjigflkacW.PrintWords Go.Proofs.YtgjclhhjigflkacW.PrintLast Go.Proofs.YtgjclhhjigflkacW.PrintMore
set_option linter.unusedVariables false
set_option linter.unusedSimpArgs false
def superN : ByteArray := ⟨#[115, 117, 112, 101, 114]⟩
def upto (n : Nat) : List Int := (List.range n).map fun (i : Nat) => (i : Int)
theorem upto_succ (n : Nat) : upto (n + 1) = upto n ++ [(n : Int)] := by unfold upto; rw [List.range_succ, List.map_append]; rfl
theorem upto_len (n : Nat) : (upto n).length = n := by unfold upto; rw [List.length_map, List.length_range]
def newP (n : ByteArray) (cs : List Col) : Tab := ⟨n, cs, [⟨superN, upto cs.length, 0⟩]⟩
def createP (l : List Tab) (n : ByteArray) (cs : List Col) : List Tab × Int :=
  if checkP l = true then (if nameP n = true then (if colsP cs = true then (if 0 ≤ idxF (fun t : Tab => isN n t.f0) l 0 then ([], 251) else if 8 ≤ l.length then ([], 4) else (l ++ [newP n cs], 0)) else ([], 1)) else ([], 1)) else ([], 1)
theorem run_op_append {P : Program} {e : Operand → Value} {o : Oper} {W w' : World} {t : TypeId} (s x : Operand) (v1 v2 v : Value) (ho : o.op = .call { callee := .builtin .append, args := #[s, x], argTypes := #[t, t] }) (hs : e s = v1) (hx : e x = v2)
    (h : (Builtin.append_ #[t, t] o.type #[v1, v2]).run P W = .ok v w') : (execOp e o).run P W = .ok (.value v) w' := by
  simp [execOp, ho, resolve, invoke, builtin, hs, hx, h, Result.andThen]
theorem C_one {α : Type} {d : Kd α} {w : World} {B t : Nat} {c : List Value} {x : α} (hb : w.heap[B]? = some (.cells c.toArray t (0, 0))) (hc : c.length = d.sz) (hK : d.K w x c) : Kd.C d w (some ⟨B, 0, none⟩) 1 [x] := by
  refine ⟨rfl, by decide, fun _ => ⟨_, rfl, fun j p hj => ?_⟩⟩
  cases j with
  | zero =>
    injection hj with hj
    subst hj
    refine ⟨c, hc, hK, fun i u hu => ?_⟩
    rw [Addr.add_lit, cell_of_row w B _ _ _ _ hb]
    simpa using hu
  | succ j => simp at hj
set_option maxHeartbeats 8000000 in
set_option maxRecDepth 100000 in
theorem create_calls (l : List Tab) (A : Option Addr) (c0 : Nat) (n : ByteArray) (cs : List Col) (Ac : Option Addr) (cc : Nat) (w : World) (hr : Kd.C kT w A l.length l) (hc : l.length ≤ c0) (hl : l.length ≤ 1000000) (hg : ∀ t ∈ l, GT t)
    (hrc : Kd.C kC w Ac cs.length cs) (hcc : cs.length ≤ cc) (hcl : cs.length ≤ 1000000) (hgc : ∀ x ∈ cs, x.f0.size ≤ 9223372036854775807) (hn : n.size ≤ 9223372036854775807) :
    Calls Try.prog 57 #[.slice A l.length c0, .string n, .slice Ac cs.length cc] w fun e w' => ∃ v, e = .returned (.tuple #[v, .int .i64 (createP l n cs).2]) ∧ Kd.N kT TT w' w.heap.size (fun k => w.heap.size ≤ k) v (createP l n cs).1 ∧ Below w.heap.size w w' := by
  have HR := Aside0.mk hr
  have HG := Aside0.mk hg
  have HRc := Aside0.mk hrc
  have HGc := Aside0.mk hgc
  clear hr hg hrc hgc
  by_cases h0 : checkP l = true
  rotate_left
  · have E0 : Aside0 (checkP l = false) := ⟨by simpa using h0⟩
    have HE : Aside0 (createP l n cs = ([], 1)) := ⟨by unfold createP; rw [if_neg h0]⟩
    clear h0
    go_enter Try.func57, Try.ntmps57
    go_wp2_with fail
    refine (check_calls l A c0 _ HR.out hc hl HG.out).mono ?_
    rintro e w1 ⟨rfl, hb1⟩
    rw [chkE_no E0.out]
    have HB1 := Aside0.mk (hb1)
    clear hb1
    go_wp2_with fail
    go_ret2
    rw [HE.out]
    exact ⟨_, rfl, Kd.N_nil _ _ _ _ _, HB1.out⟩
  have E0 : Aside0 (checkP l = true) := ⟨h0⟩
  cases h1 : nameP n with
  | false =>
    have E1 := Aside0.mk h1
    have HE : Aside0 (createP l n cs = ([], 1)) := ⟨by unfold createP; rw [if_pos h0, if_neg (by rw [h1]; decide)]⟩
    clear h0 h1
    go_enter Try.func57, Try.ntmps57
    go_wp2_with fail
    refine (check_calls l A c0 _ HR.out hc hl HG.out).mono ?_
    rintro e w1 ⟨rfl, hb1⟩
    rw [chkE_yes E0.out]
    have HB1 := Aside0.mk (hb1)
    clear hb1
    go_wp2_with fail
    refine (name_calls n _ hn).mono ?_
    rintro e w2 ⟨rfl, hb2⟩
    rw [E1.out]
    have HB2 := Aside0.mk (below_step HB1.out hb2)
    clear hb2
    go_wp2_with fail
    go_ret2
    rw [HE.out]
    exact ⟨_, rfl, Kd.N_nil _ _ _ _ _, HB2.out⟩
  | true =>
  have E1 := Aside0.mk h1
  cases h2 : colsP cs with
  | false =>
    have E2 := Aside0.mk h2
    have HE : Aside0 (createP l n cs = ([], 1)) := ⟨by unfold createP; rw [if_pos h0, if_pos h1, if_neg (by rw [h2]; decide)]⟩
    clear h0 h1 h2
    go_enter Try.func57, Try.ntmps57
    go_wp2_with fail
    refine (check_calls l A c0 _ HR.out hc hl HG.out).mono ?_
    rintro e w1 ⟨rfl, hb1⟩
    rw [chkE_yes E0.out]
    have HB1 := Aside0.mk (hb1)
    clear hb1
    go_wp2_with fail
    refine (name_calls n _ hn).mono ?_
    rintro e w2 ⟨rfl, hb2⟩
    rw [E1.out]
    have HB2 := Aside0.mk (below_step HB1.out hb2)
    clear hb2
    go_wp2_with fail
    refine (cols_calls cs Ac cc _ (Kd.C_below HRc.out HB2.out) hcc hcl HGc.out).mono ?_
    rintro e w3 ⟨rfl, hb3⟩
    rw [E2.out]
    have HB3 := Aside0.mk (below_step HB2.out hb3)
    clear hb3
    go_wp2_with fail
    go_ret2
    rw [HE.out]
    exact ⟨_, rfl, Kd.N_nil _ _ _ _ _, HB3.out⟩
  | true =>
  have E2 := Aside0.mk h2
  obtain ⟨r, hr3⟩ : ∃ r, idxF (fun t : Tab => isN n t.f0) l 0 = r := ⟨_, rfl⟩
  have E3 := Aside0.mk hr3
  by_cases h3 : 0 ≤ r
  · have HE : Aside0 (createP l n cs = ([], 251)) := ⟨by unfold createP; rw [if_pos h0, if_pos h1, if_pos h2, hr3, if_pos h3]⟩
    have hd : decide (r ≥ 0) = true := decide_eq_true h3
    clear h0 h1 h2 hr3
    go_enter Try.func57, Try.ntmps57
    go_wp2_with fail
    refine (check_calls l A c0 _ HR.out hc hl HG.out).mono ?_
    rintro e w1 ⟨rfl, hb1⟩
    rw [chkE_yes E0.out]
    have HB1 := Aside0.mk (hb1)
    clear hb1
    go_wp2_with fail
    refine (name_calls n _ hn).mono ?_
    rintro e w2 ⟨rfl, hb2⟩
    rw [E1.out]
    have HB2 := Aside0.mk (below_step HB1.out hb2)
    clear hb2
    go_wp2_with fail
    refine (cols_calls cs Ac cc _ (Kd.C_below HRc.out HB2.out) hcc hcl HGc.out).mono ?_
    rintro e w3 ⟨rfl, hb3⟩
    rw [E2.out]
    have HB3 := Aside0.mk (below_step HB2.out hb3)
    clear hb3
    go_wp2_with fail
    refine (find_calls l A c0 n _ (Kd.C_below HR.out HB3.out) hc hl).mono ?_
    rintro e w4 ⟨rfl, hb4⟩
    rw [E3.out]
    have HB4 := Aside0.mk (below_step HB3.out hb4)
    clear hb4
    go_wp2_with fail
    go_ret2
    rw [HE.out]
    exact ⟨_, rfl, Kd.N_nil _ _ _ _ _, HB4.out⟩
  have hd : decide (r ≥ 0) = false := decide_eq_false h3
  by_cases h8 : 8 ≤ l.length
  · have HE : Aside0 (createP l n cs = ([], 4)) := ⟨by unfold createP; rw [if_pos h0, if_pos h1, if_pos h2, hr3, if_neg h3, if_pos h8]⟩
    clear h0 h1 h2 hr3
    go_enter Try.func57, Try.ntmps57
    go_wp2_with fail
    refine (check_calls l A c0 _ HR.out hc hl HG.out).mono ?_
    rintro e w1 ⟨rfl, hb1⟩
    rw [chkE_yes E0.out]
    have HB1 := Aside0.mk (hb1)
    clear hb1
    go_wp2_with fail
    refine (name_calls n _ hn).mono ?_
    rintro e w2 ⟨rfl, hb2⟩
    rw [E1.out]
    have HB2 := Aside0.mk (below_step HB1.out hb2)
    clear hb2
    go_wp2_with fail
    refine (cols_calls cs Ac cc _ (Kd.C_below HRc.out HB2.out) hcc hcl HGc.out).mono ?_
    rintro e w3 ⟨rfl, hb3⟩
    rw [E2.out]
    have HB3 := Aside0.mk (below_step HB2.out hb3)
    clear hb3
    go_wp2_with fail
    refine (find_calls l A c0 n _ (Kd.C_below HR.out HB3.out) hc hl).mono ?_
    rintro e w4 ⟨rfl, hb4⟩
    rw [E3.out]
    have HB4 := Aside0.mk (below_step HB3.out hb4)
    clear hb4
    go_wp2_with fail
    go_ret2
    rw [HE.out]
    exact ⟨_, rfl, Kd.N_nil _ _ _ _ _, HB4.out⟩
  · have HE : Aside0 (createP l n cs = (l ++ [newP n cs], 0)) := ⟨by unfold createP; rw [if_pos h0, if_pos h1, if_pos h2, hr3, if_neg h3, if_neg h8]⟩
    clear h0 h1 h2 hr3
    go_enter Try.func57, Try.ntmps57
    go_wp2_with fail
    refine (check_calls l A c0 _ HR.out hc hl HG.out).mono ?_
    rintro e w1 ⟨rfl, hb1⟩
    rw [chkE_yes E0.out]
    have HB1 := Aside0.mk (hb1)
    clear hb1
    go_wp2_with fail
    refine (name_calls n _ hn).mono ?_
    rintro e w2 ⟨rfl, hb2⟩
    rw [E1.out]
    have HB2 := Aside0.mk (below_step HB1.out hb2)
    clear hb2
    go_wp2_with fail
    refine (cols_calls cs Ac cc _ (Kd.C_below HRc.out HB2.out) hcc hcl HGc.out).mono ?_
    rintro e w3 ⟨rfl, hb3⟩
    rw [E2.out]
    have HB3 := Aside0.mk (below_step HB2.out hb3)
    clear hb3
    go_wp2_with fail
    refine (find_calls l A c0 n _ (Kd.C_below HR.out HB3.out) hc hl).mono ?_
    rintro e w4 ⟨rfl, hb4⟩
    rw [E3.out]
    have HB4 := Aside0.mk (below_step HB3.out hb4)
    clear hb4
    go_wp2_with (first | ((with_reducible refine gate_dst (N := 8) rfl ?_); refine alloc_event rfl (N := 8) rfl (run_alloc_Pr rfl) ?_; intro b8 w5 hg5 hx5 hB5 hz5) | ((with_reducible refine gate_ (.store TP (.tmp 8) (.tmp 33)) rfl ?_); refine row_store_event rfl TP (.tmp 8) (.tmp 33) rfl b8 #[.string ⟨#[115, 117, 112, 101, 114]⟩, .slice none 0 0, .int .i64 0] rfl rfl TP _ hx5.out size_P rfl (one3 _ _ _ rfl rfl rfl) ?_; intro w6 hs; have HX6 := Aside0.mk hs.at_; have HB6 := Aside0.mk (hs.below hB5.out (Nat.le_of_eq hg5.out.symm)); have HG8 : Aside0 (w4.heap.size ≤ b8) := ⟨Nat.le_of_eq hg5.out.symm⟩; clear hs hx5 hB5 hz5 hg5))
    have HB46 := Aside0.mk (below_step HB4.out HB6.out)
    have hw6 := HB6.out.size
    go_loopw [36] (fun v36 wr => ∃ k : Nat, v36 = .int .i64 (k : Int) ∧ k ≤ cs.length ∧ ∃ Ak ck, Aside0 (wr.heap[b8]? = some (.cells #[.string ⟨#[115, 117, 112, 101, 114]⟩, .slice Ak k ck, .int .i64 0] TP (0, 0))) ∧ Aside0 (Kd.R (Kd.int .i64) 3 wr w6.heap.size (fun k => w6.heap.size ≤ k) (.slice Ak k ck) (upto k)) ∧ Aside0 (Below w4.heap.size w4 wr) ∧ Aside0 (w6.heap.size ≤ wr.heap.size)) (fun v36 _ => cs.length - (intOf v36).toNat)
    case atStart => exact ⟨0, rfl, Nat.zero_le _, none, 0, HX6, ⟨by rw [show upto 0 = [] from rfl]; exact Kd.R_nil _ _ _ _ _⟩, HB6, ⟨Nat.le_refl _⟩⟩
    case round =>
      obtain ⟨k, rfl, hk, Ak, ck, HX, HRk, HB, HZ⟩ := hrel
      have hc81 : wr.cell? ⟨b8, 1, none⟩ = some (.slice Ak k ck) := (cell_of_row wr b8 1 _ _ _ HX.out).trans rfl
      by_cases hkl : k < cs.length
      · have hlu := upto_len k
        have HBr : Aside0 (Below w6.heap.size wr wr) := ⟨Below.refl _ _⟩
        obtain ⟨U, hU⟩ : ∃ U, upto k = U := ⟨_, rfl⟩
        have HU : Aside0 (upto (k + 1) = U ++ [(k : Int)]) := ⟨by rw [upto_succ, hU]⟩
        rw [hU] at HRk hlu
        clear hU
        go_wp2_with (first | ((with_reducible refine gate_builtin (b := .append) (xs := #[.tmp 40, .tmp 42]) rfl ?_); at_builtin; refine Kd.R_append (Kd.int .i64) (w0 := wr) w6.heap.size rfl (.tmp 40) (.tmp 42) 43 3 (.int .i64 0) 8 rfl Try.underlying43 (by kernel_rfl) rfl (by decide) (by decide) (.slice Ak k ck) U (k : Int) [.int .i64 (k : Int)] (fun k => w6.heap.size ≤ k) (fun _ => False) rfl rfl rfl (fun _ hk => hk.elim) (fun _ hk => Nat.le_trans HZ.out hk) HRk.out HBr.out HZ.out (by omega) ?_; intro v4 w7 hR4 hB4 hG4 hA4; obtain ⟨A7, c7, rfl⟩ := Kd.R_slice hR4; have hlx : (U ++ [(k : Int)]).length = k + 1 := (by simp [hlu]); rw [hlx]; rw [hlx] at hR4; have hx7 : w7.heap[b8]? = some (.cells #[.string ⟨#[115, 117, 112, 101, 114]⟩, .slice Ak k ck, .int .i64 0] TP (0, 0)) := blk_grown HX.out hG4 (Kd.R_ne HRk.out HX.out (by decide)); have HX7 := Aside0.mk hx7; have HR7 := Aside0.mk hR4; have HB7 := Aside0.mk hB4; have hc7 : w7.cell? ⟨b8, 1, none⟩ = some (.slice Ak k ck) := (cell_of_row w7 b8 1 _ _ _ hx7).trans rfl; have hf7 := frozen_of_row w7 b8 1 _ _ hx7; clear hR4 hB4 hG4 hA4 hx7 hlx))
        have hset := cellSet_mk (i := 1) (v := Value.slice A7 (k + 1) c7) HX7.out
        have hsz := hset.size
        have h76 := HB7.out.size
        have hzz := HZ.out
        exact ⟨⟨k + 1, by simp, by omega, A7, c7, ⟨hset.at_⟩, ⟨by rw [HU.out]; exact Kd.R_set HR7.out HX7.out (by intro q hq; simp [Kd.int, Kd.scalar] at hq; subst hq; decide) 1 _⟩, ⟨hset.below (below_weaken HB.out (by omega) HB7.out) HG8.out⟩, ⟨by omega⟩⟩, by simp [intOf]; omega⟩
      · obtain rfl : k = cs.length := by omega
        have hR9 := Kd.R_reads' HRk.out
        rw [upto_len] at hR9
        have HCk : Aside0 ((Kd.int .i64).C wr Ak (upto cs.length).length (upto cs.length)) := ⟨by rw [upto_len]; exact hR9.2.2⟩
        have hck : cs.length ≤ ck := hR9.2.1
        have HBw := Aside0.mk (below_step HB4.out HB.out)
        have HRA : Aside0 (wr.rangeAt b8 0 [.string ⟨#[115, 117, 112, 101, 114]⟩, .slice Ak cs.length ck, .int .i64 0]) := ⟨fun j v hv => by rw [cell_of_row wr b8 _ _ _ _ HX.out]; simpa using hv⟩
        have hll : l.length ≤ l.length := Nat.le_refl _
        have HA0 : Aside0 (A = none → l.length = 0) := ⟨fun h => by have h2 := HR.out; rw [h] at h2; rw [C_none h2]; rfl⟩
        clear hR9 hc81 HRk HB46 hw6 HX HB HZ
        go_wp2_with fail
        refine start_ (n := 16) (S := fun w' => w'.rangeAt b8 0 [.string ⟨#[115, 117, 112, 101, 114]⟩, .slice Ak cs.length ck, .int .i64 0]) (ds := []) #[Z,Z,Z,Z,Z,Z,Z,Z,Z,Z,Z,Z,Z,Z,Z,Z] (by kernel_rfl) rfl rfl ((by rw [World.rangeAt_drew]; exact HRA.out)) (fun hHeld => ?_)
        refine pure_ (i := 0) (N := (some 46)) (v := ?_) (a' := ?_) #[Y,Z,Z,Z,Z,Z,Z,Z,Z,Z,Z,Z,Z,Z,Z,Z] rfl rfl (by kernel_rfl) (fun _ _ _ h => h) (Or.inl ⟨by rfl, ?_⟩) ?_ ?_
        rotate_left
        · intro w'
          go_simp
          with_reducible rfl
        rotate_left
        · simp only [Act.put, List.setIfInBounds_toArray, List.set_cons_zero, List.set_cons_succ, i64_w, i32_w]
          rfl
        refine pure_ (i := 1) (N := (some 47)) (v := ?_) (a' := ?_) #[Y,Y,Z,Z,Z,Z,Z,Z,Z,Z,Z,Z,Z,Z,Z,Z] rfl rfl (by kernel_rfl) (fun _ _ _ h => h) (Or.inl ⟨by rfl, ?_⟩) ?_ ?_
        rotate_left
        · intro w'
          go_simp
          with_reducible rfl
        rotate_left
        · simp only [Act.put, List.setIfInBounds_toArray, List.set_cons_zero, List.set_cons_succ, i64_w, i32_w]
          rfl
        refine pure_ (i := 2) (N := (some 48)) (v := ?_) (a' := ?_) #[Y,Y,Y,Z,Z,Z,Z,Z,Z,Z,Z,Z,Z,Z,Z,Z] rfl rfl (by kernel_rfl) (fun _ _ _ h => h) (Or.inl ⟨by rfl, ?_⟩) ?_ ?_
        rotate_left
        · intro w'
          go_simp
          with_reducible rfl
        rotate_left
        · simp only [Act.put, List.setIfInBounds_toArray, List.set_cons_zero, List.set_cons_succ, i64_w, i32_w]
          rfl
        refine pure_ (i := 3) (N := (some 49)) (v := ?_) (a' := ?_) #[Y,Y,Y,Y,Z,Z,Z,Z,Z,Z,Z,Z,Z,Z,Z,Z] rfl rfl (by kernel_rfl) (fun _ _ _ h => h) (Or.inl ⟨by rfl, ?_⟩) ?_ ?_
        rotate_left
        · intro w'
          go_simp
          with_reducible rfl
        rotate_left
        · simp only [Act.put, List.setIfInBounds_toArray, List.set_cons_zero, List.set_cons_succ, i64_w, i32_w]
          rfl
        refine pure_ (i := 4) (N := (some 50)) (v := ?_) (a' := ?_) #[Y,Y,Y,Y,Y,Z,Z,Z,Z,Z,Z,Z,Z,Z,Z,Z] rfl rfl (by kernel_rfl) (fun _ _ _ h => h) (Or.inl ⟨by rfl, ?_⟩) ?_ ?_
        rotate_left
        · intro w'
          go_simp
          with_reducible rfl
        rotate_left
        · simp only [Act.put, List.setIfInBounds_toArray, List.set_cons_zero, List.set_cons_succ, i64_w, i32_w]
          rfl
        refine pure_ (i := 5) (N := (some 51)) (v := ?_) (a' := ?_) #[Y,Y,Y,Y,Y,Y,Z,Z,Z,Z,Z,Z,Z,Z,Z,Z] rfl rfl (by kernel_rfl) (fun _ _ _ h => h) (Or.inl ⟨by rfl, ?_⟩) ?_ ?_
        rotate_left
        · intro w'
          go_simp
          with_reducible rfl
        rotate_left
        · simp only [Act.put, List.setIfInBounds_toArray, List.set_cons_zero, List.set_cons_succ, i64_w, i32_w]
          rfl
        refine pure_ (i := 6) (N := (some 52)) (v := ?_) (a' := ?_) #[Y,Y,Y,Y,Y,Y,Y,Z,Z,Z,Z,Z,Z,Z,Z,Z] rfl rfl (by kernel_rfl) (fun _ _ _ h => h) (Or.inl ⟨by rfl, ?_⟩) ?_ ?_
        rotate_left
        · intro w'
          go_simp
          with_reducible rfl
        rotate_left
        · simp only [Act.put, List.setIfInBounds_toArray, List.set_cons_zero, List.set_cons_succ, i64_w, i32_w]
          rfl
        refine pure_ (i := 7) (N := (some 53)) (v := ?_) (a' := ?_) #[Y,Y,Y,Y,Y,Y,Y,Y,Z,Z,Z,Z,Z,Z,Z,Z] rfl rfl (by kernel_rfl) (fun _ _ _ h => h) (Or.inl ⟨by rfl, ?_⟩) ?_ ?_
        rotate_left
        · intro w'
          go_simp
          with_reducible rfl
        rotate_left
        · simp only [Act.put, List.setIfInBounds_toArray, List.set_cons_zero, List.set_cons_succ, i64_w, i32_w]
          rfl
        refine take_ (i := 8) (N := (some 54)) (v := .agg #[.string ⟨#[115, 117, 112, 101, 114]⟩, .slice Ak cs.length ck, .int .i64 0]) (a' := ?_) #[Y,Y,Y,Y,Y,Y,Y,Y,Y,Z,Z,Z,Z,Z,Z,Z] rfl rfl (by kernel_rfl) (fun _ _ _ h => h) (yieldsIf_load_mid (by rfl) TP (.tmp 8) rfl b8 0 rfl [.string ⟨#[115, 117, 112, 101, 114]⟩, .slice Ak cs.length ck, .int .i64 0] _ (fun w h => h) Try.underlying52 rfl size_P) hHeld ?_ ?_
        rotate_left
        · simp only [Act.put, List.setIfInBounds_toArray, List.set_cons_zero, List.set_cons_succ, i64_w, i32_w]
          rfl
        refine one_ (i := 9) (N := (some 55)) #[Y,Y,Y,Y,Y,Y,Y,Y,Y,Y,Z,Z,Z,Z,Z,Z] rfl rfl (by kernel_rfl) (by decide) (fun K hK => ?_)
        refine value_ (w1 := wr.drew.alloc (.cells #[.string ⟨#[115, 117, 112, 101, 114]⟩, .slice Ak cs.length ck, .int .i64 0] TP (0, 0))) (v := .slice (some ⟨wr.drew.heap.size, 0, none⟩) 1 1) (by rfl) rfl (by first | (go_simp; done) | (go_simp; rfl)) ?_
        obtain ⟨w9, hw9⟩ : ∃ y, y = wr.drew.alloc (.cells #[.string ⟨#[115, 117, 112, 101, 114]⟩, .slice Ak cs.length ck, .int .i64 0] TP (0, 0)) := ⟨_, rfl⟩
        obtain ⟨b9, hb9⟩ : ∃ y, y = wr.drew.heap.size := ⟨_, rfl⟩
        rw [← hw9, ← hb9]
        have hB9 : Below wr.heap.size wr w9 := by rw [hw9]; exact below_alloc (below_drew (Below.refl _ _)) _
        have HX9 : Aside0 (w9.heap[b9]? = some (.cells #[.string ⟨#[115, 117, 112, 101, 114]⟩, .slice Ak cs.length ck, .int .i64 0] TP (0, 0))) := ⟨by rw [hw9, hb9]; exact blk_new _ _⟩
        have HB9 := Aside0.mk hB9
        refine hK.out _ _ (fun j v hv => pw_cell_below HB9.out (HRA.out j v hv)) (fun hHeld => ?_)
        clear hw9 hb9 hB9
        clear hK K
        refine norm_ (a' := ?_) ?_ ?_
        rotate_left
        · show Act.put _ (some 55) _ = _
          simp only [Act.put, List.setIfInBounds_toArray, List.set_cons_zero, List.set_cons_succ, i64_w, i32_w]
          rfl
        refine pure_ (i := 10) (N := (some 56)) (v := ?_) (a' := ?_) #[Y,Y,Y,Y,Y,Y,Y,Y,Y,Y,Y,Z,Z,Z,Z,Z] rfl rfl (by kernel_rfl) (fun _ _ _ h => h) (Or.inl ⟨by rfl, ?_⟩) ?_ ?_
        rotate_left
        · intro w'
          go_simp
          with_reducible rfl
        rotate_left
        · simp only [Act.put, List.setIfInBounds_toArray, List.set_cons_zero, List.set_cons_succ, i64_w, i32_w]
          rfl
        refine one_ (i := 11) (N := (some 57)) #[Y,Y,Y,Y,Y,Y,Y,Y,Y,Y,Y,Y,Z,Z,Z,Z] rfl rfl (by kernel_rfl) (by decide) (fun K hK => ?_)
        refine value_ (w1 := w9.alloc (.cells #[.string n, .slice Ac cs.length cc, .slice (some ⟨b9, 0, none⟩) 1 1] TT (0, 0))) (v := .slice (some ⟨w9.heap.size, 0, none⟩) 1 1) (by rfl) rfl (by first | (go_simp; done) | (go_simp; rfl)) ?_
        obtain ⟨w10, hw10⟩ : ∃ y, y = w9.alloc (.cells #[.string n, .slice Ac cs.length cc, .slice (some ⟨b9, 0, none⟩) 1 1] TT (0, 0)) := ⟨_, rfl⟩
        obtain ⟨b10, hb10⟩ : ∃ y, y = w9.heap.size := ⟨_, rfl⟩
        rw [← hw10, ← hb10]
        have hB10 : Below w9.heap.size w9 w10 := by rw [hw10]; exact below_alloc (Below.refl _ _) _
        have HX10 : Aside0 (w10.heap[b10]? = some (.cells #[.string n, .slice Ac cs.length cc, .slice (some ⟨b9, 0, none⟩) 1 1] TT (0, 0))) := ⟨by rw [hw10, hb10]; exact blk_new _ _⟩
        have HX910 := Aside0.mk (blk_below HX9.out hB10)
        have HB10 := Aside0.mk (below_step HB9.out hB10)
        refine hK.out _ _ (fun j v hv => pw_cell_below HB10.out (HRA.out j v hv)) (fun hHeld => ?_)
        clear hw10 hb10 hB10 HX9 HB9
        clear hK K
        refine norm_ (a' := ?_) ?_ ?_
        rotate_left
        · show Act.put _ (some 57) _ = _
          simp only [Act.put, List.setIfInBounds_toArray, List.set_cons_zero, List.set_cons_succ, i64_w, i32_w]
          rfl
        have hK10 : kT.K w10 (newP n cs) [.string n, .slice Ac cs.length cc, .slice (some ⟨b9, 0, none⟩) 1 1] := k47_mk w10 (newP n cs) hcc (Kd.C_below HRc.out (below_step HBw.out HB10.out)) (Nat.le_refl 1) (C_one HX910.out rfl (by have h := k52_mk w10 (⟨superN, upto cs.length, 0⟩ : Prj) (A1 := Ak) (c1 := ck) (by rw [upto_len]; exact hck) (Kd.C_below HCk.out HB10.out); rw [upto_len] at h; exact h))
        obtain ⟨w11, A11, c11, hrun, hc11, hC11, hB11⟩ := run_full l A (Kd.C_below HR.out (below_step HBw.out HB10.out)) hl (newP n cs) [.string n, .slice Ac cs.length cc, .slice (some ⟨b9, 0, none⟩) 1 1] rfl hK10 ⟨b10, 0, none⟩ (fun j u hu => by rw [Addr.add_lit, cell_of_row w10 b10 _ _ _ _ HX10.out]; simpa using hu) 49 l.length HA0.out (Nat.le_refl _) 1
        have HRUN := Aside0.mk hrun
        have HC11 := Aside0.mk hC11
        have HB11 := Aside0.mk (below_step HB10.out hB11)
        clear hrun hC11 hB11 hK10
        refine one_ (i := 12) (N := (some 58)) #[Y,Y,Y,Y,Y,Y,Y,Y,Y,Y,Y,Y,Y,Z,Z,Z] rfl rfl (by kernel_rfl) (by decide) (fun K hK => ?_)
        refine value_ (w1 := w11) (v := .slice A11 (l.length + 1) c11) (by rfl) rfl (run_op_append (.tmp 51) (.tmp 57) (.slice A l.length l.length) (.slice (some ⟨b10, 0, none⟩) 1 1) _ rfl rfl rfl HRUN.out) ?_
        refine hK.out _ _ (fun j v hv => pw_cell_below HB11.out (HRA.out j v hv)) (fun hHeld => ?_)
        clear hK K
        refine norm_ (a' := ?_) ?_ ?_
        rotate_left
        · show Act.put _ (some 58) _ = _
          simp only [Act.put, List.setIfInBounds_toArray, List.set_cons_zero, List.set_cons_succ, i64_w, i32_w]
          rfl
        have hl1 : (l ++ [newP n cs]).length = l.length + 1 := by simp
        have hgt : ∀ t ∈ l ++ [newP n cs], GT t := by
          intro t ht
          rcases List.mem_append.1 ht with ht | ht
          · exact HG.out t ht
          · rw [List.mem_singleton] at ht
            subst ht
            refine ⟨hn, hcl, by show 1 ≤ 1000000; omega, HGc.out, fun x hx => ?_⟩
            rw [show (newP n cs).f2 = [⟨superN, upto cs.length, 0⟩] from rfl, List.mem_singleton] at hx
            subst hx
            exact ⟨by show superN.size ≤ _; decide, by show (upto cs.length).length ≤ _; rw [upto_len]; exact hcl⟩
        refine one_ (i := 13) (N := (some 59)) #[Y,Y,Y,Y,Y,Y,Y,Y,Y,Y,Y,Y,Y,Y,Z,Z] rfl rfl (by kernel_rfl) (by decide) (fun K hK => ?_)
        refine goes_ Try.func101 (by kernel_rfl) rfl #[.slice A11 (l.length + 1) c11] (by rfl) rfl rfl (by (try simp only [List.map_toArray, List.map_cons, List.map_nil]); first | done | rfl) ?_
        rw [← hl1]
        refine (copied_calls (l ++ [newP n cs]) A11 c11 w11 HC11.out (by omega) hgt).mono ?_
        rintro e w12 ⟨v59, rfl, hN, hB⟩
        refine ⟨_, rfl, ?_⟩
        have HN := Aside0.mk hN
        have HB12 := Aside0.mk (below_step HB11.out hB)
        have HZ11 : Aside0 (w.heap.size ≤ w11.heap.size) := ⟨Nat.le_trans HBw.out.size HB11.out.size⟩
        refine hK.out _ _ (fun j v hv => pw_cell_below HB12.out (HRA.out j v hv)) (fun hHeld => ?_)
        clear hN hB
        clear hK K
        refine norm_ (a' := ?_) ?_ ?_
        rotate_left
        · show Act.put _ (some 59) _ = _
          simp only [Act.put, List.setIfInBounds_toArray, List.set_cons_zero, List.set_cons_succ, i64_w, i32_w]
          rfl
        refine pure_ (i := 14) (N := (some 6)) (v := ?_) (a' := ?_) #[Y,Y,Y,Y,Y,Y,Y,Y,Y,Y,Y,Y,Y,Y,Y,Z] rfl rfl (by kernel_rfl) (fun _ _ _ h => h) (Or.inl ⟨by rfl, ?_⟩) ?_ ?_
        rotate_left
        · intro w'
          go_simp
          with_reducible rfl
        rotate_left
        · simp only [Act.put, List.setIfInBounds_toArray, List.set_cons_zero, List.set_cons_succ, i64_w, i32_w]
          rfl
        refine pure_ (i := 15) (N := (some 7)) (v := ?_) (a' := ?_) #[Y,Y,Y,Y,Y,Y,Y,Y,Y,Y,Y,Y,Y,Y,Y,Y] rfl rfl (by kernel_rfl) (fun _ _ _ h => h) (Or.inl ⟨by rfl, ?_⟩) ?_ ?_
        rotate_left
        · intro w'
          go_simp
          with_reducible rfl
        rotate_left
        · simp only [Act.put, List.setIfInBounds_toArray, List.set_cons_zero, List.set_cons_succ, i64_w, i32_w]
          rfl
        refine done_ (by kernel_rfl) ?_
        go_wp2_with fail
        go_ret2
        rw [HE.out]
        exact ⟨_, rfl, Kd.N_lower (Kd.N_mono (Kd.S_N HN.out) (fun k hk => Nat.le_trans HZ11.out hk)) HZ11.out, below_step HBw.out HB12.out⟩
end Go.Proofs.Ytgjclhhjigflkac.Sc
