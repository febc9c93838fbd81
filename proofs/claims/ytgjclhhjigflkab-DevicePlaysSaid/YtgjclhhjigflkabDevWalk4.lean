/- The walk of Sync. -/
import Derived.Test.YtgjclhhjigflkabDevWalk2
namespace Go.Proofs.Ytgjclhhjigflkab.Dev
open Go Go.RowKit Go.Proofs.Ytgjclhhjigflkab.MyWords Go.Proofs.Ytgjclhhjigflkab.Hand Go.Proofs.YtgjclhhjigflkabW.PrintWords Go.Proofs.YtgjclhhjigflkabW.PrintLast Go.Proofs.YtgjclhhjigflkabW.PrintMore
set_option linter.unusedVariables false
set_option linter.unusedSimpArgs false
section
variable {w w1 : World} {base g s c c1 : Nat} {ok : Nat → Prop} {D : DS} {A : Option Addr}
/-- where a block's cells lie -/
theorem Op.there (h : Op w base ok g D s c A c1) (a : Int) (h0 : 0 ≤ a) (h1 : a < D.sure.length) : w.there s (a.toNat * 128) 128 := by
  obtain ⟨cs, hcl, hM, hcc, hfr⟩ := Kd.R_elem h.sure ByteArray.empty a h0 h1
  intro j hj
  have hcl2 : cs.length = 128 := hcl
  have := hcc j _ (List.getElem?_eq_getElem (by omega))
  exact ⟨by rw [show a.toNat * 128 + j = a.toNat * kB.sz + j from rfl, this]; rfl, hfr j⟩
/-- a block is written -/
theorem Op.store (h : Op w base ok g D s c A c1) (a : Int) (b : ByteArray) (h0 : 0 ≤ a) (h1 : a < D.sure.length) (hb : b.size = 128) (hD : Ok ⟨D.sure.set a.toNat b, D.wait, D.fuse, D.off⟩) :
    Op (w.setCells s (a.toNat * 128) (blkCells b)) base ok g ⟨D.sure.set a.toNat b, D.wait, D.fuse, D.off⟩ s c A c1 ∧ Chg w (w.setCells s (a.toNat * 128) (blkCells b)) ok := by
  obtain ⟨cs, hcl, hM, hcc, hfr⟩ := Kd.R_elem h.sure ByteArray.empty a h0 h1
  have hcl2 : cs.length = 128 := hcl
  obtain ⟨hR, hG⟩ := Kd.R_seg (okp := fun _ => False) h.sure a h0 h1 hcl hcc (seg := blkCells b) (j := 0) (by rw [blkCells_len, hb]; decide) (x' := b) (by
    refine ⟨hb, ?_⟩
    rw [List.take_zero, List.nil_append, blkCells_len, hb, List.drop_of_length_le (by omega), List.append_nil]) (fun _ hk => hk.elim)
  have hR2 : kB.R TB (w.setCells s (a.toNat * 128) (blkCells b)) base ok _ _ := hR
  have hG2 : w.grownBy (w.setCells s (a.toNat * 128) (blkCells b)) (some s) := hG
  have hne : some g ≠ some s := Kd.R_ne h.sure h.blk (by decide)
  have hgl : g < w.heap.size := (Array.getElem?_eq_some_iff.1 h.blk).1
  have hblk : (w.setCells s (a.toNat * 128) (blkCells b)).heap[g]? = _ := (hG2.block g hgl hne).trans h.blk
  have hW : kW.R TW (w.setCells s (a.toNat * 128) (blkCells b)) base ok _ D.wait := Kd.R_over h.wait h.sure (by intro q hq; simp [kW] at hq; subst hq; decide) hG2
  refine ⟨⟨h.okg, h.bg, hD, ?_, ?_, hW⟩, Chg.of_grown hG2 (fun k hk => by injection hk with hk; subst hk; exact h.sure.1 s rfl)⟩
  · rw [hblk, List.length_set]
  · rw [List.length_set]
    exact hR2
theorem Op.far (h : Op w base ok g D s c A c1) (hm : ∀ k, ok k → k < w.heap.size → w1.heap[k]? = w.heap[k]?) : Op w1 base ok g D s c A c1 :=
  ⟨h.okg, h.bg, h.good, (hm g h.okg (Array.getElem?_eq_some_iff.1 h.blk).1).trans h.blk, Kd.R_step h.sure hm, Kd.R_step h.wait hm⟩
/-- the waiting writes are forgotten -/
theorem Op.forget (h : Op w base ok g D s c A c1) (hD : Ok ⟨D.sure, [], D.fuse, D.off⟩) : Op (w.setCell ⟨g, 1, none⟩ (.slice none 0 0)) base ok g ⟨D.sure, [], D.fuse, D.off⟩ s c none 0 ∧ Chg w (w.setCell ⟨g, 1, none⟩ (.slice none 0 0)) ok :=
  ⟨⟨h.okg, h.bg, hD, (heap_setCell_same w g 1 _ _ _ h.blk).trans rfl, Kd.R_set h.sure h.blk (by intro q hq; simp [kB] at hq; subst hq; decide) 1 _, Kd.R_nil _ _ _ _ _⟩, Chg.setCell w g 1 _ h.okg⟩
theorem Op.of_ok (h : Op w base ok g D s c A c1) : Ok D := h.good
end
section
variable {e : Operand → Value} {o : Oper} {W : World}
theorem run_store_B (x y : Operand) (s o' : Nat) (b : ByteArray) (hb : b.size = 128) (ho : o.op = .store 111 x y) (hx : e x = .pointer (some ⟨s, o', none⟩)) (hy : e y = .agg (blkCells b).toArray) (ht : W.there s o' 128) :
    (execOp e o).run Try.prog W = .ok .skip (W.setCells s o' (blkCells b)) := by
  have hr := run_storeAt_mid (P := Try.prog) W s o' 111 (blkCells b).toArray (by rw [List.size_toArray, blkCells_len, hb]; exact ht) (by rw [List.size_toArray, blkCells_len, hb]; exact size_B) (all_one (blkCells_one b))
  unfold execOp
  simp only [ho, hx, hy, Sem.run_bind, hr, Result.andThen_ok]
  rfl
end
/-- the device after so many of its writes were made sure -/
def syncAt (D : DS) (k : Nat) : DS := ⟨(D.wait.take k).foldl putW D.sure, D.wait, D.fuse, D.off⟩
theorem syncAt_succ (D : DS) (k : Nat) (h : k < D.wait.length) : syncAt D (k + 1) = ⟨(syncAt D k).sure.set D.wait[k].at_.toNat D.wait[k].b, (syncAt D k).wait, (syncAt D k).fuse, (syncAt D k).off⟩ := by
  unfold syncAt
  rw [foldl_at _ _ _ _ h]
  rfl
theorem syncAt_len (D : DS) (k : Nat) : (syncAt D k).sure.length = D.sure.length := foldl_len _ _
theorem syncAt_ok {D : DS} (hD : Ok D) (k : Nat) : Ok (syncAt D k) := by
  have hl := syncAt_len D k
  refine ⟨by rw [hl]; exact hD.pos, by rw [hl]; exact hD.most, foldl_sz _ _ hD.sz (fun w hw => hD.wsz w (List.mem_of_mem_take hw)), hD.wsz, ?_, hD.fuse0, hD.fuse1⟩
  intro w hw
  rw [hl]
  exact hD.wat w hw
set_option maxHeartbeats 1000000 in
set_option maxRecDepth 100000 in
theorem sync_yes {base : Nat} {ok : Nat → Prop} {g : Nat} {D : DS} {w : World} (H : Dev w base ok g D) (hd : (doesD D).2 = true) :
    Calls Try.prog 17 #[.pointer (some ⟨g, 0, none⟩)] w fun e w' => e = .returned (.int .i64 0) ∧ Dev w' base ok g ⟨(doesD D).1.wait.foldl putW (doesD D).1.sure, [], (doesD D).1.fuse, (doesD D).1.off⟩ ∧ Chg w w' ok := by
  obtain ⟨s0, c, A, c1, hO⟩ := H.open_
  have hc0 := hO.cell0
  have hn := hO.good.pos
  have HH := Aside0.mk H
  have HD := Aside0.mk hd
  clear H hO hd
  obtain ⟨D1, hD1⟩ : ∃ D1, (doesD D).1 = D1 := ⟨_, rfl⟩
  rw [hD1]
  have HD1 := Aside0.mk hD1
  clear hD1
  go_enter Try.func17, Try.ntmps17
  go_wp2_with (first | (go_at_call 62; refine (given_yes g s0 _ c _ hc0 hn).mono ?_; rintro e w' ⟨rfl, rfl⟩) | (go_at_call 63; refine (does_calls HH.out).mono ?_; rintro e w1 ⟨rfl, h1, h2⟩; rw [HD.out]; rw [HD1.out] at h1; clear hc0; have H2 := Aside0.mk h2; obtain ⟨s, c3, A1, c4, hO1⟩ := h1.open_; have hc1 := hO1.cell1; have HO1 := Aside0.mk hO1; clear h1 h2 hO1))
  clear hc1 hn
  have hwl : D1.wait.length ≤ 9223372036854775807 := (Kd.R_reads' HO1.out.wait).2.2.2.1
  go_loopw [18] (fun v18 wr => ∃ k : Nat, v18 = .int .i64 (k : Int) ∧ k ≤ D1.wait.length ∧ Aside0 (Op wr base ok g (syncAt D1 k) s c3 A1 c4) ∧ Aside0 (Chg w1 wr ok)) (fun v18 _ => D1.wait.length - (intOf v18).toNat)
  case atStart => exact ⟨0, rfl, by omega, HO1, ⟨Chg.refl _ _⟩⟩
  case round =>
    obtain ⟨k, rfl, hk, HO, HC⟩ := hrel
    by_cases hlt : k < D1.wait.length
    · obtain ⟨ad, hA, hcc⟩ := wait_cells HO.out (fun i _ hi => rfl) k hlt
      subst hA
      have hcc2 : ∀ (j : Nat) (u : Value), (wrCells D1.wait[k])[j]? = some u → wr.cell? ((ad.add (k * 129)).add j) = some u := hcc
      have HWC := Aside0.mk hcc2
      have hws := HO1.out.good.wsz _ (List.getElem_mem hlt)
      have hwa := HO1.out.good.wat _ (List.getElem_mem hlt)
      have hsu := syncAt_succ D1 k hlt
      have hok2 := syncAt_ok HO1.out.good (k + 1)
      have hln := syncAt_len D1 k
      clear hcc hcc2
      obtain ⟨x, hx⟩ : ∃ x, D1.wait[k] = x := ⟨_, rfl⟩
      rw [hx] at hws hwa hsu HWC
      rw [hsu] at hok2
      obtain ⟨xa, xb⟩ := x
      have hw0 : 0 ≤ xa := hwa.1
      have hw1 : xa < (D1.sure.length : Int) := hwa.2
      have HWS := Aside0.mk (show xb.size = 128 from hws)
      have HSU := Aside0.mk hsu
      have HOK2 := Aside0.mk hok2
      have HL := Aside0.mk hln
      clear hws hsu hx hwa hok2 hln
      go_wp2_with (first | ((with_reducible refine gate_dst (N := 21) rfl ?_); refine var_event TW rfl (N1 := 21) rfl (.tmp 20) rfl rfl (N2 := 4) rfl (wrCells ⟨0, zeroB⟩) (fun e W => run_alloc_W rfl) rfl rfl rfl (ad.add (k * 129)) ?e1 (wrCells ⟨xa, xb⟩) HWC.out _ Try.underlying113 rfl (by rw [wrCells_len, HWS.out]; exact size_W) (by rw [wrCells_len, wrCells_len, HWS.out, zeroB_size]) (wrCells_one _) (fun p => ⟨rfl, rfl⟩) ?_; (case e1 => first | rfl | (go_simp; done) | (go_simp; rfl)); intro g4 w2 hv; have HV := Aside0.mk hv; clear hv))
      have hb2 := HV.out.below
      have HO2 := Aside0.mk (HO.out.far (fun i _ hi => hb2.block i hi))
      have HC0 := Aside0.mk HO2.out.cell0
      have hb4 := HV.out.at_
      have HC4 := Aside0.mk (show w2.cell? ⟨g4, 0, none⟩ = some (.int .i64 xa) from (cell_of_row w2 g4 0 _ _ _ hb4).trans rfl)
      have HR4 := Aside0.mk (show w2.rangeAt g4 1 (blkCells xb) from fun j v hv => by rw [cell_of_row w2 g4 _ _ _ _ hb4]; simpa [wrCells, Nat.add_comm 1 j] using hv)
      have HTH := Aside0.mk (HO2.out.there xa hw0 (by rw [HL.out]; exact hw1))
      have hlsz : (syncAt D1 k).sure.length = D1.sure.length := HL.out
      rw [hlsz] at HC0
      clear hb2 hb4 hlsz
      refine start_ (n := 10) (S := fun w' => w'.cell? ⟨g, 0, none⟩ = some (.slice (some ⟨s, 0, none⟩) D1.sure.length c3) ∧ w'.cell? ⟨g4, 0, none⟩ = some (.int .i64 xa) ∧ w'.rangeAt g4 1 (blkCells xb)) (ds := [9]) #[Z,Z,Z,Z,Z,Z,Z,Z,Z,Z] (by kernel_rfl) rfl rfl (⟨HC0.out, HC4.out, by rw [World.rangeAt_drew]; exact HR4.out⟩) (fun hHeld => ?_)
      refine pure_ (i := 0) (N := (some 22)) (v := ?_) (a' := ?_) #[Y,Z,Z,Z,Z,Z,Z,Z,Z,Z] rfl rfl (by kernel_rfl) (fun _ _ _ h => h) (Or.inl ⟨by rfl, ?_⟩) ?_ ?_
      rotate_left
      · intro w'
        go_simp
        with_reducible rfl
      rotate_left
      · simp only [Act.put, List.setIfInBounds_toArray, List.set_cons_zero, List.set_cons_succ, i64_w, i32_w]
        rfl
      refine pure_ (i := 1) (N := (some 23)) (v := ?_) (a' := ?_) #[Y,Y,Z,Z,Z,Z,Z,Z,Z,Z] rfl rfl (by kernel_rfl) (fun _ _ _ h => h) (Or.inl ⟨by rfl, ?_⟩) ?_ ?_
      rotate_left
      · intro w'
        go_simp
        with_reducible rfl
      rotate_left
      · simp only [Act.put, List.setIfInBounds_toArray, List.set_cons_zero, List.set_cons_succ, i64_w, i32_w]
        rfl
      refine pure_ (i := 2) (N := (some 24)) (v := ?_) (a' := ?_) #[Y,Y,Y,Z,Z,Z,Z,Z,Z,Z] rfl rfl (by kernel_rfl) (fun _ _ _ h => h) (Or.inl ⟨by rfl, ?_⟩) ?_ ?_
      rotate_left
      · intro w'
        go_simp
        with_reducible rfl
      rotate_left
      · simp only [Act.put, List.setIfInBounds_toArray, List.set_cons_zero, List.set_cons_succ, i64_w, i32_w]
        rfl
      refine take_ (i := 3) (N := (some 25)) (v := ?_) (a' := ?_) #[Y,Y,Y,Y,Z,Z,Z,Z,Z,Z] rfl rfl (by kernel_rfl) (fun _ _ _ h => h) (Or.inl ⟨by rfl, ?_⟩) hHeld ?_ ?_
      rotate_left
      · intro w' s0
        go_simp
        with_reducible rfl
      rotate_left
      · simp only [Act.put, List.setIfInBounds_toArray, List.set_cons_zero, List.set_cons_succ, i64_w, i32_w]
        rfl
      refine pure_ (i := 4) (N := (some 26)) (v := ?_) (a' := ?_) #[Y,Y,Y,Y,Y,Z,Z,Z,Z,Z] rfl rfl (by kernel_rfl) (fun _ _ _ h => h) (Or.inl ⟨by rfl, ?_⟩) ?_ ?_
      rotate_left
      · intro w'
        go_simp
        with_reducible rfl
      rotate_left
      · simp only [Act.put, List.setIfInBounds_toArray, List.set_cons_zero, List.set_cons_succ, i64_w, i32_w]
        rfl
      refine take_ (i := 5) (N := (some 27)) (v := ?_) (a' := ?_) #[Y,Y,Y,Y,Y,Y,Z,Z,Z,Z] rfl rfl (by kernel_rfl) (fun _ _ _ h => h) (Or.inl ⟨by rfl, ?_⟩) hHeld ?_ ?_
      rotate_left
      · intro w' s0
        go_simp
        with_reducible rfl
      rotate_left
      · simp only [Act.put, List.setIfInBounds_toArray, List.set_cons_zero, List.set_cons_succ, i64_w, i32_w]
        rfl
      refine pure_ (i := 6) (N := (some 28)) (v := ?_) (a' := ?_) #[Y,Y,Y,Y,Y,Y,Y,Z,Z,Z] rfl rfl (by kernel_rfl) (fun _ _ _ h => h) (Or.inl ⟨by rfl, ?_⟩) ?_ ?_
      rotate_left
      · intro w'
        go_simp
        with_reducible rfl
      rotate_left
      · simp only [Act.put, List.setIfInBounds_toArray, List.set_cons_zero, List.set_cons_succ, i64_w, i32_w]
        rfl
      refine take_ (i := 7) (N := (some 29)) (v := .agg (blkCells xb).toArray) (a' := ?_) #[Y,Y,Y,Y,Y,Y,Y,Y,Z,Z] rfl rfl (by kernel_rfl) (fun _ _ _ h => h) (yieldsIf_load_mid (by rfl) 111 (.tmp 28) rfl g4 1 rfl (blkCells xb) _ (fun w (h : _ ∧ _ ∧ _) => h.2.2) Try.underlying111 rfl (by rw [blkCells_len, HWS.out]; exact size_B)) hHeld ?_ ?_
      rotate_left
      · simp only [Act.put, List.setIfInBounds_toArray, List.set_cons_zero, List.set_cons_succ, i64_w, i32_w]
        rfl
      refine pure_ (i := 8) (N := (some 30)) (v := ?_) (a' := ?_) #[Y,Y,Y,Y,Y,Y,Y,Y,Y,Z] rfl rfl (by kernel_rfl) (fun _ _ _ h => h) (Or.inl ⟨by rfl, ?_⟩) ?_ ?_
      rotate_left
      · intro w'
        go_simp
        with_reducible rfl
      rotate_left
      · simp only [Act.put, List.setIfInBounds_toArray, List.set_cons_zero, List.set_cons_succ, i64_w, i32_w]
        rfl
      refine last_ (i := 9) (N := none) #[Y,Y,Y,Y,Y,Y,Y,Y,Y,Y] rfl rfl (by kernel_rfl) (by decide) (fun K hK => ?_)
      refine skip_ (w1 := w2.drew.setCells s (xa.toNat * 128) (blkCells xb)) (by rfl) rfl (run_store_B (.tmp 30) (.tmp 29) s (xa.toNat * 128) xb HWS.out rfl rfl rfl (by rw [World.there_drew]; exact HTH.out)) ?_
      refine hK.out _ _ ?_
      clear hK K
      refine done_ (by kernel_rfl) ?_
      go_wp2
      have hfin := HO2.out.far (w1 := w2.drew) (fun i _ _ => rfl) |>.store xa xb hw0 (by rw [HL.out]; exact hw1) HWS.out HOK2.out
      rw [← HSU.out] at hfin
      exact ⟨⟨k + 1, by simp, by omega, ⟨hfin.1⟩, ⟨((HC.out.trans (Chg.of_below HV.out.below)).trans (Chg.drew _ _)).trans hfin.2⟩⟩, by simp [intOf]; omega⟩
    · obtain rfl : k = D1.wait.length := by omega
      have hf1 := HO.out.froz 1
      have hcc1 := HO.out.cell1
      have hend := HO.out.forget (by
        have h := syncAt_ok HO1.out.good D1.wait.length
        exact ⟨h.pos, h.most, h.sz, by simp, by simp, h.fuse0, h.fuse1⟩)
      have HE := Aside0.mk hend
      clear hend
      go_wp2
      go_ret
      have h1 := HE.out.1.dev
      have h2 : syncAt D1 D1.wait.length = ⟨D1.wait.foldl putW D1.sure, D1.wait, D1.fuse, D1.off⟩ := by unfold syncAt; rw [List.take_length]
      rw [h2] at h1
      exact ⟨rfl, h1, (H2.out.trans HC.out).trans HE.out.2⟩
end Go.Proofs.Ytgjclhhjigflkab.Dev
