/- The walk of Spoil. -/
import Derived.Test.YtgjclhhjigflkabDevDelete
import Derived.Test.YtgjclhhjigflkabDevWalk4
namespace Go.Proofs.Ytgjclhhjigflkab.Dev
open Go Go.RowKit Go.Proofs.Ytgjclhhjigflkab.MyWords Go.Proofs.Ytgjclhhjigflkab.Hand Go.Proofs.YtgjclhhjigflkabW.PrintWords Go.Proofs.YtgjclhhjigflkabW.PrintLast Go.Proofs.YtgjclhhjigflkabW.PrintMore
set_option linter.unusedVariables false
set_option linter.unusedSimpArgs false
theorem kW_R_of_N {w : World} {base : Nat} {ok : Nat → Prop} {v : Value} {xs : List Wr} (h : Kd.N kW TW w base ok v xs) : kW.R TW w base ok v xs := by
  obtain ⟨hown, rows, hl, ⟨h0, inner, ho, hr⟩, hf⟩ := h
  have hlr : rows.length = xs.length := by omega
  refine ⟨hown, inner, by rw [← hlr]; exact ho, by rw [← hlr]; exact hr.1, fun j p hj => ?_⟩
  have hjl := (List.getElem?_eq_some_iff.1 hj).1
  have hrow : rows[j]? = some (rows[j]'(by omega)) := List.getElem?_eq_getElem (by omega)
  have h1 := hr.2 j _ hrow
  have h2 := Kd.FK_now (hf j p _ hj hrow)
  rw [show (inner.drop (j * kW.sz)).take kW.sz = rows[j]'(by omega) from h1.1]
  exact h2
/-- what stays as it is while the waiting writes are sifted -/
structure SI (w : World) (base g b : Nat) (ok : Nat → Prop) (D : DS) (s c : Nat) (v : Value) (a : Int) (w1 : World) : Prop where
  blk : w1.heap[g]? = some (.cells #[.slice (some ⟨s, 0, none⟩) D.sure.length c, v, .int .i64 D.fuse, .bool D.off] TD (0, 0))
  sure : kB.R TB w1 base (fun k => ok k ∧ some k ≠ v.ownBlock) (.slice (some ⟨s, 0, none⟩) D.sure.length c) D.sure
  box : w1.heap[b]? = some (.cells #[.int .i64 a] 3 (0, 0))
  chg : Chg w w1 ok
theorem SI.below {w w1 w2 : World} {base g b s c : Nat} {ok : Nat → Prop} {D : DS} {v : Value} {a : Int} (h : SI w base g b ok D s c v a w1) (hb : Below w1.heap.size w1 w2) : SI w base g b ok D s c v a w2 :=
  ⟨blk_below h.blk hb, Kd.R_below h.sure hb, blk_below h.box hb, h.chg.trans (Chg.of_below hb)⟩
theorem SI.grown {w w1 w2 : World} {base g b s c : Nat} {ok : Nat → Prop} {D : DS} {v : Value} {a : Int} (h : SI w base g b ok D s c v a w1) (hg : w1.grownBy w2 v.ownBlock) (hng : some g ≠ v.ownBlock) (hnb : some b ≠ v.ownBlock) (ho : ∀ k, v.ownBlock = some k → ok k) : SI w base g b ok D s c v a w2 :=
  ⟨blk_grown h.blk hg hng, Kd.R_step h.sure (fun k hk hl => hg.block k hl hk.2), blk_grown h.box hg hnb, h.chg.trans (Chg.of_grown hg ho)⟩
/-- the closure: is it a write to the block? -/
theorem spoil_fn (x : Wr) (c : List Value) (hx : x.b.size = 128) (hc : c = wrCells x) (b : Nat) (a : Int) (w : World) (hb : w.heap[b]? = some (.cells #[.int .i64 a] 3 (0, 0))) :
    Calls Try.prog 73 #[.agg c.toArray, .pointer (some ⟨b, 0, none⟩)] w fun e w' => e = .returned (.bool (decide (x.at_ = a))) ∧ Below w.heap.size w w' := by
  subst hc
  have hcb : w.cell? ⟨b, 0, none⟩ = some (.int .i64 a) := (cell_of_row w b 0 _ _ _ hb).trans rfl
  obtain ⟨xa, xb⟩ := x
  have hlt : b < w.heap.size := blk_lt hb
  have hcc : (w.alloc (.cells (wrCells ⟨xa, xb⟩).toArray 113 (0, 0))).cell? ⟨w.heap.size, 0, none⟩ = some (.int .i64 xa) := (cell_of_row _ _ 0 _ _ _ (heap_alloc_new w _)).trans rfl
  go_enter Try.func73, Try.ntmps73
  go_wp2_with (first | ((with_reducible refine gate_dst (N := 2) rfl ?_); refine box_event rfl (N := 2) rfl (cs := (wrCells ⟨xa, xb⟩).toArray) (t := 113) ?hr ?_; (case hr => first | (go_simp; done) | (go_simp; rfl)); intro g2 hg2 w2 h2 hB2; have hc2 : w2.cell? ⟨g2, 0, none⟩ = some (.int .i64 xa) := (cell_of_row w2 g2 0 _ _ _ h2).trans rfl; have hcb2 := (hB2.cell (p := ⟨b, 0, none⟩) hlt).trans hcb; have HB2 := Aside0.mk hB2; clear hB2 h2 hg2 hcc))
  go_ret
  refine ⟨?_, HB2.out⟩
  have e1 : decide (xa = a) = (xa == a) := by rw [Bool.eq_iff_iff]; simp
  show Ending.returned (Value.bool (xa == a)) = Ending.returned (Value.bool (decide (xa = a)))
  rw [e1]
theorem spoil_no {base : Nat} {ok : Nat → Prop} {g : Nat} {D : DS} {w : World} (a : Int) (s : ByteArray) (hs : s.size ≤ 9223372036854775807) (H : Dev w base ok g D) (h : ¬ (hasD D a = true ∧ s.size = 128)) :
    Calls Try.prog 29 #[.pointer (some ⟨g, 0, none⟩), .int .i64 a, .string s] w fun e w' => e = .returned (.int .i64 1) ∧ Below w.heap.size w w' := by
  obtain ⟨s0, c, A, c1, hO⟩ := H.open_
  have hc0 := hO.cell0
  have hn := hO.good.pos
  have hgl : g < w.heap.size := H.lt
  clear H hO
  cases hhas : hasD D a with
  | false =>
    have HDEC := Aside0.mk (show decide (0 ≤ a ∧ a < (D.sure.length : Int)) = false from hhas)
    clear hhas h
    go_enter Try.func29, Try.ntmps29
    go_wp2_with (first | ((with_reducible refine gate_dst (N := 4) rfl ?_); refine box_event rfl (N := 4) rfl (cs := #[.int .i64 a]) (t := 3) ?hr ?_; (case hr => first | (go_simp; done) | (go_simp; rfl)); intro b hgb w1 hb1 hB1; have hcb := (cell_of_row w1 b 0 _ _ _ hb1).trans rfl; have hc01 := (hB1.cell (p := ⟨g, 0, none⟩) hgl).trans hc0; have HB1 := Aside0.mk hB1; clear hB1 hb1 hgb) | (go_at_call 64; refine (has_some g s0 _ c a false _ hc01 hn HDEC.out).mono ?_; rintro e w' ⟨rfl, rfl⟩))
    go_ret
    exact ⟨rfl, HB1.out⟩
  | true =>
    have HDEC := Aside0.mk (show decide (0 ≤ a ∧ a < (D.sure.length : Int)) = true from hhas)
    have hne : ¬ s.size = 128 := fun e => h ⟨hhas, e⟩
    have hne2 : ((s.size : Int) != 128) = true := by simp; omega
    clear hhas h
    go_enter Try.func29, Try.ntmps29
    go_wp2_with (first | ((with_reducible refine gate_dst (N := 4) rfl ?_); refine box_event rfl (N := 4) rfl (cs := #[.int .i64 a]) (t := 3) ?hr ?_; (case hr => first | (go_simp; done) | (go_simp; rfl)); intro b hgb w1 hb1 hB1; have hcb := (cell_of_row w1 b 0 _ _ _ hb1).trans rfl; have hc01 := (hB1.cell (p := ⟨g, 0, none⟩) hgl).trans hc0; have HB1 := Aside0.mk hB1; clear hB1 hb1 hgb) | (go_at_call 64; refine (has_some g s0 _ c a true _ hc01 hn HDEC.out).mono ?_; rintro e w' ⟨rfl, rfl⟩))
    go_ret
    exact ⟨rfl, HB1.out⟩
set_option maxHeartbeats 1000000 in
set_option maxRecDepth 100000 in
theorem spoil_yes {base : Nat} {ok : Nat → Prop} {g : Nat} {D : DS} {w : World} (a : Int) (s : ByteArray) (H : Dev w base ok g D) (hhas : hasD D a = true) (hs : s.size = 128) (hl : D.wait.length ≤ 1000000) :
    Calls Try.prog 29 #[.pointer (some ⟨g, 0, none⟩), .int .i64 a, .string s] w fun e w' => e = .returned (.int .i64 0) ∧ Dev w' base ok g ⟨D.sure.set a.toNat s, D.wait.filter (fun w => !decide (w.at_ = a)), D.fuse, D.off⟩ ∧ Chg w w' ok := by
  obtain ⟨s0, c, A, c1, hO⟩ := H.open_
  have hc0 := hO.cell0
  have hn := hO.good.pos
  have hgl : g < w.heap.size := H.lt
  have HO := Aside0.mk hO
  have HOK : Aside0 (Ok (⟨D.sure.set a.toNat s, D.wait.filter (fun w => !decide (w.at_ = a)), D.fuse, D.off⟩ : DS)) := ⟨by
    have := spoil_ok hO.good a s
    unfold spoilD at this
    rw [if_pos ⟨hhas, hs⟩] at this
    exact this⟩
  have h01 := has_iff.1 hhas
  have ha0 := h01.1
  have ha1 := h01.2
  clear H hO h01
  have HDEC := Aside0.mk (show decide (0 ≤ a ∧ a < (D.sure.length : Int)) = true from hhas)
  have hne2 : ((s.size : Int) != 128) = false := by simp; omega
  have hs2 : s.size ≤ 9223372036854775807 := by omega
  have HS := Aside0.mk hs
  clear hhas hs
  go_enter Try.func29, Try.ntmps29
  go_wp2_with (first | ((with_reducible refine gate_dst (N := 4) rfl ?_); refine box_event rfl (N := 4) rfl (cs := #[.int .i64 a]) (t := 3) ?hr ?_; (case hr => first | (go_simp; done) | (go_simp; rfl)); intro b hgb w1 hb1 hB1; have hcb := (cell_of_row w1 b 0 _ _ _ hb1).trans rfl; have hc01 := (hB1.cell (p := ⟨g, 0, none⟩) hgl).trans hc0; have HB1 := Aside0.mk hB1; have HBX := Aside0.mk hb1; have HGB := Aside0.mk hgb; clear hB1 hb1 hgb hc0) | (go_at_call 64; refine (has_some g s0 _ c a true _ hc01 hn HDEC.out).mono ?_; rintro e w' ⟨rfl, rfl⟩))
  have HO1 := Aside0.mk (HO.out.far (fun i _ hi => HB1.out.block i hi))
  have HTH := Aside0.mk (HO1.out.there a ha0 ha1)
  have HC0 := Aside0.mk hc01
  have HCB := Aside0.mk hcb
  have hsl := run_slice_B ⟨s0, a.toNat * 128, none⟩
  clear hc01 hcb
  refine start_ (n := 9) (S := fun w' => w'.cell? ⟨g, 0, none⟩ = some (.slice (some ⟨s0, 0, none⟩) D.sure.length c) ∧ w'.cell? ⟨b, 0, none⟩ = some (.int .i64 a)) (ds := [8]) #[Z,Z,Z,Z,Z,Z,Z,Z,Z] (by kernel_rfl) rfl rfl (⟨HC0.out, HCB.out⟩) (fun hHeld => ?_)
  refine pure_ (i := 0) (N := (some 16)) (v := ?_) (a' := ?_) #[Y,Z,Z,Z,Z,Z,Z,Z,Z] rfl rfl (by kernel_rfl) (fun _ _ _ h => h) (Or.inl ⟨by rfl, ?_⟩) ?_ ?_
  rotate_left
  · intro w'
    go_simp
    with_reducible rfl
  rotate_left
  · simp only [Act.put, List.setIfInBounds_toArray, List.set_cons_zero, List.set_cons_succ, i64_w, i32_w]
    rfl
  refine pure_ (i := 1) (N := (some 17)) (v := ?_) (a' := ?_) #[Y,Y,Z,Z,Z,Z,Z,Z,Z] rfl rfl (by kernel_rfl) (fun _ _ _ h => h) (Or.inl ⟨by rfl, ?_⟩) ?_ ?_
  rotate_left
  · intro w'
    go_simp
    with_reducible rfl
  rotate_left
  · simp only [Act.put, List.setIfInBounds_toArray, List.set_cons_zero, List.set_cons_succ, i64_w, i32_w]
    rfl
  refine pure_ (i := 2) (N := (some 18)) (v := ?_) (a' := ?_) #[Y,Y,Y,Z,Z,Z,Z,Z,Z] rfl rfl (by kernel_rfl) (fun _ _ _ h => h) (Or.inl ⟨by rfl, ?_⟩) ?_ ?_
  rotate_left
  · intro w'
    go_simp
    with_reducible rfl
  rotate_left
  · simp only [Act.put, List.setIfInBounds_toArray, List.set_cons_zero, List.set_cons_succ, i64_w, i32_w]
    rfl
  refine take_ (i := 3) (N := (some 19)) (v := ?_) (a' := ?_) #[Y,Y,Y,Y,Z,Z,Z,Z,Z] rfl rfl (by kernel_rfl) (fun _ _ _ h => h) (Or.inl ⟨by rfl, ?_⟩) hHeld ?_ ?_
  rotate_left
  · intro w' s0
    go_simp
    with_reducible rfl
  rotate_left
  · simp only [Act.put, List.setIfInBounds_toArray, List.set_cons_zero, List.set_cons_succ, i64_w, i32_w]
    rfl
  refine take_ (i := 4) (N := (some 20)) (v := ?_) (a' := ?_) #[Y,Y,Y,Y,Y,Z,Z,Z,Z] rfl rfl (by kernel_rfl) (fun _ _ _ h => h) (Or.inl ⟨by rfl, ?_⟩) hHeld ?_ ?_
  rotate_left
  · intro w' s0
    go_simp
    with_reducible rfl
  rotate_left
  · simp only [Act.put, List.setIfInBounds_toArray, List.set_cons_zero, List.set_cons_succ, i64_w, i32_w]
    rfl
  refine pure_ (i := 5) (N := (some 21)) (v := ?_) (a' := ?_) #[Y,Y,Y,Y,Y,Y,Z,Z,Z] rfl rfl (by kernel_rfl) (fun _ _ _ h => h) (Or.inl ⟨by rfl, ?_⟩) ?_ ?_
  rotate_left
  · intro w'
    go_simp
    with_reducible rfl
  rotate_left
  · simp only [Act.put, List.setIfInBounds_toArray, List.set_cons_zero, List.set_cons_succ, i64_w, i32_w]
    rfl
  refine pure_ (i := 6) (N := (some 22)) (v := ?_) (a' := ?_) #[Y,Y,Y,Y,Y,Y,Y,Z,Z] rfl rfl (by kernel_rfl) (fun _ _ _ h => h) (Or.inl ⟨by rfl, ?_⟩) ?_ ?_
  rotate_left
  · intro w'
    go_simp
    with_reducible rfl
  rotate_left
  · simp only [Act.put, List.setIfInBounds_toArray, List.set_cons_zero, List.set_cons_succ, i64_w, i32_w]
    rfl
  refine pure_ (i := 7) (N := (some 23)) (v := ?_) (a' := ?_) #[Y,Y,Y,Y,Y,Y,Y,Y,Z] rfl rfl (by kernel_rfl) (fun _ _ _ h => h) (Or.inl ⟨by rfl, ?_⟩) ?_ ?_
  rotate_left
  · intro w'
    go_simp
    with_reducible rfl
  rotate_left
  · simp only [Act.put, List.setIfInBounds_toArray, List.set_cons_zero, List.set_cons_succ, i64_w, i32_w]
    rfl
  refine last_ (i := 8) (N := (some 24)) #[Y,Y,Y,Y,Y,Y,Y,Y,Y] rfl rfl (by kernel_rfl) (by decide) (fun K hK => ?_)
  refine step_copy_string rfl (.tmp 22) (.tmp 23) 115 9 rfl 5 Try.underlying115 (fun w => by kernel_rfl) s0 (a.toNat * 128) 128 128 rfl s rfl (by rw [HS.out]; exact Nat.le_refl _) (fun j hj => by have := HTH.out j (by rw [HS.out] at hj; exact hj); exact this.1) (fun j hj => by have := HTH.out j (by rw [HS.out] at hj; exact hj); exact this.2) ?_
  refine hK.out _ _ ?_
  clear hK K
  refine norm_ (a' := ?_) ?_ ?_
  rotate_left
  · show Act.put _ (some 24) _ = _
    simp only [Act.put, List.setIfInBounds_toArray, List.set_cons_zero, List.set_cons_succ, i64_w, i32_w]
    rfl
  refine done_ (by kernel_rfl) ?_
  clear HC0 HCB hsl HTH
  obtain ⟨w2, hw2⟩ : ∃ w2, w2 = w1.drew.setCells s0 (a.toNat * 128) (s.data.toList.map fun x => Value.int .u8 (x.toNat : Int)) := ⟨_, rfl⟩
  rw [← hw2]
  have hOw : Op w2 base ok g ⟨D.sure.set a.toNat s, D.wait, D.fuse, D.off⟩ s0 c A c1 ∧ Chg w1.drew w2 ok := by
    rw [hw2]
    have h := (HO1.out.far (w1 := w1.drew) (fun i _ _ => rfl)).store a s ha0 ha1 HS.out (by
      have h0 := HO.out.good
      have h1 := HOK.out
      exact ⟨h1.pos, h1.most, h1.sz, h0.wsz, fun x hx => by rw [List.length_set]; exact h0.wat x hx, h0.fuse0, h0.fuse1⟩)
    rw [← byteCells_blk] at h
    exact h
  obtain ⟨hO2, hC2⟩ := hOw
  have hs0 : s0 < w.heap.size := Kd.R_lt HO.out.sure s0 rfl
  have hbox2 : w2.heap[b]? = some (.cells #[.int .i64 a] 3 (0, 0)) := by
    rw [hw2, setCells_far _ _ b (by have := HGB.out; omega)]
    exact HBX.out
  have hnb : some b ≠ (Value.slice A D.wait.length c1).ownBlock := fun e => by have := Kd.R_lt HO.out.wait b e.symm; have := HGB.out; omega
  have hng : some g ≠ (Value.slice A D.wait.length c1).ownBlock := Kd.R_ne HO.out.wait HO.out.blk (by decide)
  have hns : (Value.slice (some ⟨s0, 0, none⟩) D.sure.length c).ownBlock ≠ (Value.slice A D.wait.length c1).ownBlock ∨ False := by
    left
    obtain ⟨i1, ho1⟩ := Kd.R_own HO.out.sure
    obtain ⟨i2, ho2⟩ := Kd.R_own HO.out.wait
    intro e
    have := ne_types ho1 ho2 (by decide) s0 rfl
    exact this (by rw [← e]; rfl)
  have hns1 := hns.resolve_right id
  have hSI : SI w base g b ok ⟨D.sure.set a.toNat s, D.wait, D.fuse, D.off⟩ s0 c (.slice A D.wait.length c1) a w2 := by
    refine ⟨hO2.blk, Kd.R_mono (Kd.R_tight rfl hO2.sure) (fun k hk => ⟨hO2.sure.1 k hk.symm, fun e => hns1 ?_⟩), hbox2, ((Chg.of_below HB1.out).trans (Chg.drew _ _)).trans hC2⟩
    rw [← e, hk]
    rfl
  have HSI := Aside0.mk hSI
  have HN := Aside0.mk (Kd.R_N hO2.wait)
  have HNB := Aside0.mk hnb
  have HNG := Aside0.mk hng
  have HOW := Aside0.mk HO.out.wait.1
  have hbase : base ≤ w2.heap.size := by have := hO2.bg; have := blk_lt hO2.blk; omega
  have hc1 := hO2.cell1
  have HWS := Aside0.mk HO.out.good.wsz
  have HOKG := Aside0.mk HO.out.okg
  have HBG := Aside0.mk HO.out.bg
  clear hSI hnb hng hns hns1 hbox2 hO2 hC2 hs0 hw2 HO HO1 HB1 HBX HGB
  go_wp2_with fail
  refine (delete_wr _ (fun x => decide (x.at_ = a)) (SI w base g b ok ⟨D.sure.set a.toNat s, D.wait, D.fuse, D.off⟩ s0 c (.slice A D.wait.length c1) a) (fun _ _ h hb => h.below hb) base ok w2 w2 A c1 D.wait HN.out (Below.refl _ _) hbase hl HSI.out (fun _ _ h hg => h.grown hg HNG.out HNB.out HOW.out) ?hcl).mono ?_
  case hcl => intro i hi c2 w5 hI hcl2 hk2; exact CallsV.of Try.func73 (by kernel_rfl) rfl (spoil_fn (D.wait[i]) c2 (HWS.out _ (List.getElem_mem hi)) hk2.2 b a w5 hI.box)
  rintro e w3 ⟨v3, rfl, hn3, hb3, hi3⟩
  obtain ⟨A3, c3, rfl⟩ := Kd.N_slice hn3
  have HN3 := Aside0.mk hn3
  have HI3 := Aside0.mk hi3
  have hc3 : w3.cell? ⟨g, 1, none⟩ = some (.slice A D.wait.length c1) := (cell_of_row w3 g 1 _ _ _ hi3.blk).trans rfl
  have hf3 := frozen_of_row w3 g 1 _ _ hi3.blk
  clear hn3 hb3 hi3 hc1
  go_wp2_with fail
  go_ret
  refine ⟨rfl, ⟨HOKG.out, HBG.out, HOK.out, _, _, (heap_setCell_same w3 g 1 _ _ _ HI3.out.blk).trans rfl, ?_, ?_⟩, HI3.out.chg.trans (Chg.setCell w3 g 1 _ HOKG.out)⟩
  · exact Kd.R_set (Kd.R_mono HI3.out.sure (fun k hk => hk.1)) HI3.out.blk (by intro q hq; simp [kB] at hq; subst hq; decide) 1 _
  · exact Kd.R_set (kW_R_of_N HN3.out) HI3.out.blk (by intro q hq; simp [kW] at hq; subst hq; decide) 1 _
theorem spoil_calls {base : Nat} {ok : Nat → Prop} {g : Nat} {D : DS} {w : World} (a : Int) (s : ByteArray) (hs : s.size ≤ 9223372036854775807) (hl : D.wait.length ≤ 1000000) (H : Dev w base ok g D) :
    Calls Try.prog 29 #[.pointer (some ⟨g, 0, none⟩), .int .i64 a, .string s] w fun e w' => e = .returned (.int .i64 (spoilD D a s).2) ∧ Dev w' base ok g (spoilD D a s).1 ∧ Chg w w' ok := by
  by_cases h : hasD D a = true ∧ s.size = 128
  · unfold spoilD
    rw [if_pos h]
    exact spoil_yes a s H h.1 h.2 hl
  · refine (spoil_no a s hs H h).mono ?_
    rintro e w' ⟨rfl, hb⟩
    unfold spoilD
    rw [if_neg h]
    exact ⟨rfl, H.below hb, Chg.of_below hb⟩
end Go.Proofs.Ytgjclhhjigflkab.Dev
