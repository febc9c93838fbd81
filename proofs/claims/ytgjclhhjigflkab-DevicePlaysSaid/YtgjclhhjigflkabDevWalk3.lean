/- The walk of Write. -/
import Derived.Test.YtgjclhhjigflkabDevWalk2
namespace Go.Proofs.Ytgjclhhjigflkab.Dev
open Go Go.RowKit Go.Proofs.Ytgjclhhjigflkab.MyWords Go.Proofs.Ytgjclhhjigflkab.Hand Go.Proofs.YtgjclhhjigflkabW.PrintWords Go.Proofs.YtgjclhhjigflkabW.PrintLast Go.Proofs.YtgjclhhjigflkabW.PrintMore
set_option linter.unusedVariables false
set_option linter.unusedSimpArgs false
theorem write_no {base : Nat} {ok : Nat → Prop} {g : Nat} {D : DS} {w : World} (a : Int) (s : ByteArray) (hs : s.size ≤ 9223372036854775807) (H : Dev w base ok g D) (h : ¬ (hasD D a = true ∧ s.size = 128)) :
    Calls Try.prog 18 #[.pointer (some ⟨g, 0, none⟩), .int .i64 a, .string s] w fun e w' => e = .returned (.int .i64 1) ∧ w = w' := by
  obtain ⟨s0, c, A, c1, hO⟩ := H.open_
  have hc0 := hO.cell0
  have hn := hO.good.pos
  clear H hO
  cases hhas : hasD D a with
  | false =>
    have HDEC := Aside0.mk (show decide (0 ≤ a ∧ a < (D.sure.length : Int)) = false from hhas)
    clear hhas h
    go_enter Try.func18, Try.ntmps18
    go_wp2_with (first | (go_at_call 64; refine (has_some g s0 _ c a false _ hc0 hn HDEC.out).mono ?_; rintro e w' ⟨rfl, rfl⟩))
    go_ret
    exact ⟨rfl, rfl⟩
  | true =>
    have HDEC := Aside0.mk (show decide (0 ≤ a ∧ a < (D.sure.length : Int)) = true from hhas)
    have hne : ¬ s.size = 128 := fun e => h ⟨hhas, e⟩
    have hne2 : ((s.size : Int) != 128) = true := by simp; omega
    clear hhas h
    go_enter Try.func18, Try.ntmps18
    go_wp2_with (first | (go_at_call 64; refine (has_some g s0 _ c a true _ hc0 hn HDEC.out).mono ?_; rintro e w' ⟨rfl, rfl⟩))
    go_ret
    exact ⟨rfl, rfl⟩
theorem write_off {base : Nat} {ok : Nat → Prop} {g : Nat} {D : DS} {w : World} (a : Int) (s : ByteArray) (H : Dev w base ok g D) (hhas : hasD D a = true) (hs : s.size = 128) (hd : (doesD D).2 = false) :
    Calls Try.prog 18 #[.pointer (some ⟨g, 0, none⟩), .int .i64 a, .string s] w fun e w' => e = .returned (.int .i64 40) ∧ Dev w' base ok g (doesD D).1 ∧ Chg w w' ok := by
  obtain ⟨s0, c, A, c1, hO⟩ := H.open_
  have hc0 := hO.cell0
  have hn := hO.good.pos
  have HH := Aside0.mk H
  clear H hO
  have HDEC := Aside0.mk (show decide (0 ≤ a ∧ a < (D.sure.length : Int)) = true from hhas)
  have hne2 : ((s.size : Int) != 128) = false := by simp; omega
  have hs2 : s.size ≤ 9223372036854775807 := by omega
  have HD := Aside0.mk hd
  clear hhas hs hd
  go_enter Try.func18, Try.ntmps18
  go_wp2_with (first | (go_at_call 64; refine (has_some g s0 _ c a true _ hc0 hn HDEC.out).mono ?_; rintro e w' ⟨rfl, rfl⟩) | (go_at_call 63; refine (does_calls HH.out).mono ?_; rintro e w1 ⟨rfl, h1, h2⟩; rw [HD.out]; have H1 := Aside0.mk h1; have H2 := Aside0.mk h2; clear h1 h2))
  go_ret
  exact ⟨rfl, H1.out, H2.out⟩
/-- behind the append and the store of the waiting writes -/
theorem write_end {w1 W w5 : World} {base g s1 c3 c4 : Nat} {ok ok' : Nat → Prop} {A1 : Option Addr} {D1 : DS} {x : Wr} {v5 : Value} (HO : Op w1 base ok g D1 s1 c3 A1 c4) (hb : Below w1.heap.size w1 W) (hR : kW.R TW w5 base ok' v5 (D1.wait ++ [x]))
    (hG : W.grownBy w5 (Value.slice A1 D1.wait.length c4).ownBlock) (hD : Ok (⟨D1.sure, D1.wait ++ [x], D1.fuse, D1.off⟩ : DS)) (hok : ∀ k, ok k → ok' k) :
    Dev (w5.setCell ⟨g, 1, none⟩ v5) base ok' g ⟨D1.sure, D1.wait ++ [x], D1.fuse, D1.off⟩ ∧ Chg w1 (w5.setCell ⟨g, 1, none⟩ v5) ok := by
  have hgl : g < w1.heap.size := (Array.getElem?_eq_some_iff.1 HO.blk).1
  have hne : some g ≠ (Value.slice A1 D1.wait.length c4).ownBlock := Kd.R_ne HO.wait HO.blk (by decide)
  have hbW : W.heap[g]? = _ := (hb.block g hgl).trans HO.blk
  have hb5 : w5.heap[g]? = _ := (hG.block g (Nat.lt_of_lt_of_le hgl hb.size) hne).trans hbW
  have hs5 : kB.R TB w5 base ok _ D1.sure := Kd.R_over (Kd.R_below HO.sure hb) (Kd.R_below HO.wait hb) (by intro q hq; simp [kB] at hq; subst hq; decide) hG
  refine ⟨⟨hok _ HO.okg, HO.bg, hD, _, v5, (heap_setCell_same w5 g 1 _ _ _ hb5).trans rfl, Kd.R_mono (Kd.R_set hs5 hb5 (by intro q hq; simp [kB] at hq; subst hq; decide) 1 _) hok, Kd.R_set hR hb5 (by intro q hq; simp [kW] at hq; subst hq; decide) 1 _⟩, ?_⟩
  exact ((Chg.of_below hb).trans (Chg.of_grown hG (fun k hk => HO.wait.1 k hk))).trans (Chg.setCell w5 g 1 v5 HO.okg)
set_option maxHeartbeats 1000000 in
set_option maxRecDepth 100000 in
theorem write_yes {base : Nat} {ok : Nat → Prop} {g : Nat} {D : DS} {w : World} (a : Int) (s : ByteArray) (H : Dev w base ok g D) (hhas : hasD D a = true) (hs : s.size = 128) (hd : (doesD D).2 = true) (hl : D.wait.length ≤ 1000000) :
    Calls Try.prog 18 #[.pointer (some ⟨g, 0, none⟩), .int .i64 a, .string s] w fun e w' => e = .returned (.int .i64 0) ∧ Dev w' base (fun k => ok k ∨ w.heap.size ≤ k) g ⟨(doesD D).1.sure, (doesD D).1.wait ++ [⟨a, s⟩], (doesD D).1.fuse, (doesD D).1.off⟩ ∧ Chg w w' ok := by
  obtain ⟨s0, c, A, c1, hO⟩ := H.open_
  have hc0 := hO.cell0
  have hn := hO.good.pos
  have HH := Aside0.mk H
  have hlen : (doesD D).1.wait.length ≤ 1000000 := by rw [(does_sure D).2]; exact hl
  have hok : Ok (⟨(doesD D).1.sure, (doesD D).1.wait ++ [⟨a, s⟩], (doesD D).1.fuse, (doesD D).1.off⟩ : DS) := by
    have := write_ok hO.good a s
    unfold writeD at this
    rw [if_pos ⟨hhas, hs⟩, if_pos hd] at this
    exact this
  have HOK := Aside0.mk hok
  have hgl : g < w.heap.size := H.lt
  clear H hO hok
  have HDEC := Aside0.mk (show decide (0 ≤ a ∧ a < (D.sure.length : Int)) = true from hhas)
  have hne2 : ((s.size : Int) != 128) = false := by simp; omega
  have hs2 : s.size ≤ 9223372036854775807 := by omega
  have HD := Aside0.mk hd
  have HS := Aside0.mk hs
  clear hhas hs hd hl
  obtain ⟨D1, hD1⟩ : ∃ D1, (doesD D).1 = D1 := ⟨_, rfl⟩
  rw [hD1] at hlen HOK ⊢
  have HD1 := Aside0.mk hD1
  clear hD1
  go_enter Try.func18, Try.ntmps18
  go_wp2_with (first | (go_at_call 64; refine (has_some g s0 _ c a true _ hc0 hn HDEC.out).mono ?_; rintro e w' ⟨rfl, rfl⟩) | (go_at_call 63; refine (does_calls HH.out).mono ?_; rintro e w1 ⟨rfl, h1, h2⟩; rw [HD.out]; rw [HD1.out] at h1; clear hc0; have H2 := Aside0.mk h2; obtain ⟨s1, c3, A1, c4, hO1⟩ := h1.open_; have HO1 := Aside0.mk hO1; clear h1 h2 hO1) | ((with_reducible refine gate_dst (N := 23) rfl ?_); refine Kd.event_run rfl (run_build_W (.tmp 22) a rfl rfl) ?_) | ((with_reducible refine gate_dst (N := 7) rfl ?_); refine alloc_event rfl (N := 7) rfl (run_alloc_W rfl) ?_; intro g7 w2 hg7 hA7 hB7 hS7) | ((with_reducible refine gate_store (t := TW) (p := .tmp 7) (x := .tmp 23) rfl ?_); refine row_store_event rfl TW (.tmp 7) (.tmp 23) rfl g7 (wrCells ⟨a, zeroB⟩).toArray rfl rfl TW _ hA7.out (by rw [List.size_toArray, wrCells, List.length_cons, blkCells_len, zeroB_size]; exact size_W) (by rw [List.size_toArray, List.size_toArray, wrCells, wrCells, List.length_cons, List.length_cons]) (all_one (wrCells_one _)) ?_; intro w3 hs3; have HS3 := Aside0.mk hs3; clear hs3; have hsl := run_slice_B ⟨g7, 1, none⟩) | ((with_reducible refine gate_dst (N := 27) rfl ?_); refine copy_event rfl (.tmp 25) (.tmp 26) rfl g7 a zeroB s rfl rfl HS.out zeroB_size HS3.out.at_ ?_; intro w4 hs4; have HS4 := Aside0.mk hs4; clear hs4 hsl))
  simp only [Act.put, List.setIfInBounds_toArray, List.set_cons_zero, List.set_cons_succ]
  have hb3 := HS3.out.below (B := w1.heap.size) hB7.out (by rw [hg7.out]; exact Nat.le_refl _)
  have hb4 := HS4.out.below (B := w1.heap.size) hb3 (by rw [hg7.out]; exact Nat.le_refl _)
  have hgl1 : g < w1.heap.size := (Array.getElem?_eq_some_iff.1 HO1.out.blk).1
  have hc1 := (hb4.cell (p := ⟨g, 1, none⟩) hgl1).trans HO1.out.cell1
  have hne : some g ≠ (Value.slice A1 D1.wait.length c4).ownBlock := Kd.R_ne HO1.out.wait HO1.out.blk (by decide)
  have hne7 : some g7 ≠ (Value.slice A1 D1.wait.length c4).ownBlock := fun e => by have := Kd.R_lt HO1.out.wait g7 e.symm; have := hg7.out; omega
  have hg74 : g7 < w4.heap.size := (Array.getElem?_eq_some_iff.1 HS4.out.at_).1
  have hr7 : w4.rangeAt g7 0 (wrCells ⟨a, s⟩) := fun j v hv => by rw [cell_of_row w4 g7 _ _ _ _ HS4.out.at_]; simpa using hv
  have hRW := Kd.R_mono (ok' := fun k => ok k ∨ w.heap.size ≤ k) (Kd.R_drew (Kd.R_below HO1.out.wait hb4)) (fun k hk => .inl hk)
  have HRW := Aside0.mk hRW
  have HB4 := Aside0.mk hb4
  have HR7 := Aside0.mk hr7
  have HN := Aside0.mk hne
  have HN7 := Aside0.mk hne7
  have hsz2 : w.heap.size ≤ w4.heap.size := Nat.le_trans H2.out.size hb4.size
  have hbase : base ≤ w4.heap.size := by have := HO1.out.bg; have := hb4.size; omega
  have HC1 := Aside0.mk hc1
  clear hb3 hb4 hRW hr7 hne hne7 hc1
  refine start_ (n := 11) (S := fun w' => w'.cell? ⟨g, 1, none⟩ = some (.slice A1 D1.wait.length c4) ∧ w'.rangeAt g7 0 (wrCells ⟨a, s⟩)) (ds := [10]) #[Z,Z,Z,Z,Z,Z,Z,Z,Z,Z,Z] (by kernel_rfl) rfl rfl (⟨HC1.out, by rw [World.rangeAt_drew]; exact HR7.out⟩) (fun hHeld => ?_)
  refine pure_ (i := 0) (N := (some 28)) (v := ?_) (a' := ?_) #[Y,Z,Z,Z,Z,Z,Z,Z,Z,Z,Z] rfl rfl (by kernel_rfl) (fun _ _ _ h => h) (Or.inl ⟨by rfl, ?_⟩) ?_ ?_
  rotate_left
  · intro w'
    go_simp
    with_reducible rfl
  rotate_left
  · simp only [Act.put, List.setIfInBounds_toArray, List.set_cons_zero, List.set_cons_succ, i64_w, i32_w]
    rfl
  refine pure_ (i := 1) (N := (some 29)) (v := ?_) (a' := ?_) #[Y,Y,Z,Z,Z,Z,Z,Z,Z,Z,Z] rfl rfl (by kernel_rfl) (fun _ _ _ h => h) (Or.inl ⟨by rfl, ?_⟩) ?_ ?_
  rotate_left
  · intro w'
    go_simp
    with_reducible rfl
  rotate_left
  · simp only [Act.put, List.setIfInBounds_toArray, List.set_cons_zero, List.set_cons_succ, i64_w, i32_w]
    rfl
  refine pure_ (i := 2) (N := (some 30)) (v := ?_) (a' := ?_) #[Y,Y,Y,Z,Z,Z,Z,Z,Z,Z,Z] rfl rfl (by kernel_rfl) (fun _ _ _ h => h) (Or.inl ⟨by rfl, ?_⟩) ?_ ?_
  rotate_left
  · intro w'
    go_simp
    with_reducible rfl
  rotate_left
  · simp only [Act.put, List.setIfInBounds_toArray, List.set_cons_zero, List.set_cons_succ, i64_w, i32_w]
    rfl
  refine pure_ (i := 3) (N := (some 31)) (v := ?_) (a' := ?_) #[Y,Y,Y,Y,Z,Z,Z,Z,Z,Z,Z] rfl rfl (by kernel_rfl) (fun _ _ _ h => h) (Or.inl ⟨by rfl, ?_⟩) ?_ ?_
  rotate_left
  · intro w'
    go_simp
    with_reducible rfl
  rotate_left
  · simp only [Act.put, List.setIfInBounds_toArray, List.set_cons_zero, List.set_cons_succ, i64_w, i32_w]
    rfl
  refine take_ (i := 4) (N := (some 32)) (v := ?_) (a' := ?_) #[Y,Y,Y,Y,Y,Z,Z,Z,Z,Z,Z] rfl rfl (by kernel_rfl) (fun _ _ _ h => h) (Or.inl ⟨by rfl, ?_⟩) hHeld ?_ ?_
  rotate_left
  · intro w' s0
    go_simp
    with_reducible rfl
  rotate_left
  · simp only [Act.put, List.setIfInBounds_toArray, List.set_cons_zero, List.set_cons_succ, i64_w, i32_w]
    rfl
  refine take_ (i := 5) (N := (some 33)) (v := .agg (wrCells ⟨a, s⟩).toArray) (a' := ?_) #[Y,Y,Y,Y,Y,Y,Z,Z,Z,Z,Z] rfl rfl (by kernel_rfl) (fun _ _ _ h => h) (yieldsIf_load_mid (by rfl) 113 (.tmp 7) rfl g7 0 rfl (wrCells ⟨a, s⟩) _ (fun w (h : _ ∧ _) => h.2) Try.underlying113 rfl (by rw [wrCells_len, HS.out]; exact size_W)) hHeld ?_ ?_
  rotate_left
  · simp only [Act.put, List.setIfInBounds_toArray, List.set_cons_zero, List.set_cons_succ, i64_w, i32_w]
    rfl
  refine one_ (i := 6) (N := (some 34)) #[Y,Y,Y,Y,Y,Y,Y,Z,Z,Z,Z] rfl rfl (by kernel_rfl) (by decide) (fun K hK => ?_)
  refine value_ (w1 := w4.drew.alloc (.cells (wrCells ⟨a, s⟩).toArray TW (0, 0))) (v := .slice (some ⟨w4.drew.heap.size, 0, none⟩) 1 1) (by rfl) rfl (run_slice1_W (.tmp 33) a s HS.out rfl rfl) ?_
  refine hK.out _ _ ⟨(World.cell?_alloc_lt w4.drew _ _ (World.block_lt_of_cell? w4 _ HC1.out)).trans HC1.out, World.rangeAt_alloc (by rw [World.rangeAt_drew]; exact HR7.out) _⟩ (fun hHeld => ?_)
  clear hK K
  refine norm_ (a' := ?_) ?_ ?_
  rotate_left
  · show Act.put _ (some 34) _ = _
    simp only [Act.put, List.setIfInBounds_toArray, List.set_cons_zero, List.set_cons_succ, i64_w, i32_w]
    rfl
  refine one_ (i := 7) (N := (some 35)) #[Y,Y,Y,Y,Y,Y,Y,Y,Z,Z,Z] rfl rfl (by kernel_rfl) (by decide) (fun K hK => ?_)
  refine Kd.R_append_step kW (w0 := w4) base (by rfl) (.tmp 32) (.tmp 34) 54 TW _ 136 rfl Try.underlying54 info_W (by rw [← Array.length_toList]; exact wrCells_len _ _) (by decide) (by decide) _ D1.wait ⟨a, s⟩ (wrCells ⟨a, s⟩) (fun k => ok k ∨ w.heap.size ≤ k) (fun _ => False) rfl rfl ⟨HS.out, rfl⟩ (fun _ hk => hk.elim) (fun k hk => .inr (Nat.le_trans hsz2 hk)) HRW.out (below_drew (Below.refl _ _)) hbase (by omega) ?_
  intro v5 w5 hR5 hB5 hG5 hat5
  obtain ⟨A5, c5, rfl⟩ := Kd.R_slice hR5
  have hc5 := cell_grown hG5 (a := ⟨g, 1, none⟩) HC1.out HN.out
  have hblk5 := (hG5.block g7 hg74 HN7.out).trans HS4.out.at_
  have hb5 : ∃ cells, w5.heap[g]? = some (.cells cells TD (0, 0)) := ⟨_, (hG5.block g (Nat.lt_of_lt_of_le hgl1 HB4.out.size) HN.out).trans ((HB4.out.block g hgl1).trans HO1.out.blk)⟩
  obtain ⟨cs5, hb5⟩ := hb5
  have hf5 := frozen_of_row w5 g 1 cs5 TD hb5
  have HR5 := Aside0.mk hR5
  have HG5 := Aside0.mk hG5
  refine hK.out _ _ ⟨hc5, fun j v hv => by rw [cell_of_row w5 g7 _ _ _ _ hblk5]; simpa using hv⟩ (fun hHeld => ?_)
  clear hR5 hB5 hG5 hat5 hb5
  clear hK K
  refine norm_ (a' := ?_) ?_ ?_
  rotate_left
  · show Act.put _ (some 35) _ = _
    simp only [Act.put, List.setIfInBounds_toArray, List.set_cons_zero, List.set_cons_succ, i64_w, i32_w]
    rfl
  refine pure_ (i := 8) (N := (some 36)) (v := ?_) (a' := ?_) #[Y,Y,Y,Y,Y,Y,Y,Y,Y,Z,Z] rfl rfl (by kernel_rfl) (fun _ _ _ h => h) (Or.inl ⟨by rfl, ?_⟩) ?_ ?_
  rotate_left
  · intro w'
    go_simp
    with_reducible rfl
  rotate_left
  · simp only [Act.put, List.setIfInBounds_toArray, List.set_cons_zero, List.set_cons_succ, i64_w, i32_w]
    rfl
  refine pure_ (i := 9) (N := (some 37)) (v := ?_) (a' := ?_) #[Y,Y,Y,Y,Y,Y,Y,Y,Y,Y,Z] rfl rfl (by kernel_rfl) (fun _ _ _ h => h) (Or.inl ⟨by rfl, ?_⟩) ?_ ?_
  rotate_left
  · intro w'
    go_simp
    with_reducible rfl
  rotate_left
  · simp only [Act.put, List.setIfInBounds_toArray, List.set_cons_zero, List.set_cons_succ, i64_w, i32_w]
    rfl
  refine last_ (i := 10) (N := none) #[Y,Y,Y,Y,Y,Y,Y,Y,Y,Y,Y] rfl rfl (by kernel_rfl) (by decide) (fun K hK => ?_)
  refine skip_ (w1 := w5.setCell ⟨g, 1, none⟩ (.slice A5 (D1.wait ++ [(⟨a, s⟩ : Wr)]).length c5)) (by rfl) rfl ?_ ?_
  · go_simp
  refine hK.out _ _ ?_
  refine done_ (by kernel_rfl) ?_
  go_wp2
  go_ret
  have hend := write_end HO1.out (below_drew HB4.out) HR5.out HG5.out HOK.out (fun k hk => .inl hk)
  exact ⟨rfl, hend.1, H2.out.trans hend.2⟩
theorem write_calls {base : Nat} {ok : Nat → Prop} {g : Nat} {D : DS} {w : World} (a : Int) (s : ByteArray) (hs : s.size ≤ 9223372036854775807) (hl : D.wait.length ≤ 1000000) (H : Dev w base ok g D) :
    Calls Try.prog 18 #[.pointer (some ⟨g, 0, none⟩), .int .i64 a, .string s] w fun e w' => e = .returned (.int .i64 (writeD D a s).2) ∧ Dev w' base (fun k => ok k ∨ w.heap.size ≤ k) g (writeD D a s).1 ∧ Chg w w' ok := by
  by_cases h : hasD D a = true ∧ s.size = 128
  · unfold writeD
    rw [if_pos h]
    cases hd : (doesD D).2 with
    | true => exact write_yes a s H h.1 h.2 hd hl
    | false =>
      refine (write_off a s H h.1 h.2 hd).mono ?_
      rintro e w' ⟨rfl, h1, h2⟩
      exact ⟨rfl, h1.mono (fun k hk => .inl hk), h2⟩
  · refine (write_no a s hs H h).mono ?_
    rintro e w' ⟨rfl, rfl⟩
    unfold writeD
    rw [if_neg h]
    exact ⟨rfl, H.mono (fun k hk => .inl hk), Chg.refl _ _⟩
theorem write_nil (a : Int) (s : ByteArray) (w : World) :
    Calls Try.prog 18 #[.pointer none, .int .i64 a, .string s] w fun e w' => e = .returned (.int .i64 1) ∧ w = w' := by
  go_enter Try.func18, Try.ntmps18
  go_wp2_with (first | (go_at_call 64; refine (has_nil a _).mono ?_; rintro e w' ⟨rfl, rfl⟩))
  go_ret
  exact ⟨rfl, rfl⟩
theorem write_zero (g : Nat) (a : Int) (s : ByteArray) (w : World) (hc : w.cell? ⟨g, 0, none⟩ = some (.slice none 0 0)) :
    Calls Try.prog 18 #[.pointer (some ⟨g, 0, none⟩), .int .i64 a, .string s] w fun e w' => e = .returned (.int .i64 1) ∧ w = w' := by
  go_enter Try.func18, Try.ntmps18
  go_wp2_with (first | (go_at_call 64; refine (has_no g a _ hc).mono ?_; rintro e w' ⟨rfl, rfl⟩))
  go_ret
  exact ⟨rfl, rfl⟩
end Go.Proofs.Ytgjclhhjigflkab.Dev
