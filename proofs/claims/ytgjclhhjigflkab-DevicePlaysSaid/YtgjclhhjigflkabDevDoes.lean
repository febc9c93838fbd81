/- The walk of law 04's does: a call on both sides. (Written by gendoes.py.) -/
import Derived.Test.YtgjclhhjigflkabDevAct
namespace Go.Proofs.Ytgjclhhjigflkab.Dev
open Go Go.RowKit Go.Proofs.Ytgjclhhjigflkab.D Go.Proofs.Ytgjclhhjigflkab.MyWords Go.Proofs.Ytgjclhhjigflkab.Hand Go.Proofs.YtgjclhhjigflkabW.PrintWords Go.Proofs.YtgjclhhjigflkabW.PrintLast Go.Proofs.YtgjclhhjigflkabW.PrintMore
set_option linter.unusedVariables false
set_option linter.unusedSimpArgs false
set_option maxHeartbeats 2000000 in
set_option maxRecDepth 100000 in
theorem does_1 {w0 w : World} {g : Nat} {v0 v1 : Value} {D : DS} {X : Nat → Prop} (H : Prs w0 w g v0 v1 D D X) (hl : D.wait.length ≤ 1000000) (at_ c : Int) (text : ByteArray) (A5 : Option Addr) (c5 : Nat) (keep : List Int)
    (hk : Kd.F (Kd.int .i64) w (fun k => k < w0.heap.size) A5 keep.length keep) (hkl : keep.length ≤ 9223372036854775807) (hkc : keep.length ≤ c5) (hat : at_ ≤ 9223372036854775807) (hts : text.size ≤ 9223372036854775807) :
    Calls Try.prog 26 #[.pointer (some ⟨g, 0, none⟩), .agg #[v0, v1, .int .i64 D.fuse, .bool D.off], .agg #[.int .i64 1, .int .i64 at_, .int .u8 c, .string text, .slice A5 keep.length c5]] w fun e w' =>
      ∃ v0' v1', e = .returned (.tuple #[.agg #[v0', v1', .int .i64 (actD D ⟨1, at_, c, text, keep⟩).fuse, .bool (actD D ⟨1, at_, c, text, keep⟩).off], .bool true]) ∧ Prs w0 w' g v0' v1' (actD D ⟨1, at_, c, text, keep⟩) (actD D ⟨1, at_, c, text, keep⟩) X ∧ Stay X w w' := by
  have HACT := Aside0.mk (show actD D ⟨1, at_, c, text, keep⟩ = _ from by unfold actD; rw [if_pos rfl])
  rw [HACT.out]
  clear HACT
  have hssz := strA_size ⟨1, at_, c, text, keep⟩ hts
  obtain ⟨s, hs⟩ : ∃ s, strA ⟨1, at_, c, text, keep⟩ = s := ⟨_, rfl⟩
  have hcase : ((!text.toList.isEmpty) = false ∧ filledB c = s) ∨ ((!text.toList.isEmpty) = true ∧ text = s) := by
    unfold strA at hs
    by_cases h : (!text.toList.isEmpty) = true
    · rw [if_pos h] at hs
      exact .inr ⟨h, hs⟩
    · rw [if_neg h] at hs
      exact .inl ⟨by simpa using h, hs⟩
  try rw [hs]
  rw [hs] at hssz
  clear hs
  obtain ⟨A0, c0, A1, c1, rfl, rfl⟩ := H.sl
  have hbx := H.bx
  have HP := Aside0.mk H
  have HF := Aside0.mk hk
  have HBX := Aside0.mk hbx
  have HW0 := Aside0.mk H.below.size
  clear H hk hbx
  go_enter Try.func26, Try.ntmps26
  go_wp2_with (first | ((with_reducible refine gate_dst (N := 4) rfl ?_); refine box_event rfl (N := 4) rfl (cs := #[.slice A0 D.sure.length c0, .slice A1 D.wait.length c1, .int .i64 D.fuse, .bool D.off]) (t := TQ) ?hr ?_; (case hr => first | (go_simp; done) | (go_simp; rfl)); intro b4 hg4 w1 hx4 hB1; have HP1 := Aside0.mk (HP.out.guard hB1 (Nat.le_of_eq hg4.symm) (blk_lt hx4)); have HX4 := Aside0.mk hx4; have HB1 := Aside0.mk hB1; have HN1 := Aside0.mk (And.intro (Nat.le_of_eq hg4.symm) (blk_lt hx4)); clear hg4 hx4 hB1) | ((with_reducible refine gate_dst (N := 5) rfl ?_); refine box_event rfl (N := 5) rfl (cs := #[.int .i64 1, .int .i64 at_, .int .u8 c, .string text, .slice A5 keep.length c5]) (t := TA) ?hr ?_; (case hr => first | (go_simp; done) | (go_simp; rfl)); intro b5 hg5 w2 hx5 hB2; have HP2 := Aside0.mk (HP1.out.guard hB2 (Nat.le_of_eq hg5.symm) (blk_lt hx5)); have HX42 := Aside0.mk (blk_below HX4.out hB2); have HX5 := Aside0.mk hx5; have HB2 := Aside0.mk (below_step HB1.out hB2); have HN2 := Aside0.mk (And.intro HN1.out.1 (And.intro (show b4 < b5 by rw [hg5]; exact HN1.out.2) (blk_lt hx5))); have h50 : w2.cell? ⟨b5, 0, none⟩ = some (.int .i64 1) := (cell_of_row w2 b5 0 _ _ _ hx5).trans rfl; clear hg5 hx5 hB2 h50 HP1 HX4 HB1) | ((with_reducible refine gate_dst (N := 6) rfl ?_); refine box_event rfl (N := 6) rfl (cs := #[.slice none 0 0, .slice none 0 0, .int .i64 0, .bool false]) (t := TQ) ?hr ?_; (case hr => first | (go_simp; done) | (go_simp; rfl)); intro b6 hg6 w3 hx6 hB3; have HP3 := Aside0.mk (HP2.out.guard hB3 (Nat.le_of_eq hg6.symm) (blk_lt hx6)); have HX43 := Aside0.mk (blk_below HX42.out hB3); have HX53 := Aside0.mk (blk_below HX5.out hB3); have HX6 := Aside0.mk hx6; have HB3 := Aside0.mk (below_step HB2.out hB3); have HN3 := Aside0.mk (And.intro HN2.out.1 (And.intro HN2.out.2.1 (And.intro (show b5 < b6 by rw [hg6]; exact HN2.out.2.2) (blk_lt hx6)))); have h52 : w3.cell? ⟨b5, 2, none⟩ = some (.int .u8 c) := (cell_of_row w3 b5 2 _ _ _ HX53.out).trans rfl; clear hg6 hx6 hB3 HP2 HX42 HX5 HB2))
  refine (filled_at c _).mono ?_
  rintro e w7 ⟨rfl, hb7⟩
  have HP7 := Aside0.mk (HP3.out.step hb7)
  have HX47 := Aside0.mk (blk_below HX43.out hb7)
  have HX57 := Aside0.mk (blk_below HX53.out hb7)
  have HX67 := Aside0.mk (blk_below HX6.out hb7)
  have HB7 := Aside0.mk (below_step HB3.out hb7)
  have HST := Aside0.mk (Stay.of_below HBX.out HB7.out)
  have HF7 := Aside0.mk (Kd.F_below HF.out HB7.out)
  have h50 : w7.cell? ⟨b5, 0, none⟩ = some (.int .i64 1) := (cell_of_row w7 b5 0 _ _ _ HX57.out).trans rfl
  have h51 : w7.cell? ⟨b5, 1, none⟩ = some (.int .i64 at_) := (cell_of_row w7 b5 1 _ _ _ HX57.out).trans rfl
  have h53 : w7.cell? ⟨b5, 3, none⟩ = some (.string text) := (cell_of_row w7 b5 3 _ _ _ HX57.out).trans rfl
  have h54 : w7.cell? ⟨b5, 4, none⟩ = some (.slice A5 keep.length c5) := (cell_of_row w7 b5 4 _ _ _ HX57.out).trans rfl
  clear h52 hb7 HP3 HX43 HX53 HX6 HB3 HP HF
  have HXN : Aside0 (∀ k, X k → k < w.heap.size) := HBX
  rcases hcase with ⟨htx, hfl⟩ | ⟨htx, hfl⟩
  all_goals
    subst hfl
    go_wp2_with (first | ((with_reducible refine gate_dst (N := 32) rfl ?_); refine wpList_load_row rfl TQ (.tmp 4) rfl b4 rfl TQ #[.slice A0 D.sure.length c0, .slice A1 D.wait.length c1, .int .i64 D.fuse, .bool D.off] (0, 0) _ HX47.out Try.underlying44 rfl size_Q ?_))
    refine (pr_put HP7.out _ _ hl).mono ?_
    rintro e w8 ⟨u0, u1, rfl, h8, st8⟩
    obtain ⟨B0, d0, B1, d1, rfl, rfl⟩ := h8.sl
    have HP8 := Aside0.mk h8
    have HX58 := Aside0.mk ((st8 b5 (.inl (.inr rfl))).trans HX57.out)
    have HX68 := Aside0.mk ((st8 b6 (.inr rfl)).trans HX67.out)
    have HST8 := Aside0.mk (HST.out.trans (st8.less (fun k hk => .inl (.inl (.inl hk)))))
    clear h8 st8 HP7 HX47 HX57 HX67 HST h50 h51 h53 h54
    generalize hC : (writeD D at_ _).1 = C at HP8 ⊢
    generalize hE : (writeD D at_ _).2 = E
    have HC := Aside0.mk hC
    have HE := Aside0.mk hE
    clear hC hE
    go_wp2_with (first | ((with_reducible refine gate_dst (N := 9) rfl ?_); refine box_event rfl (N := 9) rfl (cs := #[.slice none 0 0, .slice none 0 0, .int .i64 0, .bool false]) (t := TQ) ?hr ?_; (case hr => first | (go_simp; done) | (go_simp; rfl)); intro b9 hg9 w9 hx9 hB9; have HP9 := Aside0.mk (HP8.out.guard hB9 (Nat.le_of_eq hg9.symm) (blk_lt hx9)); have HX9 := Aside0.mk hx9; have HX59 := Aside0.mk (blk_below HX58.out hB9); have HX69 := Aside0.mk (blk_below HX68.out hB9); have HST9 := Aside0.mk (HST8.out.trans (fun k hk => hB9.block k (HP8.out.bx k (.inl (.inl (.inl hk)))))); have HN9 := Aside0.mk (And.intro (show b5 < b9 by rw [hg9]; exact blk_lt HX58.out) (And.intro (show b6 < b9 by rw [hg9]; exact blk_lt HX68.out) (And.intro (show w0.heap.size ≤ b9 by rw [hg9]; exact HP8.out.below.size) (show ∀ k, X k → k < b9 by rw [hg9]; exact fun k hk => HP8.out.bx k (.inl (.inl (.inl hk))))))); clear hg9 hx9 hB9 HP8 HX58 HX68 HST8) | ((with_reducible refine gate_store (t := TQ) (p := .tmp 9) (x := .tmp 37) rfl ?_); refine row_store_event rfl TQ (.tmp 9) (.tmp 37) rfl b9 #[.slice B0 C.sure.length d0, .slice B1 C.wait.length d1, .int .i64 C.fuse, .bool C.off] rfl rfl TQ _ HX9.out size_Q rfl (q_one _ _ _ _ rfl rfl rfl rfl) ?_; intro w10 hs; have HP10 := Aside0.mk (HP9.out.own (.inr rfl) hs.size hs.other (hs.below HP9.out.below HN9.out.2.2.1)); have HX510 := Aside0.mk ((hs.other b5 (by have := HN9.out.1; omega)).trans HX59.out); have HX610 := Aside0.mk ((hs.other b6 (by have := HN9.out.2.1; omega)).trans HX69.out); have HX910 := Aside0.mk hs.at_; have HST10 := Aside0.mk (HST9.out.trans (fun k hk => hs.other k (by have := HN9.out.2.2.2 k hk; omega))); clear hs HP9 HX9 HX59 HX69 HST9))
    have HC51 : Aside0 (w10.cell? ⟨b5, 1, none⟩ = some (.int .i64 at_)) := ⟨(cell_of_row w10 b5 1 _ _ _ HX510.out).trans rfl⟩
    have HR9 : Aside0 (w10.rangeAt b9 0 [.slice B0 C.sure.length d0, .slice B1 C.wait.length d1, .int .i64 C.fuse, .bool C.off]) := ⟨fun j v hv => by rw [cell_of_row w10 b9 _ _ _ _ HX910.out]; simpa using hv⟩
    refine start_ (n := 10) (S := fun w' => w'.cell? ⟨b5, 1, none⟩ = some (.int .i64 at_) ∧ w'.rangeAt b9 0 [.slice B0 C.sure.length d0, .slice B1 C.wait.length d1, .int .i64 C.fuse, .bool C.off]) (ds := [8, 9]) #[Z,Z,Z,Z,Z,Z,Z,Z,Z,Z] (by kernel_rfl) rfl rfl (⟨HC51.out, by rw [World.rangeAt_drew]; exact HR9.out⟩) (fun hHeld => ?_)
    refine take_ (i := 0) (N := (some 39)) (v := .agg #[.slice B0 C.sure.length d0, .slice B1 C.wait.length d1, .int .i64 C.fuse, .bool C.off]) (a' := ?_) #[Y,Z,Z,Z,Z,Z,Z,Z,Z,Z] rfl rfl (by kernel_rfl) (fun _ _ _ h => h) (yieldsIf_load_mid (by rfl) TQ (.tmp 9) rfl b9 0 rfl [.slice B0 C.sure.length d0, .slice B1 C.wait.length d1, .int .i64 C.fuse, .bool C.off] _ (fun w (h : _ ∧ _) => h.2) Try.underlying44 rfl size_Q) hHeld ?_ ?_
    rotate_left
    · simp only [Act.put, List.setIfInBounds_toArray, List.set_cons_zero, List.set_cons_succ, i64_w, i32_w]
      rfl
    refine pure_ (i := 1) (N := (some 40)) (v := ?_) (a' := ?_) #[Y,Y,Z,Z,Z,Z,Z,Z,Z,Z] rfl rfl (by kernel_rfl) (fun _ _ _ h => h) (Or.inl ⟨by rfl, ?_⟩) ?_ ?_
    rotate_left
    · intro w'
      go_simp
      with_reducible rfl
    rotate_left
    · simp only [Act.put, List.setIfInBounds_toArray, List.set_cons_zero, List.set_cons_succ, i64_w, i32_w]
      rfl
    refine pure_ (i := 2) (N := (some 41)) (v := ?_) (a' := ?_) #[Y,Y,Y,Z,Z,Z,Z,Z,Z,Z] rfl rfl (by kernel_rfl) (fun _ _ _ h => h) (Or.inl ⟨by rfl, ?_⟩) ?_ ?_
    rotate_left
    · intro w'
      go_simp
      with_reducible rfl
    rotate_left
    · simp only [Act.put, List.setIfInBounds_toArray, List.set_cons_zero, List.set_cons_succ, i64_w, i32_w]
      rfl
    refine take_ (i := 3) (N := (some 42)) (v := ?_) (a' := ?_) #[Y,Y,Y,Y,Z,Z,Z,Z,Z,Z] rfl rfl (by kernel_rfl) (fun _ _ _ h => h) (Or.inl ⟨by rfl, ?_⟩) hHeld ?_ ?_
    rotate_left
    · intro w' s0
      go_simp
      with_reducible rfl
    rotate_left
    · simp only [Act.put, List.setIfInBounds_toArray, List.set_cons_zero, List.set_cons_succ, i64_w, i32_w]
      rfl
    refine pure_ (i := 4) (N := (some 43)) (v := ?_) (a' := ?_) #[Y,Y,Y,Y,Y,Z,Z,Z,Z,Z] rfl rfl (by kernel_rfl) (fun _ _ _ h => h) (Or.inl ⟨by rfl, ?_⟩) ?_ ?_
    rotate_left
    · intro w'
      go_simp
      with_reducible rfl
    rotate_left
    · simp only [Act.put, List.setIfInBounds_toArray, List.set_cons_zero, List.set_cons_succ, i64_w, i32_w]
      rfl
    refine pure_ (i := 6) (N := (some 45)) (v := ?_) (a' := ?_) #[Y,Y,Y,Y,Y,Z,Y,Z,Z,Z] rfl rfl (by kernel_rfl) (fun _ _ _ h => h) (Or.inl ⟨by rfl, ?_⟩) ?_ ?_
    rotate_left
    · intro w'
      go_simp
      with_reducible rfl
    rotate_left
    · simp only [Act.put, List.setIfInBounds_toArray, List.set_cons_zero, List.set_cons_succ, i64_w, i32_w]
      rfl
    refine one_ (i := 5) (N := (some 44)) #[Y,Y,Y,Y,Y,Y,Y,Z,Z,Z] rfl rfl (by kernel_rfl) (by decide) (fun K hK => ?_)
    refine goes_ Try.func18 (by kernel_rfl) rfl #[.pointer (some ⟨g, 0, none⟩), .int .i64 at_, .string _] (by rfl) rfl rfl (by (try simp only [List.map_toArray, List.map_cons, List.map_nil]); first | done | rfl) ?_
    refine (pr_write (HP10.out.step (below_drew (Below.refl _ _))) at_ _ hssz hl).mono ?_
    rintro e w11 ⟨rfl, h11, st11⟩
    refine ⟨_, rfl, ?_⟩
    rw [HC.out] at h11
    rw [HE.out]
    have HP11 := Aside0.mk h11
    have HX611 := Aside0.mk ((st11 b6 (.inl (.inr rfl))).trans HX610.out)
    have HST11 := Aside0.mk (HST10.out.trans (st11.less (fun k hk => .inl (.inl (.inl (.inl hk))))))
    refine hK.out _ _ ⟨(st11.cell (.inl (.inl (.inr rfl))) 1).trans HC51.out, fun j v hv => (st11.cell (.inr rfl) (0 + j)).trans (HR9.out j v hv)⟩ (fun hHeld => ?_)
    clear h11 st11
    clear hK K
    refine norm_ (a' := ?_) ?_ ?_
    rotate_left
    · show Act.put _ (some 44) _ = _
      simp only [Act.put, List.setIfInBounds_toArray, List.set_cons_zero, List.set_cons_succ, i64_w, i32_w]
      rfl
    refine pure_ (i := 7) (N := (some 46)) (v := ?_) (a' := ?_) #[Y,Y,Y,Y,Y,Y,Y,Y,Z,Z] rfl rfl (by kernel_rfl) (fun _ _ _ h => h) (Or.inl ⟨by rfl, ?_⟩) ?_ ?_
    rotate_left
    · intro w'
      go_simp
      with_reducible rfl
    rotate_left
    · simp only [Act.put, List.setIfInBounds_toArray, List.set_cons_zero, List.set_cons_succ, i64_w, i32_w]
      rfl
    refine last_ (i := 8) (N := none) #[Y,Y,Y,Y,Y,Y,Y,Y,Y,Z] rfl rfl (by kernel_rfl) (by decide) (fun K hK => ?_)
    refine skip_ (w1 := w11.setRow b6 #[.slice B0 C.sure.length d0, .slice B1 C.wait.length d1, .int .i64 C.fuse, .bool C.off]) (by rfl) rfl (run_store_row TQ (.tmp 6) (.tmp 39) rfl b6 #[.slice B0 C.sure.length d0, .slice B1 C.wait.length d1, .int .i64 C.fuse, .bool C.off] rfl rfl TQ _ HX611.out size_Q rfl (q_one _ _ _ _ rfl rfl rfl rfl)) ?_
    refine hK.out _ _ ?_
    clear hK K
    refine pure_ (i := 9) (N := (some 7)) (v := ?_) (a' := ?_) #[Y,Y,Y,Y,Y,Y,Y,Y,Y,Y] rfl rfl (by kernel_rfl) (fun _ _ _ h => h) (Or.inl ⟨by rfl, ?_⟩) ?_ ?_
    rotate_left
    · intro w'
      go_simp
      with_reducible rfl
    rotate_left
    · simp only [Act.put, List.setIfInBounds_toArray, List.set_cons_zero, List.set_cons_succ, i64_w, i32_w]
      rfl
    refine done_ (by kernel_rfl) ?_
    have hrs := rowSet_mk (cells := #[.slice B0 C.sure.length d0, .slice B1 C.wait.length d1, .int .i64 C.fuse, .bool C.off]) HX611.out
    have HRS := Aside0.mk hrs
    clear hrs
    go_wp2
    refine bodyPost_ret (results_ct rfl _ _ b6 TQ #[.slice B0 C.sure.length d0, .slice B1 C.wait.length d1, .int .i64 C.fuse, .bool C.off] (0, 0) _ rfl HRS.out.at_ Try.underlying44 rfl size_Q) rfl ?_
    rw [HC.out]
    refine ⟨_, _, rfl, ?_, ?_⟩
    · exact (HP11.out.own (.inl (.inr rfl)) HRS.out.size HRS.out.other (HRS.out.below HP11.out.below (by have := HW0.out; have := HN3.out; omega))).less (fun k hk => .inl (.inl (.inl (.inl hk))))
    · exact HST11.out.trans (fun k hk => HRS.out.other k (by have := HXN.out k hk; have := HN3.out; omega))

set_option maxHeartbeats 2000000 in
set_option maxRecDepth 100000 in
theorem does_2 {w0 w : World} {g : Nat} {v0 v1 : Value} {D : DS} {X : Nat → Prop} (H : Prs w0 w g v0 v1 D D X) (hl : D.wait.length ≤ 1000000) (at_ c : Int) (text : ByteArray) (A5 : Option Addr) (c5 : Nat) (keep : List Int)
    (hk : Kd.F (Kd.int .i64) w (fun k => k < w0.heap.size) A5 keep.length keep) (hkl : keep.length ≤ 9223372036854775807) (hkc : keep.length ≤ c5) (hat : at_ ≤ 9223372036854775807) (hts : text.size ≤ 9223372036854775807) :
    Calls Try.prog 26 #[.pointer (some ⟨g, 0, none⟩), .agg #[v0, v1, .int .i64 D.fuse, .bool D.off], .agg #[.int .i64 2, .int .i64 at_, .int .u8 c, .string text, .slice A5 keep.length c5]] w fun e w' =>
      ∃ v0' v1', e = .returned (.tuple #[.agg #[v0', v1', .int .i64 (actD D ⟨2, at_, c, text, keep⟩).fuse, .bool (actD D ⟨2, at_, c, text, keep⟩).off], .bool true]) ∧ Prs w0 w' g v0' v1' (actD D ⟨2, at_, c, text, keep⟩) (actD D ⟨2, at_, c, text, keep⟩) X ∧ Stay X w w' := by
  have HACT := Aside0.mk (show actD D ⟨2, at_, c, text, keep⟩ = _ from by unfold actD; rw [if_neg (by simp), if_pos rfl])
  rw [HACT.out]
  clear HACT
  have hssz := strA_size ⟨2, at_, c, text, keep⟩ hts
  obtain ⟨s, hs⟩ : ∃ s, strA ⟨2, at_, c, text, keep⟩ = s := ⟨_, rfl⟩
  have hcase : ((!text.toList.isEmpty) = false ∧ filledB c = s) ∨ ((!text.toList.isEmpty) = true ∧ text = s) := by
    unfold strA at hs
    by_cases h : (!text.toList.isEmpty) = true
    · rw [if_pos h] at hs
      exact .inr ⟨h, hs⟩
    · rw [if_neg h] at hs
      exact .inl ⟨by simpa using h, hs⟩
  try rw [hs]
  rw [hs] at hssz
  clear hs
  obtain ⟨A0, c0, A1, c1, rfl, rfl⟩ := H.sl
  have hbx := H.bx
  have HP := Aside0.mk H
  have HF := Aside0.mk hk
  have HBX := Aside0.mk hbx
  have HW0 := Aside0.mk H.below.size
  clear H hk hbx
  go_enter Try.func26, Try.ntmps26
  go_wp2_with (first | ((with_reducible refine gate_dst (N := 4) rfl ?_); refine box_event rfl (N := 4) rfl (cs := #[.slice A0 D.sure.length c0, .slice A1 D.wait.length c1, .int .i64 D.fuse, .bool D.off]) (t := TQ) ?hr ?_; (case hr => first | (go_simp; done) | (go_simp; rfl)); intro b4 hg4 w1 hx4 hB1; have HP1 := Aside0.mk (HP.out.guard hB1 (Nat.le_of_eq hg4.symm) (blk_lt hx4)); have HX4 := Aside0.mk hx4; have HB1 := Aside0.mk hB1; have HN1 := Aside0.mk (And.intro (Nat.le_of_eq hg4.symm) (blk_lt hx4)); clear hg4 hx4 hB1) | ((with_reducible refine gate_dst (N := 5) rfl ?_); refine box_event rfl (N := 5) rfl (cs := #[.int .i64 2, .int .i64 at_, .int .u8 c, .string text, .slice A5 keep.length c5]) (t := TA) ?hr ?_; (case hr => first | (go_simp; done) | (go_simp; rfl)); intro b5 hg5 w2 hx5 hB2; have HP2 := Aside0.mk (HP1.out.guard hB2 (Nat.le_of_eq hg5.symm) (blk_lt hx5)); have HX42 := Aside0.mk (blk_below HX4.out hB2); have HX5 := Aside0.mk hx5; have HB2 := Aside0.mk (below_step HB1.out hB2); have HN2 := Aside0.mk (And.intro HN1.out.1 (And.intro (show b4 < b5 by rw [hg5]; exact HN1.out.2) (blk_lt hx5))); have h50 : w2.cell? ⟨b5, 0, none⟩ = some (.int .i64 2) := (cell_of_row w2 b5 0 _ _ _ hx5).trans rfl; clear hg5 hx5 hB2 h50 HP1 HX4 HB1) | ((with_reducible refine gate_dst (N := 6) rfl ?_); refine box_event rfl (N := 6) rfl (cs := #[.slice none 0 0, .slice none 0 0, .int .i64 0, .bool false]) (t := TQ) ?hr ?_; (case hr => first | (go_simp; done) | (go_simp; rfl)); intro b6 hg6 w3 hx6 hB3; have HP3 := Aside0.mk (HP2.out.guard hB3 (Nat.le_of_eq hg6.symm) (blk_lt hx6)); have HX43 := Aside0.mk (blk_below HX42.out hB3); have HX53 := Aside0.mk (blk_below HX5.out hB3); have HX6 := Aside0.mk hx6; have HB3 := Aside0.mk (below_step HB2.out hB3); have HN3 := Aside0.mk (And.intro HN2.out.1 (And.intro HN2.out.2.1 (And.intro (show b5 < b6 by rw [hg6]; exact HN2.out.2.2) (blk_lt hx6)))); have h52 : w3.cell? ⟨b5, 2, none⟩ = some (.int .u8 c) := (cell_of_row w3 b5 2 _ _ _ HX53.out).trans rfl; clear hg6 hx6 hB3 HP2 HX42 HX5 HB2))
  refine (filled_at c _).mono ?_
  rintro e w7 ⟨rfl, hb7⟩
  have HP7 := Aside0.mk (HP3.out.step hb7)
  have HX47 := Aside0.mk (blk_below HX43.out hb7)
  have HX57 := Aside0.mk (blk_below HX53.out hb7)
  have HX67 := Aside0.mk (blk_below HX6.out hb7)
  have HB7 := Aside0.mk (below_step HB3.out hb7)
  have HST := Aside0.mk (Stay.of_below HBX.out HB7.out)
  have HF7 := Aside0.mk (Kd.F_below HF.out HB7.out)
  have h50 : w7.cell? ⟨b5, 0, none⟩ = some (.int .i64 2) := (cell_of_row w7 b5 0 _ _ _ HX57.out).trans rfl
  have h51 : w7.cell? ⟨b5, 1, none⟩ = some (.int .i64 at_) := (cell_of_row w7 b5 1 _ _ _ HX57.out).trans rfl
  have h53 : w7.cell? ⟨b5, 3, none⟩ = some (.string text) := (cell_of_row w7 b5 3 _ _ _ HX57.out).trans rfl
  have h54 : w7.cell? ⟨b5, 4, none⟩ = some (.slice A5 keep.length c5) := (cell_of_row w7 b5 4 _ _ _ HX57.out).trans rfl
  clear h52 hb7 HP3 HX43 HX53 HX6 HB3 HP HF
  have HXN : Aside0 (∀ k, X k → k < w.heap.size) := HBX
  rcases hcase with ⟨htx, hfl⟩ | ⟨htx, hfl⟩
  all_goals
    subst hfl
    go_wp2_with (first | ((with_reducible refine gate_dst (N := 50) rfl ?_); refine wpList_load_row rfl TQ (.tmp 4) rfl b4 rfl TQ #[.slice A0 D.sure.length c0, .slice A1 D.wait.length c1, .int .i64 D.fuse, .bool D.off] (0, 0) _ HX47.out Try.underlying44 rfl size_Q ?_))
    refine (pr_rsync HP7.out hl).mono ?_
    rintro e w8 ⟨u0, u1, rfl, h8, st8⟩
    obtain ⟨B0, d0, B1, d1, rfl, rfl⟩ := h8.sl
    have HP8 := Aside0.mk h8
    have HX58 := Aside0.mk ((st8 b5 (.inl (.inr rfl))).trans HX57.out)
    have HX68 := Aside0.mk ((st8 b6 (.inr rfl)).trans HX67.out)
    have HST8 := Aside0.mk (HST.out.trans (st8.less (fun k hk => .inl (.inl (.inl hk)))))
    clear h8 st8 HP7 HX47 HX57 HX67 HST h50 h51 h53 h54
    generalize hC : (syncD D).1 = C at HP8 ⊢
    generalize hE : (syncD D).2 = E
    have HC := Aside0.mk hC
    have HE := Aside0.mk hE
    clear hC hE
    go_wp2_with (first | ((with_reducible refine gate_dst (N := 11) rfl ?_); refine box_event rfl (N := 11) rfl (cs := #[.slice none 0 0, .slice none 0 0, .int .i64 0, .bool false]) (t := TQ) ?hr ?_; (case hr => first | (go_simp; done) | (go_simp; rfl)); intro b9 hg9 w9 hx9 hB9; have HP9 := Aside0.mk (HP8.out.guard hB9 (Nat.le_of_eq hg9.symm) (blk_lt hx9)); have HX9 := Aside0.mk hx9; have HX59 := Aside0.mk (blk_below HX58.out hB9); have HX69 := Aside0.mk (blk_below HX68.out hB9); have HST9 := Aside0.mk (HST8.out.trans (fun k hk => hB9.block k (HP8.out.bx k (.inl (.inl (.inl hk)))))); have HN9 := Aside0.mk (And.intro (show b5 < b9 by rw [hg9]; exact blk_lt HX58.out) (And.intro (show b6 < b9 by rw [hg9]; exact blk_lt HX68.out) (And.intro (show w0.heap.size ≤ b9 by rw [hg9]; exact HP8.out.below.size) (show ∀ k, X k → k < b9 by rw [hg9]; exact fun k hk => HP8.out.bx k (.inl (.inl (.inl hk))))))); clear hg9 hx9 hB9 HP8 HX58 HX68 HST8) | ((with_reducible refine gate_store (t := TQ) (p := .tmp 11) (x := .tmp 52) rfl ?_); refine row_store_event rfl TQ (.tmp 11) (.tmp 52) rfl b9 #[.slice B0 C.sure.length d0, .slice B1 C.wait.length d1, .int .i64 C.fuse, .bool C.off] rfl rfl TQ _ HX9.out size_Q rfl (q_one _ _ _ _ rfl rfl rfl rfl) ?_; intro w10 hs; have HP10 := Aside0.mk (HP9.out.own (.inr rfl) hs.size hs.other (hs.below HP9.out.below HN9.out.2.2.1)); have HX510 := Aside0.mk ((hs.other b5 (by have := HN9.out.1; omega)).trans HX59.out); have HX610 := Aside0.mk ((hs.other b6 (by have := HN9.out.2.1; omega)).trans HX69.out); have HX910 := Aside0.mk hs.at_; have HST10 := Aside0.mk (HST9.out.trans (fun k hk => hs.other k (by have := HN9.out.2.2.2 k hk; omega))); clear hs HP9 HX9 HX59 HX69 HST9))
    have HC51 : Aside0 (w10.cell? ⟨b5, 1, none⟩ = some (.int .i64 at_)) := ⟨(cell_of_row w10 b5 1 _ _ _ HX510.out).trans rfl⟩
    have HR9 : Aside0 (w10.rangeAt b9 0 [.slice B0 C.sure.length d0, .slice B1 C.wait.length d1, .int .i64 C.fuse, .bool C.off]) := ⟨fun j v hv => by rw [cell_of_row w10 b9 _ _ _ _ HX910.out]; simpa using hv⟩
    refine start_ (n := 7) (S := fun w' => w'.cell? ⟨b5, 1, none⟩ = some (.int .i64 at_) ∧ w'.rangeAt b9 0 [.slice B0 C.sure.length d0, .slice B1 C.wait.length d1, .int .i64 C.fuse, .bool C.off]) (ds := [5, 6]) #[Z,Z,Z,Z,Z,Z,Z] (by kernel_rfl) rfl rfl (⟨HC51.out, by rw [World.rangeAt_drew]; exact HR9.out⟩) (fun hHeld => ?_)
    refine take_ (i := 0) (N := (some 54)) (v := .agg #[.slice B0 C.sure.length d0, .slice B1 C.wait.length d1, .int .i64 C.fuse, .bool C.off]) (a' := ?_) #[Y,Z,Z,Z,Z,Z,Z] rfl rfl (by kernel_rfl) (fun _ _ _ h => h) (yieldsIf_load_mid (by rfl) TQ (.tmp 11) rfl b9 0 rfl [.slice B0 C.sure.length d0, .slice B1 C.wait.length d1, .int .i64 C.fuse, .bool C.off] _ (fun w (h : _ ∧ _) => h.2) Try.underlying44 rfl size_Q) hHeld ?_ ?_
    rotate_left
    · simp only [Act.put, List.setIfInBounds_toArray, List.set_cons_zero, List.set_cons_succ, i64_w, i32_w]
      rfl
    refine pure_ (i := 1) (N := (some 55)) (v := ?_) (a' := ?_) #[Y,Y,Z,Z,Z,Z,Z] rfl rfl (by kernel_rfl) (fun _ _ _ h => h) (Or.inl ⟨by rfl, ?_⟩) ?_ ?_
    rotate_left
    · intro w'
      go_simp
      with_reducible rfl
    rotate_left
    · simp only [Act.put, List.setIfInBounds_toArray, List.set_cons_zero, List.set_cons_succ, i64_w, i32_w]
      rfl
    refine pure_ (i := 3) (N := (some 57)) (v := ?_) (a' := ?_) #[Y,Y,Z,Y,Z,Z,Z] rfl rfl (by kernel_rfl) (fun _ _ _ h => h) (Or.inl ⟨by rfl, ?_⟩) ?_ ?_
    rotate_left
    · intro w'
      go_simp
      with_reducible rfl
    rotate_left
    · simp only [Act.put, List.setIfInBounds_toArray, List.set_cons_zero, List.set_cons_succ, i64_w, i32_w]
      rfl
    refine one_ (i := 2) (N := (some 56)) #[Y,Y,Y,Y,Z,Z,Z] rfl rfl (by kernel_rfl) (by decide) (fun K hK => ?_)
    refine goes_ Try.func17 (by kernel_rfl) rfl #[.pointer (some ⟨g, 0, none⟩)] (by rfl) rfl rfl (by (try simp only [List.map_toArray, List.map_cons, List.map_nil]); first | done | rfl) ?_
    refine (pr_sync (HP10.out.step (below_drew (Below.refl _ _)))).mono ?_
    rintro e w11 ⟨rfl, h11, st11⟩
    refine ⟨_, rfl, ?_⟩
    rw [HC.out] at h11
    rw [HE.out]
    have HP11 := Aside0.mk h11
    have HX611 := Aside0.mk ((st11 b6 (.inl (.inr rfl))).trans HX610.out)
    have HST11 := Aside0.mk (HST10.out.trans (st11.less (fun k hk => .inl (.inl (.inl (.inl hk))))))
    refine hK.out _ _ ⟨(st11.cell (.inl (.inl (.inr rfl))) 1).trans HC51.out, fun j v hv => (st11.cell (.inr rfl) (0 + j)).trans (HR9.out j v hv)⟩ (fun hHeld => ?_)
    clear h11 st11
    clear hK K
    refine norm_ (a' := ?_) ?_ ?_
    rotate_left
    · show Act.put _ (some 56) _ = _
      simp only [Act.put, List.setIfInBounds_toArray, List.set_cons_zero, List.set_cons_succ, i64_w, i32_w]
      rfl
    refine pure_ (i := 4) (N := (some 58)) (v := ?_) (a' := ?_) #[Y,Y,Y,Y,Y,Z,Z] rfl rfl (by kernel_rfl) (fun _ _ _ h => h) (Or.inl ⟨by rfl, ?_⟩) ?_ ?_
    rotate_left
    · intro w'
      go_simp
      with_reducible rfl
    rotate_left
    · simp only [Act.put, List.setIfInBounds_toArray, List.set_cons_zero, List.set_cons_succ, i64_w, i32_w]
      rfl
    refine last_ (i := 5) (N := none) #[Y,Y,Y,Y,Y,Y,Z] rfl rfl (by kernel_rfl) (by decide) (fun K hK => ?_)
    refine skip_ (w1 := w11.setRow b6 #[.slice B0 C.sure.length d0, .slice B1 C.wait.length d1, .int .i64 C.fuse, .bool C.off]) (by rfl) rfl (run_store_row TQ (.tmp 6) (.tmp 54) rfl b6 #[.slice B0 C.sure.length d0, .slice B1 C.wait.length d1, .int .i64 C.fuse, .bool C.off] rfl rfl TQ _ HX611.out size_Q rfl (q_one _ _ _ _ rfl rfl rfl rfl)) ?_
    refine hK.out _ _ ?_
    clear hK K
    refine pure_ (i := 6) (N := (some 7)) (v := ?_) (a' := ?_) #[Y,Y,Y,Y,Y,Y,Y] rfl rfl (by kernel_rfl) (fun _ _ _ h => h) (Or.inl ⟨by rfl, ?_⟩) ?_ ?_
    rotate_left
    · intro w'
      go_simp
      with_reducible rfl
    rotate_left
    · simp only [Act.put, List.setIfInBounds_toArray, List.set_cons_zero, List.set_cons_succ, i64_w, i32_w]
      rfl
    refine done_ (by kernel_rfl) ?_
    have hrs := rowSet_mk (cells := #[.slice B0 C.sure.length d0, .slice B1 C.wait.length d1, .int .i64 C.fuse, .bool C.off]) HX611.out
    have HRS := Aside0.mk hrs
    clear hrs
    go_wp2
    refine bodyPost_ret (results_ct rfl _ _ b6 TQ #[.slice B0 C.sure.length d0, .slice B1 C.wait.length d1, .int .i64 C.fuse, .bool C.off] (0, 0) _ rfl HRS.out.at_ Try.underlying44 rfl size_Q) rfl ?_
    rw [HC.out]
    refine ⟨_, _, rfl, ?_, ?_⟩
    · exact (HP11.out.own (.inl (.inr rfl)) HRS.out.size HRS.out.other (HRS.out.below HP11.out.below (by have := HW0.out; have := HN3.out; omega))).less (fun k hk => .inl (.inl (.inl (.inl hk))))
    · exact HST11.out.trans (fun k hk => HRS.out.other k (by have := HXN.out k hk; have := HN3.out; omega))

set_option maxHeartbeats 2000000 in
set_option maxRecDepth 100000 in
theorem does_3 {w0 w : World} {g : Nat} {v0 v1 : Value} {D : DS} {X : Nat → Prop} (H : Prs w0 w g v0 v1 D D X) (hl : D.wait.length ≤ 1000000) (at_ c : Int) (text : ByteArray) (A5 : Option Addr) (c5 : Nat) (keep : List Int)
    (hk : Kd.F (Kd.int .i64) w (fun k => k < w0.heap.size) A5 keep.length keep) (hkl : keep.length ≤ 9223372036854775807) (hkc : keep.length ≤ c5) (hat : at_ ≤ 9223372036854775807) (hts : text.size ≤ 9223372036854775807) :
    Calls Try.prog 26 #[.pointer (some ⟨g, 0, none⟩), .agg #[v0, v1, .int .i64 D.fuse, .bool D.off], .agg #[.int .i64 3, .int .i64 at_, .int .u8 c, .string text, .slice A5 keep.length c5]] w fun e w' =>
      ∃ v0' v1', e = .returned (.tuple #[.agg #[v0', v1', .int .i64 (actD D ⟨3, at_, c, text, keep⟩).fuse, .bool (actD D ⟨3, at_, c, text, keep⟩).off], .bool true]) ∧ Prs w0 w' g v0' v1' (actD D ⟨3, at_, c, text, keep⟩) (actD D ⟨3, at_, c, text, keep⟩) X ∧ Stay X w w' := by
  have HACT := Aside0.mk (show actD D ⟨3, at_, c, text, keep⟩ = _ from by unfold actD; rw [if_neg (by simp), if_neg (by simp), if_pos rfl])
  rw [HACT.out]
  clear HACT
  have hssz := strA_size ⟨3, at_, c, text, keep⟩ hts
  obtain ⟨s, hs⟩ : ∃ s, strA ⟨3, at_, c, text, keep⟩ = s := ⟨_, rfl⟩
  have hcase : ((!text.toList.isEmpty) = false ∧ filledB c = s) ∨ ((!text.toList.isEmpty) = true ∧ text = s) := by
    unfold strA at hs
    by_cases h : (!text.toList.isEmpty) = true
    · rw [if_pos h] at hs
      exact .inr ⟨h, hs⟩
    · rw [if_neg h] at hs
      exact .inl ⟨by simpa using h, hs⟩
  try rw [hs]
  rw [hs] at hssz
  clear hs
  obtain ⟨A0, c0, A1, c1, rfl, rfl⟩ := H.sl
  have hbx := H.bx
  have HP := Aside0.mk H
  have HF := Aside0.mk hk
  have HBX := Aside0.mk hbx
  have HW0 := Aside0.mk H.below.size
  clear H hk hbx
  go_enter Try.func26, Try.ntmps26
  go_wp2_with (first | ((with_reducible refine gate_dst (N := 4) rfl ?_); refine box_event rfl (N := 4) rfl (cs := #[.slice A0 D.sure.length c0, .slice A1 D.wait.length c1, .int .i64 D.fuse, .bool D.off]) (t := TQ) ?hr ?_; (case hr => first | (go_simp; done) | (go_simp; rfl)); intro b4 hg4 w1 hx4 hB1; have HP1 := Aside0.mk (HP.out.guard hB1 (Nat.le_of_eq hg4.symm) (blk_lt hx4)); have HX4 := Aside0.mk hx4; have HB1 := Aside0.mk hB1; have HN1 := Aside0.mk (And.intro (Nat.le_of_eq hg4.symm) (blk_lt hx4)); clear hg4 hx4 hB1) | ((with_reducible refine gate_dst (N := 5) rfl ?_); refine box_event rfl (N := 5) rfl (cs := #[.int .i64 3, .int .i64 at_, .int .u8 c, .string text, .slice A5 keep.length c5]) (t := TA) ?hr ?_; (case hr => first | (go_simp; done) | (go_simp; rfl)); intro b5 hg5 w2 hx5 hB2; have HP2 := Aside0.mk (HP1.out.guard hB2 (Nat.le_of_eq hg5.symm) (blk_lt hx5)); have HX42 := Aside0.mk (blk_below HX4.out hB2); have HX5 := Aside0.mk hx5; have HB2 := Aside0.mk (below_step HB1.out hB2); have HN2 := Aside0.mk (And.intro HN1.out.1 (And.intro (show b4 < b5 by rw [hg5]; exact HN1.out.2) (blk_lt hx5))); have h50 : w2.cell? ⟨b5, 0, none⟩ = some (.int .i64 3) := (cell_of_row w2 b5 0 _ _ _ hx5).trans rfl; clear hg5 hx5 hB2 h50 HP1 HX4 HB1) | ((with_reducible refine gate_dst (N := 6) rfl ?_); refine box_event rfl (N := 6) rfl (cs := #[.slice none 0 0, .slice none 0 0, .int .i64 0, .bool false]) (t := TQ) ?hr ?_; (case hr => first | (go_simp; done) | (go_simp; rfl)); intro b6 hg6 w3 hx6 hB3; have HP3 := Aside0.mk (HP2.out.guard hB3 (Nat.le_of_eq hg6.symm) (blk_lt hx6)); have HX43 := Aside0.mk (blk_below HX42.out hB3); have HX53 := Aside0.mk (blk_below HX5.out hB3); have HX6 := Aside0.mk hx6; have HB3 := Aside0.mk (below_step HB2.out hB3); have HN3 := Aside0.mk (And.intro HN2.out.1 (And.intro HN2.out.2.1 (And.intro (show b5 < b6 by rw [hg6]; exact HN2.out.2.2) (blk_lt hx6)))); have h52 : w3.cell? ⟨b5, 2, none⟩ = some (.int .u8 c) := (cell_of_row w3 b5 2 _ _ _ HX53.out).trans rfl; clear hg6 hx6 hB3 HP2 HX42 HX5 HB2))
  refine (filled_at c _).mono ?_
  rintro e w7 ⟨rfl, hb7⟩
  have HP7 := Aside0.mk (HP3.out.step hb7)
  have HX47 := Aside0.mk (blk_below HX43.out hb7)
  have HX57 := Aside0.mk (blk_below HX53.out hb7)
  have HX67 := Aside0.mk (blk_below HX6.out hb7)
  have HB7 := Aside0.mk (below_step HB3.out hb7)
  have HST := Aside0.mk (Stay.of_below HBX.out HB7.out)
  have HF7 := Aside0.mk (Kd.F_below HF.out HB7.out)
  have h50 : w7.cell? ⟨b5, 0, none⟩ = some (.int .i64 3) := (cell_of_row w7 b5 0 _ _ _ HX57.out).trans rfl
  have h51 : w7.cell? ⟨b5, 1, none⟩ = some (.int .i64 at_) := (cell_of_row w7 b5 1 _ _ _ HX57.out).trans rfl
  have h53 : w7.cell? ⟨b5, 3, none⟩ = some (.string text) := (cell_of_row w7 b5 3 _ _ _ HX57.out).trans rfl
  have h54 : w7.cell? ⟨b5, 4, none⟩ = some (.slice A5 keep.length c5) := (cell_of_row w7 b5 4 _ _ _ HX57.out).trans rfl
  clear h52 hb7 HP3 HX43 HX53 HX6 HB3 HP HF
  have HXN : Aside0 (∀ k, X k → k < w.heap.size) := HBX
  rcases hcase with ⟨htx, hfl⟩ | ⟨htx, hfl⟩
  all_goals
    subst hfl
    go_wp2_with fail
    have HC5 : Aside0 (w7.cell? ⟨b5, 1, none⟩ = some (.int .i64 at_)) := ⟨(cell_of_row w7 b5 1 _ _ _ HX57.out).trans rfl⟩
    have HR4 : Aside0 (w7.rangeAt b4 0 [.slice A0 D.sure.length c0, .slice A1 D.wait.length c1, .int .i64 D.fuse, .bool D.off]) := ⟨fun j v hv => by rw [cell_of_row w7 b4 _ _ _ _ HX47.out]; simpa using hv⟩
    clear h50 h51 h53 h54
    refine start_ (n := 11) (S := fun w' => w'.cell? ⟨b5, 1, none⟩ = some (.int .i64 at_) ∧ w'.rangeAt b4 0 [.slice A0 D.sure.length c0, .slice A1 D.wait.length c1, .int .i64 D.fuse, .bool D.off]) (ds := [9, 10]) #[Z,Z,Z,Z,Z,Z,Z,Z,Z,Z,Z] (by kernel_rfl) rfl rfl (⟨HC5.out, by rw [World.rangeAt_drew]; exact HR4.out⟩) (fun hHeld => ?_)
    refine take_ (i := 0) (N := (some 61)) (v := .agg #[.slice A0 D.sure.length c0, .slice A1 D.wait.length c1, .int .i64 D.fuse, .bool D.off]) (a' := ?_) #[Y,Z,Z,Z,Z,Z,Z,Z,Z,Z,Z] rfl rfl (by kernel_rfl) (fun _ _ _ h => h) (yieldsIf_load_mid (by rfl) TQ (.tmp 4) rfl b4 0 rfl [.slice A0 D.sure.length c0, .slice A1 D.wait.length c1, .int .i64 D.fuse, .bool D.off] _ (fun w (h : _ ∧ _) => h.2) Try.underlying44 rfl size_Q) hHeld ?_ ?_
    rotate_left
    · simp only [Act.put, List.setIfInBounds_toArray, List.set_cons_zero, List.set_cons_succ, i64_w, i32_w]
      rfl
    refine pure_ (i := 1) (N := (some 62)) (v := ?_) (a' := ?_) #[Y,Y,Z,Z,Z,Z,Z,Z,Z,Z,Z] rfl rfl (by kernel_rfl) (fun _ _ _ h => h) (Or.inl ⟨by rfl, ?_⟩) ?_ ?_
    rotate_left
    · intro w'
      go_simp
      with_reducible rfl
    rotate_left
    · simp only [Act.put, List.setIfInBounds_toArray, List.set_cons_zero, List.set_cons_succ, i64_w, i32_w]
      rfl
    refine take_ (i := 2) (N := (some 63)) (v := ?_) (a' := ?_) #[Y,Y,Y,Z,Z,Z,Z,Z,Z,Z,Z] rfl rfl (by kernel_rfl) (fun _ _ _ h => h) (Or.inl ⟨by rfl, ?_⟩) hHeld ?_ ?_
    rotate_left
    · intro w' s0
      go_simp
      with_reducible rfl
    rotate_left
    · simp only [Act.put, List.setIfInBounds_toArray, List.set_cons_zero, List.set_cons_succ, i64_w, i32_w]
      rfl
    refine pure_ (i := 4) (N := (some 65)) (v := ?_) (a' := ?_) #[Y,Y,Y,Z,Y,Z,Z,Z,Z,Z,Z] rfl rfl (by kernel_rfl) (fun _ _ _ h => h) (Or.inl ⟨by rfl, ?_⟩) ?_ ?_
    rotate_left
    · intro w'
      go_simp
      with_reducible rfl
    rotate_left
    · simp only [Act.put, List.setIfInBounds_toArray, List.set_cons_zero, List.set_cons_succ, i64_w, i32_w]
      rfl
    refine pure_ (i := 5) (N := (some 66)) (v := ?_) (a' := ?_) #[Y,Y,Y,Z,Y,Y,Z,Z,Z,Z,Z] rfl rfl (by kernel_rfl) (fun _ _ _ h => h) (Or.inl ⟨by rfl, ?_⟩) ?_ ?_
    rotate_left
    · intro w'
      go_simp
      with_reducible rfl
    rotate_left
    · simp only [Act.put, List.setIfInBounds_toArray, List.set_cons_zero, List.set_cons_succ, i64_w, i32_w]
      rfl
    refine take_ (i := 6) (N := (some 67)) (v := ?_) (a' := ?_) #[Y,Y,Y,Z,Y,Y,Y,Z,Z,Z,Z] rfl rfl (by kernel_rfl) (fun _ _ _ h => h) (Or.inl ⟨by rfl, ?_⟩) hHeld ?_ ?_
    rotate_left
    · intro w' s0
      go_simp
      with_reducible rfl
    rotate_left
    · simp only [Act.put, List.setIfInBounds_toArray, List.set_cons_zero, List.set_cons_succ, i64_w, i32_w]
      rfl
    have HP7d := Aside0.mk (HP7.out.step (below_drew (Below.refl _ _)))
    refine one_ (i := 3) (N := (some 64)) #[Y,Y,Y,Y,Y,Y,Y,Z,Z,Z,Z] rfl rfl (by kernel_rfl) (by decide) (fun K hK => ?_)
    refine goes_ Try.func68 (by kernel_rfl) rfl #[.agg #[.slice A0 D.sure.length c0, .slice A1 D.wait.length c1, .int .i64 D.fuse, .bool D.off], .int .i64 at_] (by rfl) rfl rfl (by (try simp only [List.map_toArray, List.map_cons, List.map_nil]); first | done | rfl) ?_
    refine (pr_rfuse HP7d.out at_ hat).mono ?_
    rintro e w8 ⟨u0, u1, rfl, h8, st8⟩
    obtain ⟨B0, d0, B1, d1, rfl, rfl⟩ := h8.sl
    generalize hC : fuseD D at_ = C at h8 ⊢
    have HC := Aside0.mk hC
    have HP8 := Aside0.mk h8
    have HS8 := Aside0.mk st8
    refine ⟨_, rfl, ?_⟩
    refine hK.out _ _ ⟨(st8.cell (.inl (.inr rfl)) 1).trans HC5.out, fun j v hv => (st8.cell (.inl (.inl (.inr rfl))) (0 + j)).trans (HR4.out j v hv)⟩ (fun hHeld => ?_)
    clear h8 st8 hC
    clear hK K
    refine norm_ (a' := ?_) ?_ ?_
    rotate_left
    · show Act.put _ (some 64) _ = _
      simp only [Act.put, List.setIfInBounds_toArray, List.set_cons_zero, List.set_cons_succ, i64_w, i32_w]
      rfl
    refine one_ (i := 7) (N := (some 68)) #[Y,Y,Y,Y,Y,Y,Y,Y,Z,Z,Z] rfl rfl (by kernel_rfl) (by decide) (fun K hK => ?_)
    refine goes_ Try.func16 (by kernel_rfl) rfl #[.pointer (some ⟨g, 0, none⟩), .int .i64 at_] (by rfl) rfl rfl (by (try simp only [List.map_toArray, List.map_cons, List.map_nil]); first | done | rfl) ?_
    refine (pr_fuse HP8.out at_ hat).mono ?_
    rintro e w11 ⟨rfl, h11, st11⟩
    rw [HC.out] at h11
    refine ⟨_, rfl, ?_⟩
    have HP11 := Aside0.mk h11
    have HX611 := Aside0.mk ((st11 b6 (.inr rfl)).trans ((HS8.out b6 (.inr rfl)).trans HX67.out))
    have HST11 := Aside0.mk ((HST.out.trans (HS8.out.less (fun k hk => .inl (.inl (.inl hk))))).trans (st11.less (fun k hk => .inl (.inl (.inl hk)))))
    refine hK.out _ _ ⟨(st11.cell (.inl (.inr rfl)) 1).trans ((HS8.out.cell (.inl (.inr rfl)) 1).trans HC5.out), fun j v hv => (st11.cell (.inl (.inl (.inr rfl))) (0 + j)).trans ((HS8.out.cell (.inl (.inl (.inr rfl))) (0 + j)).trans (HR4.out j v hv))⟩ (fun hHeld => ?_)
    clear h11 st11
    clear hK K
    refine norm_ (a' := ?_) ?_ ?_
    rotate_left
    · show Act.put _ (some 68) _ = _
      simp only [Act.put, List.setIfInBounds_toArray, List.set_cons_zero, List.set_cons_succ, i64_w, i32_w]
      rfl
    refine pure_ (i := 8) (N := (some 69)) (v := ?_) (a' := ?_) #[Y,Y,Y,Y,Y,Y,Y,Y,Y,Z,Z] rfl rfl (by kernel_rfl) (fun _ _ _ h => h) (Or.inl ⟨by rfl, ?_⟩) ?_ ?_
    rotate_left
    · intro w'
      go_simp
      with_reducible rfl
    rotate_left
    · simp only [Act.put, List.setIfInBounds_toArray, List.set_cons_zero, List.set_cons_succ, i64_w, i32_w]
      rfl
    refine last_ (i := 9) (N := none) #[Y,Y,Y,Y,Y,Y,Y,Y,Y,Y,Z] rfl rfl (by kernel_rfl) (by decide) (fun K hK => ?_)
    refine skip_ (w1 := w11.setRow b6 #[.slice B0 C.sure.length d0, .slice B1 C.wait.length d1, .int .i64 C.fuse, .bool C.off]) (by rfl) rfl (run_store_row TQ (.tmp 6) (.tmp 64) rfl b6 #[.slice B0 C.sure.length d0, .slice B1 C.wait.length d1, .int .i64 C.fuse, .bool C.off] rfl rfl TQ _ HX611.out size_Q rfl (q_one _ _ _ _ rfl rfl rfl rfl)) ?_
    refine hK.out _ _ ?_
    clear hK K
    refine pure_ (i := 10) (N := (some 7)) (v := ?_) (a' := ?_) #[Y,Y,Y,Y,Y,Y,Y,Y,Y,Y,Y] rfl rfl (by kernel_rfl) (fun _ _ _ h => h) (Or.inl ⟨by rfl, ?_⟩) ?_ ?_
    rotate_left
    · intro w'
      go_simp
      with_reducible rfl
    rotate_left
    · simp only [Act.put, List.setIfInBounds_toArray, List.set_cons_zero, List.set_cons_succ, i64_w, i32_w]
      rfl
    refine done_ (by kernel_rfl) ?_
    have hrs := rowSet_mk (cells := #[.slice B0 C.sure.length d0, .slice B1 C.wait.length d1, .int .i64 C.fuse, .bool C.off]) HX611.out
    have HRS := Aside0.mk hrs
    clear hrs
    go_wp2
    refine bodyPost_ret (results_ct rfl _ _ b6 TQ #[.slice B0 C.sure.length d0, .slice B1 C.wait.length d1, .int .i64 C.fuse, .bool C.off] (0, 0) _ rfl HRS.out.at_ Try.underlying44 rfl size_Q) rfl ?_
    rw [HC.out]
    refine ⟨_, _, rfl, ?_, ?_⟩
    · exact (HP11.out.own (.inr rfl) HRS.out.size HRS.out.other (HRS.out.below HP11.out.below (by have := HW0.out; have := HN3.out; omega))).less (fun k hk => .inl (.inl (.inl hk)))
    · exact HST11.out.trans (fun k hk => HRS.out.other k (by have := HXN.out k hk; have := HN3.out; omega))

set_option maxHeartbeats 2000000 in
set_option maxRecDepth 100000 in
theorem does_4 {w0 w : World} {g : Nat} {v0 v1 : Value} {D : DS} {X : Nat → Prop} (H : Prs w0 w g v0 v1 D D X) (hl : D.wait.length ≤ 1000000) (at_ c : Int) (text : ByteArray) (A5 : Option Addr) (c5 : Nat) (keep : List Int)
    (hk : Kd.F (Kd.int .i64) w (fun k => k < w0.heap.size) A5 keep.length keep) (hkl : keep.length ≤ 9223372036854775807) (hkc : keep.length ≤ c5) (hat : at_ ≤ 9223372036854775807) (hts : text.size ≤ 9223372036854775807) :
    Calls Try.prog 26 #[.pointer (some ⟨g, 0, none⟩), .agg #[v0, v1, .int .i64 D.fuse, .bool D.off], .agg #[.int .i64 4, .int .i64 at_, .int .u8 c, .string text, .slice A5 keep.length c5]] w fun e w' =>
      ∃ v0' v1', e = .returned (.tuple #[.agg #[v0', v1', .int .i64 (actD D ⟨4, at_, c, text, keep⟩).fuse, .bool (actD D ⟨4, at_, c, text, keep⟩).off], .bool true]) ∧ Prs w0 w' g v0' v1' (actD D ⟨4, at_, c, text, keep⟩) (actD D ⟨4, at_, c, text, keep⟩) X ∧ Stay X w w' := by
  have HACT := Aside0.mk (show actD D ⟨4, at_, c, text, keep⟩ = _ from by unfold actD; rw [if_neg (by simp), if_neg (by simp), if_neg (by simp), if_pos rfl])
  rw [HACT.out]
  clear HACT
  have hssz := strA_size ⟨4, at_, c, text, keep⟩ hts
  obtain ⟨s, hs⟩ : ∃ s, strA ⟨4, at_, c, text, keep⟩ = s := ⟨_, rfl⟩
  have hcase : ((!text.toList.isEmpty) = false ∧ filledB c = s) ∨ ((!text.toList.isEmpty) = true ∧ text = s) := by
    unfold strA at hs
    by_cases h : (!text.toList.isEmpty) = true
    · rw [if_pos h] at hs
      exact .inr ⟨h, hs⟩
    · rw [if_neg h] at hs
      exact .inl ⟨by simpa using h, hs⟩
  try rw [hs]
  rw [hs] at hssz
  clear hs
  obtain ⟨A0, c0, A1, c1, rfl, rfl⟩ := H.sl
  have hbx := H.bx
  have HP := Aside0.mk H
  have HF := Aside0.mk hk
  have HBX := Aside0.mk hbx
  have HW0 := Aside0.mk H.below.size
  clear H hk hbx
  go_enter Try.func26, Try.ntmps26
  go_wp2_with (first | ((with_reducible refine gate_dst (N := 4) rfl ?_); refine box_event rfl (N := 4) rfl (cs := #[.slice A0 D.sure.length c0, .slice A1 D.wait.length c1, .int .i64 D.fuse, .bool D.off]) (t := TQ) ?hr ?_; (case hr => first | (go_simp; done) | (go_simp; rfl)); intro b4 hg4 w1 hx4 hB1; have HP1 := Aside0.mk (HP.out.guard hB1 (Nat.le_of_eq hg4.symm) (blk_lt hx4)); have HX4 := Aside0.mk hx4; have HB1 := Aside0.mk hB1; have HN1 := Aside0.mk (And.intro (Nat.le_of_eq hg4.symm) (blk_lt hx4)); clear hg4 hx4 hB1) | ((with_reducible refine gate_dst (N := 5) rfl ?_); refine box_event rfl (N := 5) rfl (cs := #[.int .i64 4, .int .i64 at_, .int .u8 c, .string text, .slice A5 keep.length c5]) (t := TA) ?hr ?_; (case hr => first | (go_simp; done) | (go_simp; rfl)); intro b5 hg5 w2 hx5 hB2; have HP2 := Aside0.mk (HP1.out.guard hB2 (Nat.le_of_eq hg5.symm) (blk_lt hx5)); have HX42 := Aside0.mk (blk_below HX4.out hB2); have HX5 := Aside0.mk hx5; have HB2 := Aside0.mk (below_step HB1.out hB2); have HN2 := Aside0.mk (And.intro HN1.out.1 (And.intro (show b4 < b5 by rw [hg5]; exact HN1.out.2) (blk_lt hx5))); have h50 : w2.cell? ⟨b5, 0, none⟩ = some (.int .i64 4) := (cell_of_row w2 b5 0 _ _ _ hx5).trans rfl; clear hg5 hx5 hB2 h50 HP1 HX4 HB1) | ((with_reducible refine gate_dst (N := 6) rfl ?_); refine box_event rfl (N := 6) rfl (cs := #[.slice none 0 0, .slice none 0 0, .int .i64 0, .bool false]) (t := TQ) ?hr ?_; (case hr => first | (go_simp; done) | (go_simp; rfl)); intro b6 hg6 w3 hx6 hB3; have HP3 := Aside0.mk (HP2.out.guard hB3 (Nat.le_of_eq hg6.symm) (blk_lt hx6)); have HX43 := Aside0.mk (blk_below HX42.out hB3); have HX53 := Aside0.mk (blk_below HX5.out hB3); have HX6 := Aside0.mk hx6; have HB3 := Aside0.mk (below_step HB2.out hB3); have HN3 := Aside0.mk (And.intro HN2.out.1 (And.intro HN2.out.2.1 (And.intro (show b5 < b6 by rw [hg6]; exact HN2.out.2.2) (blk_lt hx6)))); have h52 : w3.cell? ⟨b5, 2, none⟩ = some (.int .u8 c) := (cell_of_row w3 b5 2 _ _ _ HX53.out).trans rfl; clear hg6 hx6 hB3 HP2 HX42 HX5 HB2))
  refine (filled_at c _).mono ?_
  rintro e w7 ⟨rfl, hb7⟩
  have HP7 := Aside0.mk (HP3.out.step hb7)
  have HX47 := Aside0.mk (blk_below HX43.out hb7)
  have HX57 := Aside0.mk (blk_below HX53.out hb7)
  have HX67 := Aside0.mk (blk_below HX6.out hb7)
  have HB7 := Aside0.mk (below_step HB3.out hb7)
  have HST := Aside0.mk (Stay.of_below HBX.out HB7.out)
  have HF7 := Aside0.mk (Kd.F_below HF.out HB7.out)
  have h50 : w7.cell? ⟨b5, 0, none⟩ = some (.int .i64 4) := (cell_of_row w7 b5 0 _ _ _ HX57.out).trans rfl
  have h51 : w7.cell? ⟨b5, 1, none⟩ = some (.int .i64 at_) := (cell_of_row w7 b5 1 _ _ _ HX57.out).trans rfl
  have h53 : w7.cell? ⟨b5, 3, none⟩ = some (.string text) := (cell_of_row w7 b5 3 _ _ _ HX57.out).trans rfl
  have h54 : w7.cell? ⟨b5, 4, none⟩ = some (.slice A5 keep.length c5) := (cell_of_row w7 b5 4 _ _ _ HX57.out).trans rfl
  clear h52 hb7 HP3 HX43 HX53 HX6 HB3 HP HF
  have HXN : Aside0 (∀ k, X k → k < w.heap.size) := HBX
  rcases hcase with ⟨htx, hfl⟩ | ⟨htx, hfl⟩
  all_goals
    subst hfl
    go_wp2_with fail
    have HC5 : Aside0 (w7.cell? ⟨b5, 4, none⟩ = some (.slice A5 keep.length c5)) := ⟨(cell_of_row w7 b5 4 _ _ _ HX57.out).trans rfl⟩
    have HR4 : Aside0 (w7.rangeAt b4 0 [.slice A0 D.sure.length c0, .slice A1 D.wait.length c1, .int .i64 D.fuse, .bool D.off]) := ⟨fun j v hv => by rw [cell_of_row w7 b4 _ _ _ _ HX47.out]; simpa using hv⟩
    clear h50 h51 h53 h54
    refine start_ (n := 11) (S := fun w' => w'.cell? ⟨b5, 4, none⟩ = some (.slice A5 keep.length c5) ∧ w'.rangeAt b4 0 [.slice A0 D.sure.length c0, .slice A1 D.wait.length c1, .int .i64 D.fuse, .bool D.off]) (ds := [9, 10]) #[Z,Z,Z,Z,Z,Z,Z,Z,Z,Z,Z] (by kernel_rfl) rfl rfl (⟨HC5.out, by rw [World.rangeAt_drew]; exact HR4.out⟩) (fun hHeld => ?_)
    refine take_ (i := 0) (N := (some 72)) (v := .agg #[.slice A0 D.sure.length c0, .slice A1 D.wait.length c1, .int .i64 D.fuse, .bool D.off]) (a' := ?_) #[Y,Z,Z,Z,Z,Z,Z,Z,Z,Z,Z] rfl rfl (by kernel_rfl) (fun _ _ _ h => h) (yieldsIf_load_mid (by rfl) TQ (.tmp 4) rfl b4 0 rfl [.slice A0 D.sure.length c0, .slice A1 D.wait.length c1, .int .i64 D.fuse, .bool D.off] _ (fun w (h : _ ∧ _) => h.2) Try.underlying44 rfl size_Q) hHeld ?_ ?_
    rotate_left
    · simp only [Act.put, List.setIfInBounds_toArray, List.set_cons_zero, List.set_cons_succ, i64_w, i32_w]
      rfl
    refine pure_ (i := 1) (N := (some 73)) (v := ?_) (a' := ?_) #[Y,Y,Z,Z,Z,Z,Z,Z,Z,Z,Z] rfl rfl (by kernel_rfl) (fun _ _ _ h => h) (Or.inl ⟨by rfl, ?_⟩) ?_ ?_
    rotate_left
    · intro w'
      go_simp
      with_reducible rfl
    rotate_left
    · simp only [Act.put, List.setIfInBounds_toArray, List.set_cons_zero, List.set_cons_succ, i64_w, i32_w]
      rfl
    refine take_ (i := 2) (N := (some 74)) (v := ?_) (a' := ?_) #[Y,Y,Y,Z,Z,Z,Z,Z,Z,Z,Z] rfl rfl (by kernel_rfl) (fun _ _ _ h => h) (Or.inl ⟨by rfl, ?_⟩) hHeld ?_ ?_
    rotate_left
    · intro w' s0
      go_simp
      with_reducible rfl
    rotate_left
    · simp only [Act.put, List.setIfInBounds_toArray, List.set_cons_zero, List.set_cons_succ, i64_w, i32_w]
      rfl
    refine pure_ (i := 4) (N := (some 76)) (v := ?_) (a' := ?_) #[Y,Y,Y,Z,Y,Z,Z,Z,Z,Z,Z] rfl rfl (by kernel_rfl) (fun _ _ _ h => h) (Or.inl ⟨by rfl, ?_⟩) ?_ ?_
    rotate_left
    · intro w'
      go_simp
      with_reducible rfl
    rotate_left
    · simp only [Act.put, List.setIfInBounds_toArray, List.set_cons_zero, List.set_cons_succ, i64_w, i32_w]
      rfl
    refine pure_ (i := 5) (N := (some 77)) (v := ?_) (a' := ?_) #[Y,Y,Y,Z,Y,Y,Z,Z,Z,Z,Z] rfl rfl (by kernel_rfl) (fun _ _ _ h => h) (Or.inl ⟨by rfl, ?_⟩) ?_ ?_
    rotate_left
    · intro w'
      go_simp
      with_reducible rfl
    rotate_left
    · simp only [Act.put, List.setIfInBounds_toArray, List.set_cons_zero, List.set_cons_succ, i64_w, i32_w]
      rfl
    refine take_ (i := 6) (N := (some 78)) (v := ?_) (a' := ?_) #[Y,Y,Y,Z,Y,Y,Y,Z,Z,Z,Z] rfl rfl (by kernel_rfl) (fun _ _ _ h => h) (Or.inl ⟨by rfl, ?_⟩) hHeld ?_ ?_
    rotate_left
    · intro w' s0
      go_simp
      with_reducible rfl
    rotate_left
    · simp only [Act.put, List.setIfInBounds_toArray, List.set_cons_zero, List.set_cons_succ, i64_w, i32_w]
      rfl
    have HP7d := Aside0.mk (HP7.out.step (below_drew (Below.refl _ _)))
    refine one_ (i := 3) (N := (some 75)) #[Y,Y,Y,Y,Y,Y,Y,Z,Z,Z,Z] rfl rfl (by kernel_rfl) (by decide) (fun K hK => ?_)
    refine goes_ Try.func69 (by kernel_rfl) rfl #[.agg #[.slice A0 D.sure.length c0, .slice A1 D.wait.length c1, .int .i64 D.fuse, .bool D.off], .slice A5 keep.length c5] (by rfl) rfl rfl (by (try simp only [List.map_toArray, List.map_cons, List.map_nil]); first | done | rfl) ?_
    refine (pr_rcrash HP7d.out hl A5 c5 keep (Kd.C_drew (Kd.F_now HF7.out)) hkc hkl).mono ?_
    rintro e w8 ⟨u0, u1, rfl, h8, st8⟩
    obtain ⟨B0, d0, B1, d1, rfl, rfl⟩ := h8.sl
    have HF8 : Aside0 (Kd.F (Kd.int .i64) w8 (fun k => k < w0.heap.size) A5 keep.length keep) := ⟨Kd.F_step HF7.out (fun k hk hlt => (h8.below.block k hk).trans (HP7.out.below.block k hk).symm)⟩
    generalize hC : crashD D keep = C at h8 ⊢
    have HC := Aside0.mk hC
    have HP8 := Aside0.mk h8
    have HS8 := Aside0.mk st8
    refine ⟨_, rfl, ?_⟩
    refine hK.out _ _ ⟨(st8.cell (.inl (.inr rfl)) 4).trans HC5.out, fun j v hv => (st8.cell (.inl (.inl (.inr rfl))) (0 + j)).trans (HR4.out j v hv)⟩ (fun hHeld => ?_)
    clear h8 st8 hC
    clear hK K
    refine norm_ (a' := ?_) ?_ ?_
    rotate_left
    · show Act.put _ (some 75) _ = _
      simp only [Act.put, List.setIfInBounds_toArray, List.set_cons_zero, List.set_cons_succ, i64_w, i32_w]
      rfl
    refine one_ (i := 7) (N := (some 79)) #[Y,Y,Y,Y,Y,Y,Y,Y,Z,Z,Z] rfl rfl (by kernel_rfl) (by decide) (fun K hK => ?_)
    refine goes_ Try.func21 (by kernel_rfl) rfl #[.pointer (some ⟨g, 0, none⟩), .slice A5 keep.length c5] (by rfl) rfl rfl (by (try simp only [List.map_toArray, List.map_cons, List.map_nil]); first | done | rfl) ?_
    refine (pr_crash HP8.out A5 c5 keep HF8.out hkl).mono ?_
    rintro e w11 ⟨rfl, h11, st11⟩
    rw [HC.out] at h11
    refine ⟨_, rfl, ?_⟩
    have HP11 := Aside0.mk h11
    have HX611 := Aside0.mk ((st11 b6 (.inr rfl)).trans ((HS8.out b6 (.inr rfl)).trans HX67.out))
    have HST11 := Aside0.mk ((HST.out.trans (HS8.out.less (fun k hk => .inl (.inl (.inl hk))))).trans (st11.less (fun k hk => .inl (.inl (.inl hk)))))
    refine hK.out _ _ ⟨(st11.cell (.inl (.inr rfl)) 4).trans ((HS8.out.cell (.inl (.inr rfl)) 4).trans HC5.out), fun j v hv => (st11.cell (.inl (.inl (.inr rfl))) (0 + j)).trans ((HS8.out.cell (.inl (.inl (.inr rfl))) (0 + j)).trans (HR4.out j v hv))⟩ (fun hHeld => ?_)
    clear h11 st11
    clear hK K
    refine norm_ (a' := ?_) ?_ ?_
    rotate_left
    · show Act.put _ (some 79) _ = _
      simp only [Act.put, List.setIfInBounds_toArray, List.set_cons_zero, List.set_cons_succ, i64_w, i32_w]
      rfl
    refine pure_ (i := 8) (N := (some 80)) (v := ?_) (a' := ?_) #[Y,Y,Y,Y,Y,Y,Y,Y,Y,Z,Z] rfl rfl (by kernel_rfl) (fun _ _ _ h => h) (Or.inl ⟨by rfl, ?_⟩) ?_ ?_
    rotate_left
    · intro w'
      go_simp
      with_reducible rfl
    rotate_left
    · simp only [Act.put, List.setIfInBounds_toArray, List.set_cons_zero, List.set_cons_succ, i64_w, i32_w]
      rfl
    refine last_ (i := 9) (N := none) #[Y,Y,Y,Y,Y,Y,Y,Y,Y,Y,Z] rfl rfl (by kernel_rfl) (by decide) (fun K hK => ?_)
    refine skip_ (w1 := w11.setRow b6 #[.slice B0 C.sure.length d0, .slice B1 C.wait.length d1, .int .i64 C.fuse, .bool C.off]) (by rfl) rfl (run_store_row TQ (.tmp 6) (.tmp 75) rfl b6 #[.slice B0 C.sure.length d0, .slice B1 C.wait.length d1, .int .i64 C.fuse, .bool C.off] rfl rfl TQ _ HX611.out size_Q rfl (q_one _ _ _ _ rfl rfl rfl rfl)) ?_
    refine hK.out _ _ ?_
    clear hK K
    refine pure_ (i := 10) (N := (some 7)) (v := ?_) (a' := ?_) #[Y,Y,Y,Y,Y,Y,Y,Y,Y,Y,Y] rfl rfl (by kernel_rfl) (fun _ _ _ h => h) (Or.inl ⟨by rfl, ?_⟩) ?_ ?_
    rotate_left
    · intro w'
      go_simp
      with_reducible rfl
    rotate_left
    · simp only [Act.put, List.setIfInBounds_toArray, List.set_cons_zero, List.set_cons_succ, i64_w, i32_w]
      rfl
    refine done_ (by kernel_rfl) ?_
    have hrs := rowSet_mk (cells := #[.slice B0 C.sure.length d0, .slice B1 C.wait.length d1, .int .i64 C.fuse, .bool C.off]) HX611.out
    have HRS := Aside0.mk hrs
    clear hrs
    go_wp2
    refine bodyPost_ret (results_ct rfl _ _ b6 TQ #[.slice B0 C.sure.length d0, .slice B1 C.wait.length d1, .int .i64 C.fuse, .bool C.off] (0, 0) _ rfl HRS.out.at_ Try.underlying44 rfl size_Q) rfl ?_
    rw [HC.out]
    refine ⟨_, _, rfl, ?_, ?_⟩
    · exact (HP11.out.own (.inr rfl) HRS.out.size HRS.out.other (HRS.out.below HP11.out.below (by have := HW0.out; have := HN3.out; omega))).less (fun k hk => .inl (.inl (.inl hk)))
    · exact HST11.out.trans (fun k hk => HRS.out.other k (by have := HXN.out k hk; have := HN3.out; omega))

set_option maxHeartbeats 2000000 in
set_option maxRecDepth 100000 in
theorem does_5 {w0 w : World} {g : Nat} {v0 v1 : Value} {D : DS} {X : Nat → Prop} (H : Prs w0 w g v0 v1 D D X) (hl : D.wait.length ≤ 1000000) (at_ c : Int) (text : ByteArray) (A5 : Option Addr) (c5 : Nat) (keep : List Int)
    (hk : Kd.F (Kd.int .i64) w (fun k => k < w0.heap.size) A5 keep.length keep) (hkl : keep.length ≤ 9223372036854775807) (hkc : keep.length ≤ c5) (hat : at_ ≤ 9223372036854775807) (hts : text.size ≤ 9223372036854775807) :
    Calls Try.prog 26 #[.pointer (some ⟨g, 0, none⟩), .agg #[v0, v1, .int .i64 D.fuse, .bool D.off], .agg #[.int .i64 5, .int .i64 at_, .int .u8 c, .string text, .slice A5 keep.length c5]] w fun e w' =>
      ∃ v0' v1', e = .returned (.tuple #[.agg #[v0', v1', .int .i64 (actD D ⟨5, at_, c, text, keep⟩).fuse, .bool (actD D ⟨5, at_, c, text, keep⟩).off], .bool true]) ∧ Prs w0 w' g v0' v1' (actD D ⟨5, at_, c, text, keep⟩) (actD D ⟨5, at_, c, text, keep⟩) X ∧ Stay X w w' := by
  have HACT := Aside0.mk (show actD D ⟨5, at_, c, text, keep⟩ = _ from by unfold actD; rw [if_neg (by simp), if_neg (by simp), if_neg (by simp), if_neg (by simp), if_pos rfl])
  rw [HACT.out]
  clear HACT
  have hssz := strA_size ⟨5, at_, c, text, keep⟩ hts
  obtain ⟨s, hs⟩ : ∃ s, strA ⟨5, at_, c, text, keep⟩ = s := ⟨_, rfl⟩
  have hcase : ((!text.toList.isEmpty) = false ∧ filledB c = s) ∨ ((!text.toList.isEmpty) = true ∧ text = s) := by
    unfold strA at hs
    by_cases h : (!text.toList.isEmpty) = true
    · rw [if_pos h] at hs
      exact .inr ⟨h, hs⟩
    · rw [if_neg h] at hs
      exact .inl ⟨by simpa using h, hs⟩
  try rw [hs]
  rw [hs] at hssz
  clear hs
  obtain ⟨A0, c0, A1, c1, rfl, rfl⟩ := H.sl
  have hbx := H.bx
  have HP := Aside0.mk H
  have HF := Aside0.mk hk
  have HBX := Aside0.mk hbx
  have HW0 := Aside0.mk H.below.size
  clear H hk hbx
  go_enter Try.func26, Try.ntmps26
  go_wp2_with (first | ((with_reducible refine gate_dst (N := 4) rfl ?_); refine box_event rfl (N := 4) rfl (cs := #[.slice A0 D.sure.length c0, .slice A1 D.wait.length c1, .int .i64 D.fuse, .bool D.off]) (t := TQ) ?hr ?_; (case hr => first | (go_simp; done) | (go_simp; rfl)); intro b4 hg4 w1 hx4 hB1; have HP1 := Aside0.mk (HP.out.guard hB1 (Nat.le_of_eq hg4.symm) (blk_lt hx4)); have HX4 := Aside0.mk hx4; have HB1 := Aside0.mk hB1; have HN1 := Aside0.mk (And.intro (Nat.le_of_eq hg4.symm) (blk_lt hx4)); clear hg4 hx4 hB1) | ((with_reducible refine gate_dst (N := 5) rfl ?_); refine box_event rfl (N := 5) rfl (cs := #[.int .i64 5, .int .i64 at_, .int .u8 c, .string text, .slice A5 keep.length c5]) (t := TA) ?hr ?_; (case hr => first | (go_simp; done) | (go_simp; rfl)); intro b5 hg5 w2 hx5 hB2; have HP2 := Aside0.mk (HP1.out.guard hB2 (Nat.le_of_eq hg5.symm) (blk_lt hx5)); have HX42 := Aside0.mk (blk_below HX4.out hB2); have HX5 := Aside0.mk hx5; have HB2 := Aside0.mk (below_step HB1.out hB2); have HN2 := Aside0.mk (And.intro HN1.out.1 (And.intro (show b4 < b5 by rw [hg5]; exact HN1.out.2) (blk_lt hx5))); have h50 : w2.cell? ⟨b5, 0, none⟩ = some (.int .i64 5) := (cell_of_row w2 b5 0 _ _ _ hx5).trans rfl; clear hg5 hx5 hB2 h50 HP1 HX4 HB1) | ((with_reducible refine gate_dst (N := 6) rfl ?_); refine box_event rfl (N := 6) rfl (cs := #[.slice none 0 0, .slice none 0 0, .int .i64 0, .bool false]) (t := TQ) ?hr ?_; (case hr => first | (go_simp; done) | (go_simp; rfl)); intro b6 hg6 w3 hx6 hB3; have HP3 := Aside0.mk (HP2.out.guard hB3 (Nat.le_of_eq hg6.symm) (blk_lt hx6)); have HX43 := Aside0.mk (blk_below HX42.out hB3); have HX53 := Aside0.mk (blk_below HX5.out hB3); have HX6 := Aside0.mk hx6; have HB3 := Aside0.mk (below_step HB2.out hB3); have HN3 := Aside0.mk (And.intro HN2.out.1 (And.intro HN2.out.2.1 (And.intro (show b5 < b6 by rw [hg6]; exact HN2.out.2.2) (blk_lt hx6)))); have h52 : w3.cell? ⟨b5, 2, none⟩ = some (.int .u8 c) := (cell_of_row w3 b5 2 _ _ _ HX53.out).trans rfl; clear hg6 hx6 hB3 HP2 HX42 HX5 HB2))
  refine (filled_at c _).mono ?_
  rintro e w7 ⟨rfl, hb7⟩
  have HP7 := Aside0.mk (HP3.out.step hb7)
  have HX47 := Aside0.mk (blk_below HX43.out hb7)
  have HX57 := Aside0.mk (blk_below HX53.out hb7)
  have HX67 := Aside0.mk (blk_below HX6.out hb7)
  have HB7 := Aside0.mk (below_step HB3.out hb7)
  have HST := Aside0.mk (Stay.of_below HBX.out HB7.out)
  have HF7 := Aside0.mk (Kd.F_below HF.out HB7.out)
  have h50 : w7.cell? ⟨b5, 0, none⟩ = some (.int .i64 5) := (cell_of_row w7 b5 0 _ _ _ HX57.out).trans rfl
  have h51 : w7.cell? ⟨b5, 1, none⟩ = some (.int .i64 at_) := (cell_of_row w7 b5 1 _ _ _ HX57.out).trans rfl
  have h53 : w7.cell? ⟨b5, 3, none⟩ = some (.string text) := (cell_of_row w7 b5 3 _ _ _ HX57.out).trans rfl
  have h54 : w7.cell? ⟨b5, 4, none⟩ = some (.slice A5 keep.length c5) := (cell_of_row w7 b5 4 _ _ _ HX57.out).trans rfl
  clear h52 hb7 HP3 HX43 HX53 HX6 HB3 HP HF
  have HXN : Aside0 (∀ k, X k → k < w.heap.size) := HBX
  rcases hcase with ⟨htx, hfl⟩ | ⟨htx, hfl⟩
  all_goals
    subst hfl
    go_wp2_with (first | ((with_reducible refine gate_dst (N := 84) rfl ?_); refine wpList_load_row rfl TQ (.tmp 4) rfl b4 rfl TQ #[.slice A0 D.sure.length c0, .slice A1 D.wait.length c1, .int .i64 D.fuse, .bool D.off] (0, 0) _ HX47.out Try.underlying44 rfl size_Q ?_))
    refine (pr_rspoil HP7.out _ _ hl).mono ?_
    rintro e w8 ⟨u0, u1, rfl, h8, st8⟩
    obtain ⟨B0, d0, B1, d1, rfl, rfl⟩ := h8.sl
    have HP8 := Aside0.mk h8
    have HX58 := Aside0.mk ((st8 b5 (.inl (.inr rfl))).trans HX57.out)
    have HX68 := Aside0.mk ((st8 b6 (.inr rfl)).trans HX67.out)
    have HST8 := Aside0.mk (HST.out.trans (st8.less (fun k hk => .inl (.inl (.inl hk)))))
    clear h8 st8 HP7 HX47 HX57 HX67 HST h50 h51 h53 h54
    generalize hC : (spoilD D at_ _).1 = C at HP8 ⊢
    generalize hE : (spoilD D at_ _).2 = E
    have HC := Aside0.mk hC
    have HE := Aside0.mk hE
    clear hC hE
    go_wp2_with (first | ((with_reducible refine gate_dst (N := 13) rfl ?_); refine box_event rfl (N := 13) rfl (cs := #[.slice none 0 0, .slice none 0 0, .int .i64 0, .bool false]) (t := TQ) ?hr ?_; (case hr => first | (go_simp; done) | (go_simp; rfl)); intro b9 hg9 w9 hx9 hB9; have HP9 := Aside0.mk (HP8.out.guard hB9 (Nat.le_of_eq hg9.symm) (blk_lt hx9)); have HX9 := Aside0.mk hx9; have HX59 := Aside0.mk (blk_below HX58.out hB9); have HX69 := Aside0.mk (blk_below HX68.out hB9); have HST9 := Aside0.mk (HST8.out.trans (fun k hk => hB9.block k (HP8.out.bx k (.inl (.inl (.inl hk)))))); have HN9 := Aside0.mk (And.intro (show b5 < b9 by rw [hg9]; exact blk_lt HX58.out) (And.intro (show b6 < b9 by rw [hg9]; exact blk_lt HX68.out) (And.intro (show w0.heap.size ≤ b9 by rw [hg9]; exact HP8.out.below.size) (show ∀ k, X k → k < b9 by rw [hg9]; exact fun k hk => HP8.out.bx k (.inl (.inl (.inl hk))))))); clear hg9 hx9 hB9 HP8 HX58 HX68 HST8) | ((with_reducible refine gate_store (t := TQ) (p := .tmp 13) (x := .tmp 89) rfl ?_); refine row_store_event rfl TQ (.tmp 13) (.tmp 89) rfl b9 #[.slice B0 C.sure.length d0, .slice B1 C.wait.length d1, .int .i64 C.fuse, .bool C.off] rfl rfl TQ _ HX9.out size_Q rfl (q_one _ _ _ _ rfl rfl rfl rfl) ?_; intro w10 hs; have HP10 := Aside0.mk (HP9.out.own (.inr rfl) hs.size hs.other (hs.below HP9.out.below HN9.out.2.2.1)); have HX510 := Aside0.mk ((hs.other b5 (by have := HN9.out.1; omega)).trans HX59.out); have HX610 := Aside0.mk ((hs.other b6 (by have := HN9.out.2.1; omega)).trans HX69.out); have HX910 := Aside0.mk hs.at_; have HST10 := Aside0.mk (HST9.out.trans (fun k hk => hs.other k (by have := HN9.out.2.2.2 k hk; omega))); clear hs HP9 HX9 HX59 HX69 HST9))
    have HC51 : Aside0 (w10.cell? ⟨b5, 1, none⟩ = some (.int .i64 at_)) := ⟨(cell_of_row w10 b5 1 _ _ _ HX510.out).trans rfl⟩
    have HR9 : Aside0 (w10.rangeAt b9 0 [.slice B0 C.sure.length d0, .slice B1 C.wait.length d1, .int .i64 C.fuse, .bool C.off]) := ⟨fun j v hv => by rw [cell_of_row w10 b9 _ _ _ _ HX910.out]; simpa using hv⟩
    refine start_ (n := 10) (S := fun w' => w'.cell? ⟨b5, 1, none⟩ = some (.int .i64 at_) ∧ w'.rangeAt b9 0 [.slice B0 C.sure.length d0, .slice B1 C.wait.length d1, .int .i64 C.fuse, .bool C.off]) (ds := [8, 9]) #[Z,Z,Z,Z,Z,Z,Z,Z,Z,Z] (by kernel_rfl) rfl rfl (⟨HC51.out, by rw [World.rangeAt_drew]; exact HR9.out⟩) (fun hHeld => ?_)
    refine take_ (i := 0) (N := (some 91)) (v := .agg #[.slice B0 C.sure.length d0, .slice B1 C.wait.length d1, .int .i64 C.fuse, .bool C.off]) (a' := ?_) #[Y,Z,Z,Z,Z,Z,Z,Z,Z,Z] rfl rfl (by kernel_rfl) (fun _ _ _ h => h) (yieldsIf_load_mid (by rfl) TQ (.tmp 13) rfl b9 0 rfl [.slice B0 C.sure.length d0, .slice B1 C.wait.length d1, .int .i64 C.fuse, .bool C.off] _ (fun w (h : _ ∧ _) => h.2) Try.underlying44 rfl size_Q) hHeld ?_ ?_
    rotate_left
    · simp only [Act.put, List.setIfInBounds_toArray, List.set_cons_zero, List.set_cons_succ, i64_w, i32_w]
      rfl
    refine pure_ (i := 1) (N := (some 92)) (v := ?_) (a' := ?_) #[Y,Y,Z,Z,Z,Z,Z,Z,Z,Z] rfl rfl (by kernel_rfl) (fun _ _ _ h => h) (Or.inl ⟨by rfl, ?_⟩) ?_ ?_
    rotate_left
    · intro w'
      go_simp
      with_reducible rfl
    rotate_left
    · simp only [Act.put, List.setIfInBounds_toArray, List.set_cons_zero, List.set_cons_succ, i64_w, i32_w]
      rfl
    refine pure_ (i := 2) (N := (some 93)) (v := ?_) (a' := ?_) #[Y,Y,Y,Z,Z,Z,Z,Z,Z,Z] rfl rfl (by kernel_rfl) (fun _ _ _ h => h) (Or.inl ⟨by rfl, ?_⟩) ?_ ?_
    rotate_left
    · intro w'
      go_simp
      with_reducible rfl
    rotate_left
    · simp only [Act.put, List.setIfInBounds_toArray, List.set_cons_zero, List.set_cons_succ, i64_w, i32_w]
      rfl
    refine take_ (i := 3) (N := (some 94)) (v := ?_) (a' := ?_) #[Y,Y,Y,Y,Z,Z,Z,Z,Z,Z] rfl rfl (by kernel_rfl) (fun _ _ _ h => h) (Or.inl ⟨by rfl, ?_⟩) hHeld ?_ ?_
    rotate_left
    · intro w' s0
      go_simp
      with_reducible rfl
    rotate_left
    · simp only [Act.put, List.setIfInBounds_toArray, List.set_cons_zero, List.set_cons_succ, i64_w, i32_w]
      rfl
    refine pure_ (i := 4) (N := (some 95)) (v := ?_) (a' := ?_) #[Y,Y,Y,Y,Y,Z,Z,Z,Z,Z] rfl rfl (by kernel_rfl) (fun _ _ _ h => h) (Or.inl ⟨by rfl, ?_⟩) ?_ ?_
    rotate_left
    · intro w'
      go_simp
      with_reducible rfl
    rotate_left
    · simp only [Act.put, List.setIfInBounds_toArray, List.set_cons_zero, List.set_cons_succ, i64_w, i32_w]
      rfl
    refine pure_ (i := 6) (N := (some 97)) (v := ?_) (a' := ?_) #[Y,Y,Y,Y,Y,Z,Y,Z,Z,Z] rfl rfl (by kernel_rfl) (fun _ _ _ h => h) (Or.inl ⟨by rfl, ?_⟩) ?_ ?_
    rotate_left
    · intro w'
      go_simp
      with_reducible rfl
    rotate_left
    · simp only [Act.put, List.setIfInBounds_toArray, List.set_cons_zero, List.set_cons_succ, i64_w, i32_w]
      rfl
    refine one_ (i := 5) (N := (some 96)) #[Y,Y,Y,Y,Y,Y,Y,Z,Z,Z] rfl rfl (by kernel_rfl) (by decide) (fun K hK => ?_)
    refine goes_ Try.func29 (by kernel_rfl) rfl #[.pointer (some ⟨g, 0, none⟩), .int .i64 at_, .string _] (by rfl) rfl rfl (by (try simp only [List.map_toArray, List.map_cons, List.map_nil]); first | done | rfl) ?_
    refine (pr_spoil (HP10.out.step (below_drew (Below.refl _ _))) at_ _ hssz hl).mono ?_
    rintro e w11 ⟨rfl, h11, st11⟩
    refine ⟨_, rfl, ?_⟩
    rw [HC.out] at h11
    rw [HE.out]
    have HP11 := Aside0.mk h11
    have HX611 := Aside0.mk ((st11 b6 (.inl (.inr rfl))).trans HX610.out)
    have HST11 := Aside0.mk (HST10.out.trans (st11.less (fun k hk => .inl (.inl (.inl (.inl hk))))))
    refine hK.out _ _ ⟨(st11.cell (.inl (.inl (.inr rfl))) 1).trans HC51.out, fun j v hv => (st11.cell (.inr rfl) (0 + j)).trans (HR9.out j v hv)⟩ (fun hHeld => ?_)
    clear h11 st11
    clear hK K
    refine norm_ (a' := ?_) ?_ ?_
    rotate_left
    · show Act.put _ (some 96) _ = _
      simp only [Act.put, List.setIfInBounds_toArray, List.set_cons_zero, List.set_cons_succ, i64_w, i32_w]
      rfl
    refine pure_ (i := 7) (N := (some 98)) (v := ?_) (a' := ?_) #[Y,Y,Y,Y,Y,Y,Y,Y,Z,Z] rfl rfl (by kernel_rfl) (fun _ _ _ h => h) (Or.inl ⟨by rfl, ?_⟩) ?_ ?_
    rotate_left
    · intro w'
      go_simp
      with_reducible rfl
    rotate_left
    · simp only [Act.put, List.setIfInBounds_toArray, List.set_cons_zero, List.set_cons_succ, i64_w, i32_w]
      rfl
    refine last_ (i := 8) (N := none) #[Y,Y,Y,Y,Y,Y,Y,Y,Y,Z] rfl rfl (by kernel_rfl) (by decide) (fun K hK => ?_)
    refine skip_ (w1 := w11.setRow b6 #[.slice B0 C.sure.length d0, .slice B1 C.wait.length d1, .int .i64 C.fuse, .bool C.off]) (by rfl) rfl (run_store_row TQ (.tmp 6) (.tmp 91) rfl b6 #[.slice B0 C.sure.length d0, .slice B1 C.wait.length d1, .int .i64 C.fuse, .bool C.off] rfl rfl TQ _ HX611.out size_Q rfl (q_one _ _ _ _ rfl rfl rfl rfl)) ?_
    refine hK.out _ _ ?_
    clear hK K
    refine pure_ (i := 9) (N := (some 7)) (v := ?_) (a' := ?_) #[Y,Y,Y,Y,Y,Y,Y,Y,Y,Y] rfl rfl (by kernel_rfl) (fun _ _ _ h => h) (Or.inl ⟨by rfl, ?_⟩) ?_ ?_
    rotate_left
    · intro w'
      go_simp
      with_reducible rfl
    rotate_left
    · simp only [Act.put, List.setIfInBounds_toArray, List.set_cons_zero, List.set_cons_succ, i64_w, i32_w]
      rfl
    refine done_ (by kernel_rfl) ?_
    have hrs := rowSet_mk (cells := #[.slice B0 C.sure.length d0, .slice B1 C.wait.length d1, .int .i64 C.fuse, .bool C.off]) HX611.out
    have HRS := Aside0.mk hrs
    clear hrs
    go_wp2
    refine bodyPost_ret (results_ct rfl _ _ b6 TQ #[.slice B0 C.sure.length d0, .slice B1 C.wait.length d1, .int .i64 C.fuse, .bool C.off] (0, 0) _ rfl HRS.out.at_ Try.underlying44 rfl size_Q) rfl ?_
    rw [HC.out]
    refine ⟨_, _, rfl, ?_, ?_⟩
    · exact (HP11.out.own (.inl (.inr rfl)) HRS.out.size HRS.out.other (HRS.out.below HP11.out.below (by have := HW0.out; have := HN3.out; omega))).less (fun k hk => .inl (.inl (.inl (.inl hk))))
    · exact HST11.out.trans (fun k hk => HRS.out.other k (by have := HXN.out k hk; have := HN3.out; omega))

set_option maxHeartbeats 2000000 in
set_option maxRecDepth 100000 in
theorem does_0 {w0 w : World} {g : Nat} {v0 v1 : Value} {D : DS} {X : Nat → Prop} (H : Prs w0 w g v0 v1 D D X) (hl : D.wait.length ≤ 1000000) (kind at_ c : Int) (text : ByteArray) (A5 : Option Addr) (c5 : Nat) (keep : List Int)
    (hk : Kd.F (Kd.int .i64) w (fun k => k < w0.heap.size) A5 keep.length keep) (hkl : keep.length ≤ 9223372036854775807) (hkc : keep.length ≤ c5) (hat : at_ ≤ 9223372036854775807) (hts : text.size ≤ 9223372036854775807) (h1 : ¬ kind = 1) (h2 : ¬ kind = 2) (h3 : ¬ kind = 3) (h4 : ¬ kind = 4) (h5 : ¬ kind = 5) :
    Calls Try.prog 26 #[.pointer (some ⟨g, 0, none⟩), .agg #[v0, v1, .int .i64 D.fuse, .bool D.off], .agg #[.int .i64 kind, .int .i64 at_, .int .u8 c, .string text, .slice A5 keep.length c5]] w fun e w' =>
      ∃ v0' v1', e = .returned (.tuple #[.agg #[v0', v1', .int .i64 (actD D ⟨kind, at_, c, text, keep⟩).fuse, .bool (actD D ⟨kind, at_, c, text, keep⟩).off], .bool true]) ∧ Prs w0 w' g v0' v1' (actD D ⟨kind, at_, c, text, keep⟩) (actD D ⟨kind, at_, c, text, keep⟩) X ∧ Stay X w w' := by
  have HACT := Aside0.mk (show actD D ⟨kind, at_, c, text, keep⟩ = _ from by unfold actD; rw [if_neg h1, if_neg h2, if_neg h3, if_neg h4, if_neg h5])
  rw [HACT.out]
  clear HACT
  have hssz := strA_size ⟨kind, at_, c, text, keep⟩ hts
  obtain ⟨s, hs⟩ : ∃ s, strA ⟨kind, at_, c, text, keep⟩ = s := ⟨_, rfl⟩
  have hcase : ((!text.toList.isEmpty) = false ∧ filledB c = s) ∨ ((!text.toList.isEmpty) = true ∧ text = s) := by
    unfold strA at hs
    by_cases h : (!text.toList.isEmpty) = true
    · rw [if_pos h] at hs
      exact .inr ⟨h, hs⟩
    · rw [if_neg h] at hs
      exact .inl ⟨by simpa using h, hs⟩
  try rw [hs]
  rw [hs] at hssz
  clear hs
  obtain ⟨A0, c0, A1, c1, rfl, rfl⟩ := H.sl
  have hbx := H.bx
  have HP := Aside0.mk H
  have HF := Aside0.mk hk
  have HBX := Aside0.mk hbx
  have HW0 := Aside0.mk H.below.size
  clear H hk hbx
  have k1 : (kind == 1) = false := by simp [h1]
  have k2 : (kind == 2) = false := by simp [h2]
  have k3 : (kind == 3) = false := by simp [h3]
  have k4 : (kind == 4) = false := by simp [h4]
  have k5 : (kind == 5) = false := by simp [h5]
  clear h1 h2 h3 h4 h5
  go_enter Try.func26, Try.ntmps26
  go_wp2_with (first | ((with_reducible refine gate_dst (N := 4) rfl ?_); refine box_event rfl (N := 4) rfl (cs := #[.slice A0 D.sure.length c0, .slice A1 D.wait.length c1, .int .i64 D.fuse, .bool D.off]) (t := TQ) ?hr ?_; (case hr => first | (go_simp; done) | (go_simp; rfl)); intro b4 hg4 w1 hx4 hB1; have HP1 := Aside0.mk (HP.out.guard hB1 (Nat.le_of_eq hg4.symm) (blk_lt hx4)); have HX4 := Aside0.mk hx4; have HB1 := Aside0.mk hB1; have HN1 := Aside0.mk (And.intro (Nat.le_of_eq hg4.symm) (blk_lt hx4)); clear hg4 hx4 hB1) | ((with_reducible refine gate_dst (N := 5) rfl ?_); refine box_event rfl (N := 5) rfl (cs := #[.int .i64 kind, .int .i64 at_, .int .u8 c, .string text, .slice A5 keep.length c5]) (t := TA) ?hr ?_; (case hr => first | (go_simp; done) | (go_simp; rfl)); intro b5 hg5 w2 hx5 hB2; have HP2 := Aside0.mk (HP1.out.guard hB2 (Nat.le_of_eq hg5.symm) (blk_lt hx5)); have HX42 := Aside0.mk (blk_below HX4.out hB2); have HX5 := Aside0.mk hx5; have HB2 := Aside0.mk (below_step HB1.out hB2); have HN2 := Aside0.mk (And.intro HN1.out.1 (And.intro (show b4 < b5 by rw [hg5]; exact HN1.out.2) (blk_lt hx5))); have h50 : w2.cell? ⟨b5, 0, none⟩ = some (.int .i64 kind) := (cell_of_row w2 b5 0 _ _ _ hx5).trans rfl; clear hg5 hx5 hB2 h50 HP1 HX4 HB1) | ((with_reducible refine gate_dst (N := 6) rfl ?_); refine box_event rfl (N := 6) rfl (cs := #[.slice none 0 0, .slice none 0 0, .int .i64 0, .bool false]) (t := TQ) ?hr ?_; (case hr => first | (go_simp; done) | (go_simp; rfl)); intro b6 hg6 w3 hx6 hB3; have HP3 := Aside0.mk (HP2.out.guard hB3 (Nat.le_of_eq hg6.symm) (blk_lt hx6)); have HX43 := Aside0.mk (blk_below HX42.out hB3); have HX53 := Aside0.mk (blk_below HX5.out hB3); have HX6 := Aside0.mk hx6; have HB3 := Aside0.mk (below_step HB2.out hB3); have HN3 := Aside0.mk (And.intro HN2.out.1 (And.intro HN2.out.2.1 (And.intro (show b5 < b6 by rw [hg6]; exact HN2.out.2.2) (blk_lt hx6)))); have h52 : w3.cell? ⟨b5, 2, none⟩ = some (.int .u8 c) := (cell_of_row w3 b5 2 _ _ _ HX53.out).trans rfl; clear hg6 hx6 hB3 HP2 HX42 HX5 HB2))
  refine (filled_at c _).mono ?_
  rintro e w7 ⟨rfl, hb7⟩
  have HP7 := Aside0.mk (HP3.out.step hb7)
  have HX47 := Aside0.mk (blk_below HX43.out hb7)
  have HX57 := Aside0.mk (blk_below HX53.out hb7)
  have HX67 := Aside0.mk (blk_below HX6.out hb7)
  have HB7 := Aside0.mk (below_step HB3.out hb7)
  have HST := Aside0.mk (Stay.of_below HBX.out HB7.out)
  have HF7 := Aside0.mk (Kd.F_below HF.out HB7.out)
  have h50 : w7.cell? ⟨b5, 0, none⟩ = some (.int .i64 kind) := (cell_of_row w7 b5 0 _ _ _ HX57.out).trans rfl
  have h51 : w7.cell? ⟨b5, 1, none⟩ = some (.int .i64 at_) := (cell_of_row w7 b5 1 _ _ _ HX57.out).trans rfl
  have h53 : w7.cell? ⟨b5, 3, none⟩ = some (.string text) := (cell_of_row w7 b5 3 _ _ _ HX57.out).trans rfl
  have h54 : w7.cell? ⟨b5, 4, none⟩ = some (.slice A5 keep.length c5) := (cell_of_row w7 b5 4 _ _ _ HX57.out).trans rfl
  clear h52 hb7 HP3 HX43 HX53 HX6 HB3 HP HF
  have HXN : Aside0 (∀ k, X k → k < w.heap.size) := HBX
  rcases hcase with ⟨htx, hfl⟩ | ⟨htx, hfl⟩
  all_goals
    subst hfl
    go_wp2_with (first | ((with_reducible refine gate_dst (N := 100) rfl ?_); refine wpList_load_row rfl TQ (.tmp 4) rfl b4 rfl TQ #[.slice A0 D.sure.length c0, .slice A1 D.wait.length c1, .int .i64 D.fuse, .bool D.off] (0, 0) _ HX47.out Try.underlying44 rfl size_Q ?_))
    refine (pr_rread HP7.out at_ hl).mono ?_
    rintro e w8 ⟨rfl, h8, st8, hb8⟩
    generalize hS : (readD D at_).1 = rs
    generalize hE : (readD D at_).2 = re
    have HS := Aside0.mk hS
    have HE := Aside0.mk hE
    have HP8 := Aside0.mk h8
    have HX48 := Aside0.mk (blk_below HX47.out hb8)
    have HX58 := Aside0.mk (blk_below HX57.out hb8)
    have HX68 := Aside0.mk (blk_below HX67.out hb8)
    have HST8 := Aside0.mk (HST.out.trans (st8.less (fun k hk => .inl (.inl (.inl hk)))))
    have h51' : w8.cell? ⟨b5, 1, none⟩ = some (.int .i64 at_) := (cell_of_row w8 b5 1 _ _ _ HX58.out).trans rfl
    clear hS hE h8 st8 hb8 HP7 HX47 HX57 HX67 HST h50 h51 h53 h54
    go_wp2_with fail
    refine (pr_read HP8.out at_).mono ?_
    rintro e w11 ⟨rfl, h11, st11⟩
    rw [HS.out, HE.out]
    have HP11 := Aside0.mk h11
    have HX411 := Aside0.mk ((st11 b4 (.inl (.inl (.inr rfl)))).trans HX48.out)
    have HX611 := Aside0.mk ((st11 b6 (.inr rfl)).trans HX68.out)
    have HST11 := Aside0.mk (HST8.out.trans (st11.less (fun k hk => .inl (.inl (.inl hk)))))
    clear h11 st11 HP8 HX48 HX58 HX68 HST8 h51'
    go_wp2_with (first | ((with_reducible refine gate_dst (N := 113) rfl ?_); refine wpList_load_row rfl TQ (.tmp 4) rfl b4 rfl TQ #[.slice A0 D.sure.length c0, .slice A1 D.wait.length c1, .int .i64 D.fuse, .bool D.off] (0, 0) _ HX411.out Try.underlying44 rfl size_Q ?_) | ((with_reducible refine gate_store (t := TQ) (p := .tmp 6) (x := .tmp 113) rfl ?_); refine row_store_event rfl TQ (.tmp 6) (.tmp 113) rfl b6 #[.slice A0 D.sure.length c0, .slice A1 D.wait.length c1, .int .i64 D.fuse, .bool D.off] rfl rfl TQ _ HX611.out size_Q rfl (q_one _ _ _ _ rfl rfl rfl rfl) ?_; intro w12 hs; have HRS := Aside0.mk hs; clear hs))
    refine bodyPost_ret (results_ct rfl _ _ b6 TQ #[.slice A0 D.sure.length c0, .slice A1 D.wait.length c1, .int .i64 D.fuse, .bool D.off] (0, 0) _ rfl HRS.out.at_ Try.underlying44 rfl size_Q) rfl ⟨_, _, rfl, ?_, ?_⟩
    · exact (HP11.out.own (.inr rfl) HRS.out.size HRS.out.other (HRS.out.below HP11.out.below (by have := HW0.out; have := HN3.out; omega))).less (fun k hk => .inl (.inl (.inl hk)))
    · exact HST11.out.trans (fun k hk => HRS.out.other k (by have := HXN.out k hk; have := HN3.out; omega))

theorem does_any {w0 w : World} {g : Nat} {v0 v1 : Value} {D : DS} {X : Nat → Prop} (H : Prs w0 w g v0 v1 D D X) (hl : D.wait.length ≤ 1000000) (x : Act) (A5 : Option Addr) (c5 : Nat)
    (hk : Kd.F (Kd.int .i64) w (fun k => k < w0.heap.size) A5 x.keep.length x.keep) (hkl : x.keep.length ≤ 9223372036854775807) (hkc : x.keep.length ≤ c5) (hat : x.at_ ≤ 9223372036854775807) (hts : x.text.size ≤ 9223372036854775807) :
    Calls Try.prog 26 #[.pointer (some ⟨g, 0, none⟩), .agg #[v0, v1, .int .i64 D.fuse, .bool D.off], .agg #[.int .i64 x.kind, .int .i64 x.at_, .int .u8 x.c, .string x.text, .slice A5 x.keep.length c5]] w fun e w' =>
      ∃ v0' v1', e = .returned (.tuple #[.agg #[v0', v1', .int .i64 (actD D x).fuse, .bool (actD D x).off], .bool true]) ∧ Prs w0 w' g v0' v1' (actD D x) (actD D x) X ∧ Stay X w w' := by
  obtain ⟨kind, at_, c, text, keep⟩ := x
  by_cases h1 : kind = 1
  · subst h1; exact does_1 H hl at_ c text A5 c5 keep hk hkl hkc hat hts
  by_cases h2 : kind = 2
  · subst h2; exact does_2 H hl at_ c text A5 c5 keep hk hkl hkc hat hts
  by_cases h3 : kind = 3
  · subst h3; exact does_3 H hl at_ c text A5 c5 keep hk hkl hkc hat hts
  by_cases h4 : kind = 4
  · subst h4; exact does_4 H hl at_ c text A5 c5 keep hk hkl hkc hat hts
  by_cases h5 : kind = 5
  · subst h5; exact does_5 H hl at_ c text A5 c5 keep hk hkl hkc hat hts
  exact does_0 H hl kind at_ c text A5 c5 keep hk hkl hkc hat hts h1 h2 h3 h4 h5
end Go.Proofs.Ytgjclhhjigflkab.Dev
