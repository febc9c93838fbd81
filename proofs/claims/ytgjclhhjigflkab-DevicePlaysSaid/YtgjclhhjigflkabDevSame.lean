/- The walk of law 04's same. -/
import Derived.Test.YtgjclhhjigflkabDevAct
namespace Go.Proofs.Ytgjclhhjigflkab.Dev
open Go Go.RowKit Go.Proofs.Ytgjclhhjigflkab.D Go.Proofs.Ytgjclhhjigflkab.MyWords Go.Proofs.Ytgjclhhjigflkab.Hand Go.Proofs.YtgjclhhjigflkabW.PrintWords Go.Proofs.YtgjclhhjigflkabW.PrintLast Go.Proofs.YtgjclhhjigflkabW.PrintMore
set_option linter.unusedVariables false
set_option linter.unusedSimpArgs false
abbrev ats (D : DS) (j : Nat) : List Int := (D.wait.take j).map (·.at_)
theorem ats_succ (D : DS) (j : Nat) (h : j < D.wait.length) : ats D (j + 1) = ats D j ++ [D.wait[j].at_] := by
  unfold ats
  rw [List.take_succ_eq_append_getElem h, List.map_append]
  rfl
theorem ats_len (D : DS) (j : Nat) (h : j ≤ D.wait.length) : (ats D j).length = j := by simp [ats]; omega
set_option maxHeartbeats 2000000 in
set_option maxRecDepth 100000 in
theorem same_any {w0 w : World} {g : Nat} {v0 v1 : Value} {D : DS} {X : Nat → Prop} (H : Prs w0 w g v0 v1 D D X) (hl : D.wait.length ≤ 1000000) :
    Calls Try.prog 27 #[.pointer (some ⟨g, 0, none⟩), .agg #[v0, v1, .int .i64 D.fuse, .bool D.off]] w fun e w' => e = .returned (.bool true) ∧ Below w.heap.size w w' := by
  obtain ⟨A0, c0, A1, c1, rfl, rfl⟩ := H.sl
  obtain ⟨okd, P, hp⟩ := H
  have HA := Aside0.mk hp.d
  have HQ : Aside0 (Kd.C kS w A1 D.wait.length (toS D.wait)) := ⟨by have := (Kd.R_reads' hp.q).2.2; rw [toS_len] at this; exact this⟩
  have HP : Aside0 (Prs w0 w g (.slice A0 D.sure.length c0) (.slice A1 D.wait.length c1) D D X) := ⟨⟨okd, P, hp⟩⟩
  have hmost := hp.good.most
  clear hp
  obtain ⟨ks, hks⟩ := (same_ev (ats D D.wait.length) (by rw [ats_len _ _ (Nat.le_refl _)]; exact hl)).rounds
  have HKS := Aside0.mk hks
  clear hks
  go_enter Try.func27, Try.ntmps27
  go_wp2_with (first | ((with_reducible refine gate_dst (N := 3) rfl ?_); refine box_event rfl (N := 3) rfl (cs := #[.slice A0 D.sure.length c0, .slice A1 D.wait.length c1, .int .i64 D.fuse, .bool D.off]) (t := TQ) ?hr ?_; (case hr => first | (go_simp; done) | (go_simp; rfl)); intro b hg1 w1 hx1 hB1; have HX1 := Aside0.mk hx1; have HB1 := Aside0.mk hB1; clear hg1 hx1 hB1))
  go_loopw [5, 6] (fun v5 v6 wt => ∃ j : Nat, v6 = .int .i64 (j : Int) ∧ j ≤ D.wait.length ∧ Aside0 (Kd.R (Kd.int .i64) 3 wt w1.heap.size (fun k => w1.heap.size ≤ k) v5 (ats D j)) ∧ Aside0 (Below w1.heap.size w1 wt)) (fun _ v6 _ => D.wait.length - (intOf v6).toNat)
  case atStart => exact ⟨0, rfl, Nat.zero_le _, ⟨Kd.R_nil _ _ _ _ _⟩, ⟨Below.refl _ _⟩⟩
  case round =>
    obtain ⟨j, rfl, hj, HR, HB⟩ := hrel
    have HXr := Aside0.mk (blk_below HX1.out HB.out)
    have hx1c : wr.cell? ⟨b, 1, none⟩ = some (.slice A1 D.wait.length c1) := (cell_of_row wr b 1 _ _ _ HXr.out).trans rfl
    by_cases hjl : j < D.wait.length
    · obtain ⟨ad, hA, hq0, _⟩ := at_T122 (Kd.C_below HQ.out (below_step HB1.out HB.out)) (j : Int) (by omega) (by omega)
      subst hA
      rw [toS_rd _ j hjl, Int.toNat_natCast] at hq0
      have HTK := Aside0.mk (ats_succ D j hjl)
      have hLl : (ats D j).length ≤ 1000000 := by rw [ats_len _ _ hj]; omega
      obtain ⟨x, hx⟩ : ∃ x, D.wait[j].at_ = x := ⟨_, rfl⟩
      simp only [hx] at hq0
      rw [hx] at HTK
      obtain ⟨L, hL⟩ : ∃ L, ats D j = L := ⟨_, rfl⟩
      rw [hL] at HR HTK hLl
      clear hx hL
      obtain ⟨A3, c3, rfl⟩ := Kd.R_slice HR.out
      go_wp2_with (first | ((with_reducible refine gate_builtin (b := .append) (xs := #[.tmp 19, .tmp 26]) rfl ?_); at_builtin; refine Kd.R_append (Kd.int .i64) (w0 := w1) w1.heap.size rfl (.tmp 19) (.tmp 26) 33 3 (.int .i64 0) 8 rfl Try.underlying33 (by kernel_rfl) rfl (by decide) (by decide) _ L x [.int .i64 x] (fun k => w1.heap.size ≤ k) (fun _ => False) rfl rfl rfl (fun _ hk => hk.elim) (fun _ hk => Nat.le_trans HB.out.size hk) HR.out HB.out HB.out.size (by omega) ?_; intro v4 w4 hR4 hB4 hG4 hA4; have HR4 := Aside0.mk hR4; have HB4 := Aside0.mk hB4; clear hR4 hB4 hG4 hA4))
      exact ⟨⟨j + 1, by simp, by omega, ⟨by rw [HTK.out]; exact HR4.out⟩, HB4⟩, by simp [intOf]; omega⟩
    · obtain rfl : j = D.wait.length := by omega
      obtain ⟨wx, rfl⟩ : ∃ wx, wx = wr := ⟨wr, rfl⟩
      have HAx := Aside0.mk (HA.out.step (below_step HB1.out HB.out))
      have HPx := Aside0.mk (HP.out.step (below_step HB1.out HB.out))
      have HBx := Aside0.mk (below_step HB1.out HB.out)
      obtain ⟨A3, c3, rfl⟩ := Kd.R_slice HR.out
      have HRd := Aside0.mk (Kd.R_reads' HR.out)
      have HC0 : Aside0 (wx.cell? ⟨b, 0, none⟩ = some (.slice A0 D.sure.length c0)) := ⟨(cell_of_row wx b 0 _ _ _ HXr.out).trans rfl⟩
      have HC3 : Aside0 (wx.cell? ⟨b, 3, none⟩ = some (.bool D.off)) := ⟨(cell_of_row wx b 3 _ _ _ HXr.out).trans rfl⟩
      clear HQ HX1 HB1 HA HP HR hj hjl
      go_wp2_with fail
      clear hx1c
      refine start_ (n := 20) (S := fun w' => w'.cell? ⟨b, 3, none⟩ = some (.bool D.off) ∧ w'.cell? ⟨b, 0, none⟩ = some (.slice A0 D.sure.length c0)) (ds := []) #[Z,Z,Z,Z,Z,Z,Z,Z,Z,Z,Z,Z,Z,Z,Z,Z,Z,Z,Z,Z] (by kernel_rfl) rfl rfl (⟨HC3.out, HC0.out⟩) (fun hHeld => ?_)
      refine pure_ (i := 0) (N := (some 28)) (v := ?_) (a' := ?_) #[Y,Z,Z,Z,Z,Z,Z,Z,Z,Z,Z,Z,Z,Z,Z,Z,Z,Z,Z,Z] rfl rfl (by kernel_rfl) (fun _ _ _ h => h) (Or.inl ⟨by rfl, ?_⟩) ?_ ?_
      rotate_left
      · intro w'
        go_simp
        with_reducible rfl
      rotate_left
      · simp only [Act.put, List.setIfInBounds_toArray, List.set_cons_zero, List.set_cons_succ, i64_w, i32_w]
        rfl
      refine pure_ (i := 2) (N := (some 30)) (v := ?_) (a' := ?_) #[Y,Z,Y,Z,Z,Z,Z,Z,Z,Z,Z,Z,Z,Z,Z,Z,Z,Z,Z,Z] rfl rfl (by kernel_rfl) (fun _ _ _ h => h) (Or.inl ⟨by rfl, ?_⟩) ?_ ?_
      rotate_left
      · intro w'
        go_simp
        with_reducible rfl
      rotate_left
      · simp only [Act.put, List.setIfInBounds_toArray, List.set_cons_zero, List.set_cons_succ, i64_w, i32_w]
        rfl
      refine take_ (i := 3) (N := (some 31)) (v := ?_) (a' := ?_) #[Y,Z,Y,Y,Z,Z,Z,Z,Z,Z,Z,Z,Z,Z,Z,Z,Z,Z,Z,Z] rfl rfl (by kernel_rfl) (fun _ _ _ h => h) (Or.inl ⟨by rfl, ?_⟩) hHeld ?_ ?_
      rotate_left
      · intro w' s0
        go_simp
        with_reducible rfl
      rotate_left
      · simp only [Act.put, List.setIfInBounds_toArray, List.set_cons_zero, List.set_cons_succ, i64_w, i32_w]
        rfl
      refine one_ (i := 1) (N := (some 29)) #[Y,Y,Y,Y,Z,Z,Z,Z,Z,Z,Z,Z,Z,Z,Z,Z,Z,Z,Z,Z] rfl rfl (by kernel_rfl) (by decide) (fun K hK => ?_)
      refine goes_ Try.func20 (by kernel_rfl) rfl #[.pointer (some ⟨g, 0, none⟩)] (by rfl) rfl rfl (by (try simp only [List.map_toArray, List.map_cons, List.map_nil]); first | done | rfl) ?_
      refine (off_at (HAx.out.step (below_drew (Below.refl _ _)))).mono ?_
      rintro e w5 ⟨rfl, rfl⟩
      refine ⟨_, rfl, ?_⟩
      refine hK.out _ _ ⟨HC3.out, HC0.out⟩ (fun hHeld => ?_)
      clear hK K
      refine norm_ (a' := ?_) ?_ ?_
      rotate_left
      · show Act.put _ (some 29) _ = _
        simp only [Act.put, List.setIfInBounds_toArray, List.set_cons_zero, List.set_cons_succ, i64_w, i32_w]
        rfl
      refine pure_ (i := 4) (N := (some 32)) (v := ?_) (a' := ?_) #[Y,Y,Y,Y,Y,Z,Z,Z,Z,Z,Z,Z,Z,Z,Z,Z,Z,Z,Z,Z] rfl rfl (by kernel_rfl) (fun _ _ _ h => h) (Or.inl ⟨by rfl, ?_⟩) ?_ ?_
      rotate_left
      · intro w'
        go_simp
        with_reducible rfl
      rotate_left
      · simp only [Act.put, List.setIfInBounds_toArray, List.set_cons_zero, List.set_cons_succ, i64_w, i32_w]
        rfl
      refine pure_ (i := 5) (N := (some 33)) (v := ?_) (a' := ?_) #[Y,Y,Y,Y,Y,Y,Z,Z,Z,Z,Z,Z,Z,Z,Z,Z,Z,Z,Z,Z] rfl rfl (by kernel_rfl) (fun _ _ _ h => h) (Or.inl ⟨by rfl, ?_⟩) ?_ ?_
      rotate_left
      · intro w'
        go_simp
        with_reducible rfl
      rotate_left
      · simp only [Act.put, List.setIfInBounds_toArray, List.set_cons_zero, List.set_cons_succ, i64_w, i32_w]
        rfl
      refine pure_ (i := 6) (N := (some 34)) (v := ?_) (a' := ?_) #[Y,Y,Y,Y,Y,Y,Y,Z,Z,Z,Z,Z,Z,Z,Z,Z,Z,Z,Z,Z] rfl rfl (by kernel_rfl) (fun _ _ _ h => h) (Or.inl ⟨by rfl, ?_⟩) ?_ ?_
      rotate_left
      · intro w'
        go_simp
        with_reducible rfl
      rotate_left
      · simp only [Act.put, List.setIfInBounds_toArray, List.set_cons_zero, List.set_cons_succ, i64_w, i32_w]
        rfl
      refine pure_ (i := 8) (N := (some 36)) (v := ?_) (a' := ?_) #[Y,Y,Y,Y,Y,Y,Y,Z,Y,Z,Z,Z,Z,Z,Z,Z,Z,Z,Z,Z] rfl rfl (by kernel_rfl) (fun _ _ _ h => h) (Or.inl ⟨by rfl, ?_⟩) ?_ ?_
      rotate_left
      · intro w'
        go_simp
        with_reducible rfl
      rotate_left
      · simp only [Act.put, List.setIfInBounds_toArray, List.set_cons_zero, List.set_cons_succ, i64_w, i32_w]
        rfl
      refine take_ (i := 9) (N := (some 37)) (v := ?_) (a' := ?_) #[Y,Y,Y,Y,Y,Y,Y,Z,Y,Y,Z,Z,Z,Z,Z,Z,Z,Z,Z,Z] rfl rfl (by kernel_rfl) (fun _ _ _ h => h) (Or.inl ⟨by rfl, ?_⟩) hHeld ?_ ?_
      rotate_left
      · intro w' s0
        go_simp
        with_reducible rfl
      rotate_left
      · simp only [Act.put, List.setIfInBounds_toArray, List.set_cons_zero, List.set_cons_succ, i64_w, i32_w]
        rfl
      refine pure_ (i := 10) (N := (some 38)) (v := ?_) (a' := ?_) #[Y,Y,Y,Y,Y,Y,Y,Z,Y,Y,Y,Z,Z,Z,Z,Z,Z,Z,Z,Z] rfl rfl (by kernel_rfl) (fun _ _ _ h => h) (Or.inl ⟨by rfl, ?_⟩) ?_ ?_
      rotate_left
      · intro w'
        go_simp
        with_reducible rfl
      rotate_left
      · simp only [Act.put, List.setIfInBounds_toArray, List.set_cons_zero, List.set_cons_succ, i64_w, i32_w]
        rfl
      refine one_ (i := 7) (N := (some 35)) #[Y,Y,Y,Y,Y,Y,Y,Y,Y,Y,Y,Z,Z,Z,Z,Z,Z,Z,Z,Z] rfl rfl (by kernel_rfl) (by decide) (fun K hK => ?_)
      refine goes_ Try.func28 (by kernel_rfl) rfl #[.pointer (some ⟨g, 0, none⟩)] (by rfl) rfl rfl (by (try simp only [List.map_toArray, List.map_cons, List.map_nil]); first | done | rfl) ?_
      refine (size_at (HAx.out.step (below_drew (Below.refl _ _)))).mono ?_
      rintro e w5 ⟨rfl, rfl⟩
      refine ⟨_, rfl, ?_⟩
      refine hK.out _ _ ⟨HC3.out, HC0.out⟩ (fun hHeld => ?_)
      clear hK K
      refine norm_ (a' := ?_) ?_ ?_
      rotate_left
      · show Act.put _ (some 35) _ = _
        simp only [Act.put, List.setIfInBounds_toArray, List.set_cons_zero, List.set_cons_succ, i64_w, i32_w]
        rfl
      refine pure_ (i := 11) (N := (some 39)) (v := ?_) (a' := ?_) #[Y,Y,Y,Y,Y,Y,Y,Y,Y,Y,Y,Y,Z,Z,Z,Z,Z,Z,Z,Z] rfl rfl (by kernel_rfl) (fun _ _ _ h => h) (Or.inl ⟨by rfl, ?_⟩) ?_ ?_
      rotate_left
      · intro w'
        go_simp
        with_reducible rfl
      rotate_left
      · simp only [Act.put, List.setIfInBounds_toArray, List.set_cons_zero, List.set_cons_succ, i64_w, i32_w]
        rfl
      refine pure_ (i := 12) (N := (some 40)) (v := ?_) (a' := ?_) #[Y,Y,Y,Y,Y,Y,Y,Y,Y,Y,Y,Y,Y,Z,Z,Z,Z,Z,Z,Z] rfl rfl (by kernel_rfl) (fun _ _ _ h => h) (Or.inl ⟨by rfl, ?_⟩) ?_ ?_
      rotate_left
      · intro w'
        go_simp
        with_reducible rfl
      rotate_left
      · simp only [Act.put, List.setIfInBounds_toArray, List.set_cons_zero, List.set_cons_succ, i64_w, i32_w]
        rfl
      refine pure_ (i := 13) (N := (some 41)) (v := ?_) (a' := ?_) #[Y,Y,Y,Y,Y,Y,Y,Y,Y,Y,Y,Y,Y,Y,Z,Z,Z,Z,Z,Z] rfl rfl (by kernel_rfl) (fun _ _ _ h => h) (Or.inl ⟨by rfl, ?_⟩) ?_ ?_
      rotate_left
      · intro w'
        go_simp
        with_reducible rfl
      rotate_left
      · simp only [Act.put, List.setIfInBounds_toArray, List.set_cons_zero, List.set_cons_succ, i64_w, i32_w]
        rfl
      refine pure_ (i := 14) (N := (some 42)) (v := ?_) (a' := ?_) #[Y,Y,Y,Y,Y,Y,Y,Y,Y,Y,Y,Y,Y,Y,Y,Z,Z,Z,Z,Z] rfl rfl (by kernel_rfl) (fun _ _ _ h => h) (Or.inl ⟨by rfl, ?_⟩) ?_ ?_
      rotate_left
      · intro w'
        go_simp
        with_reducible rfl
      rotate_left
      · simp only [Act.put, List.setIfInBounds_toArray, List.set_cons_zero, List.set_cons_succ, i64_w, i32_w]
        rfl
      refine pure_ (i := 16) (N := (some 44)) (v := ?_) (a' := ?_) #[Y,Y,Y,Y,Y,Y,Y,Y,Y,Y,Y,Y,Y,Y,Y,Z,Y,Z,Z,Z] rfl rfl (by kernel_rfl) (fun _ _ _ h => h) (Or.inl ⟨by rfl, ?_⟩) ?_ ?_
      rotate_left
      · intro w'
        go_simp
        with_reducible rfl
      rotate_left
      · simp only [Act.put, List.setIfInBounds_toArray, List.set_cons_zero, List.set_cons_succ, i64_w, i32_w]
        rfl
      refine one_ (i := 15) (N := (some 43)) #[Y,Y,Y,Y,Y,Y,Y,Y,Y,Y,Y,Y,Y,Y,Y,Y,Y,Z,Z,Z] rfl rfl (by kernel_rfl) (by decide) (fun K hK => ?_)
      refine goes_ Try.func23 (by kernel_rfl) rfl #[.pointer (some ⟨g, 0, none⟩)] (by rfl) rfl rfl (by (try simp only [List.map_toArray, List.map_cons, List.map_nil]); first | done | rfl) ?_
      refine (waiting_at (HAx.out.step (below_drew (Below.refl _ _))) hl).mono ?_
      rintro e w5 ⟨v5, rfl, hv5, ha5, hb5⟩
      obtain ⟨A5, c5, rfl⟩ := Kd.R_slice hv5
      have HV5 := Aside0.mk (Kd.R_reads' hv5)
      have HB5 := Aside0.mk (show Below wx.heap.size wx w5 from below_then (below_drew (Below.refl _ _)) (Nat.le_refl _) hb5)
      rw [List.length_map]
      refine ⟨_, rfl, ?_⟩
      refine hK.out _ _ ⟨pw_cell_below HB5.out HC3.out, pw_cell_below HB5.out HC0.out⟩ (fun hHeld => ?_)
      clear hv5 ha5 hb5
      clear hK K
      refine norm_ (a' := ?_) ?_ ?_
      rotate_left
      · show Act.put _ (some 43) _ = _
        simp only [Act.put, List.setIfInBounds_toArray, List.set_cons_zero, List.set_cons_succ, i64_w, i32_w]
        rfl
      refine one_ (i := 17) (N := (some 45)) #[Y,Y,Y,Y,Y,Y,Y,Y,Y,Y,Y,Y,Y,Y,Y,Y,Y,Y,Z,Z] rfl rfl (by kernel_rfl) (by decide) (fun K hK => ?_)
      have eL : D.wait.map (·.at_) = ats D D.wait.length := by unfold ats; rw [List.take_length]
      rw [eL] at HV5
      refine goes_ Try.func34 (by kernel_rfl) rfl #[.slice A5 D.wait.length c5, .slice A3 D.wait.length c3] (by rfl) rfl rfl (by (try simp only [List.map_toArray, List.map_cons, List.map_nil]); first | done | rfl) ?_
      have hsm := peristyleref01_Same.calls ks A5 c5 _ A3 c3 _ true w5 HV5.out.2.2 HV5.out.2.1 (Kd.C_below HRd.out.2.2 HB5.out) HRd.out.2.1 HKS.out
      rw [ats_len _ _ (Nat.le_refl _)] at hsm
      refine hsm.mono ?_
      rintro e w6 ⟨rfl, hd6⟩
      have HB6 := Aside0.mk (below_step HB5.out hd6.below)
      refine ⟨_, rfl, ?_⟩
      refine hK.out _ _ ⟨pw_cell_below HB6.out HC3.out, pw_cell_below HB6.out HC0.out⟩ (fun hHeld => ?_)
      clear eL hsm hd6
      clear hK K
      refine norm_ (a' := ?_) ?_ ?_
      rotate_left
      · show Act.put _ (some 45) _ = _
        simp only [Act.put, List.setIfInBounds_toArray, List.set_cons_zero, List.set_cons_succ, i64_w, i32_w]
        rfl
      refine pure_ (i := 18) (N := (some 46)) (v := ?_) (a' := ?_) #[Y,Y,Y,Y,Y,Y,Y,Y,Y,Y,Y,Y,Y,Y,Y,Y,Y,Y,Y,Z] rfl rfl (by kernel_rfl) (fun _ _ _ h => h) (Or.inl ⟨by rfl, ?_⟩) ?_ ?_
      rotate_left
      · intro w'
        go_simp
        with_reducible rfl
      rotate_left
      · simp only [Act.put, List.setIfInBounds_toArray, List.set_cons_zero, List.set_cons_succ, i64_w, i32_w]
        rfl
      refine pure_ (i := 19) (N := (some 47)) (v := ?_) (a' := ?_) #[Y,Y,Y,Y,Y,Y,Y,Y,Y,Y,Y,Y,Y,Y,Y,Y,Y,Y,Y,Y] rfl rfl (by kernel_rfl) (fun _ _ _ h => h) (Or.inl ⟨by rfl, ?_⟩) ?_ ?_
      rotate_left
      · intro w'
        go_simp
        with_reducible rfl
      rotate_left
      · simp only [Act.put, List.setIfInBounds_toArray, List.set_cons_zero, List.set_cons_succ, i64_w, i32_w]
        rfl
      refine done_ (by kernel_rfl) ?_
      have HXw := Aside0.mk (blk_below HXr.out HB6.out)
      have HPw := Aside0.mk (HPx.out.step HB6.out)
      have HBw := Aside0.mk (below_step HBx.out HB6.out)
      have HAw := Aside0.mk (HAx.out.step HB6.out)
      clear HV5 HB5 HB6 HRd HAx HPx HBx HXr HC0 HC3 HKS HB
      go_wp2_with fail
      go_loopw [7] (fun v7 wt => ∃ j : Nat, v7 = .int .i64 (j : Int) ∧ j ≤ D.sure.length ∧ Aside0 (Below w6.heap.size w6 wt)) (fun v7 _ => D.sure.length - (intOf v7).toNat)
      case atStart => exact ⟨0, rfl, Nat.zero_le _, ⟨Below.refl _ _⟩⟩
      case round =>
        obtain ⟨j, rfl, hj, HB⟩ := hrel
        have HXr := Aside0.mk (blk_below HXw.out HB.out)
        have HPr := Aside0.mk (HPw.out.step HB.out)
        have HAr := Aside0.mk (HAw.out.step HB.out)
        have HBr := Aside0.mk (below_step HBw.out HB.out)
        have hc0 : wr.cell? ⟨b, 0, none⟩ = some (.slice A0 D.sure.length c0) := (cell_of_row wr b 0 _ _ _ HXr.out).trans rfl
        by_cases hjl : j < D.sure.length
        · obtain ⟨rs, hrs⟩ : ∃ rs, (readD D (j : Int)).1 = rs := ⟨_, rfl⟩
          obtain ⟨re, hre⟩ : ∃ re, (readD D (j : Int)).2 = re := ⟨_, rfl⟩
          have HS := Aside0.mk hrs
          have HE := Aside0.mk hre
          clear hrs hre
          go_wp2_with fail
          refine (read_at HAr.out (j : Int)).mono ?_
          rintro e w8 ⟨rfl, _, hb8⟩
          rw [HS.out, HE.out]
          have HP8 := Aside0.mk (HPr.out.step hb8)
          have HX8 := Aside0.mk (blk_below HXr.out hb8)
          have HB8 := Aside0.mk (below_step HB.out hb8)
          clear hb8 HPr HXr HAr HBr hc0
          go_wp2_with (first | ((with_reducible refine gate_dst (N := 62) rfl ?_); refine wpList_load_row rfl TQ (.tmp 3) rfl b rfl TQ #[.slice A0 D.sure.length c0, .slice A1 D.wait.length c1, .int .i64 D.fuse, .bool D.off] (0, 0) _ HX8.out Try.underlying44 rfl size_Q ?_))
          refine (pr_rread HP8.out (j : Int) hl).mono ?_
          rintro e w9 ⟨rfl, _, _, hb9⟩
          rw [HS.out, HE.out]
          have HB9 := Aside0.mk (below_step HB8.out hb9)
          clear hb9 HP8 HX8
          go_wp2_with fail
          exact ⟨⟨j + 1, by simp, by omega, HB9⟩, by simp [intOf]; omega⟩
        · obtain rfl : j = D.sure.length := by omega
          go_wp2_with fail
          go_ret
          exact ⟨rfl, HBr.out⟩
end Go.Proofs.Ytgjclhhjigflkab.Dev
