/- The walk of law DeviceSure. -/
import Derived.Test.YtgjclhhjigflkabDevTwo
import Derived.Test.YtgjclhhjigflkabDevFuses
namespace Go.Proofs.Ytgjclhhjigflkab.Dev
open Go Go.RowKit Go.Proofs.Ytgjclhhjigflkab.D Go.Proofs.Ytgjclhhjigflkab.MyWords Go.Proofs.Ytgjclhhjigflkab.Hand Go.Proofs.YtgjclhhjigflkabW.PrintWords Go.Proofs.YtgjclhhjigflkabW.PrintLast Go.Proofs.YtgjclhhjigflkabW.PrintMore
set_option linter.unusedVariables false
set_option linter.unusedSimpArgs false
theorem and7 (x : Int) : Go.bits .and .i64 x 7 = x % 8 := by
  show IntKind.i64.wrap ((BitVec.ofInt 64 x &&& BitVec.ofInt 64 7).toNat : Int) = x % 8
  have e : (BitVec.ofInt 64 x &&& BitVec.ofInt 64 7).toNat = (x % 8).toNat := by
    rw [BitVec.toNat_and, BitVec.toNat_ofInt, BitVec.toNat_ofInt]
    have e2 : ((7 : Int) % ((2 ^ 64 : Nat) : Int)).toNat = 2 ^ 3 - 1 := by decide
    rw [e2, Nat.and_two_pow_sub_one_eq_mod]
    simp only [Nat.reducePow]
    omega
  rw [e, IntKind.wrap_i64]
  omega
/-- the two devices are made, the rows, too -/
theorem sv_start {w0 wa wb wc wd we : World} {g h p q r : Nat} {okd okc : Nat → Prop} {D C : DS} {s0 l0 : List Int} {t0 : List Bool} (hd : At w0 wa okd g D) (hB : Below wa.heap.size wa wb) (hc : At w0 wb okc h C) (ho : ∀ k, okc k → wa.heap.size ≤ k)
    (hp : p = wb.heap.size) (hp1 : wc.heap[p]? = some (.cells (byts s0) T8 (0, 0))) (hp2 : Below wb.heap.size wb wc) (hp3 : wc.heap.size = wb.heap.size + 1)
    (hq : q = wc.heap.size) (hq1 : wd.heap[q]? = some (.cells (byts l0) T8 (0, 0))) (hq2 : Below wc.heap.size wc wd) (hq3 : wd.heap.size = wc.heap.size + 1)
    (hr : r = wd.heap.size) (hr1 : we.heap[r]? = some (.cells (bols t0) U8 (0, 0))) (hr2 : Below wd.heap.size wd we) (hr3 : we.heap.size = wd.heap.size + 1) : Sv w0 we g h p q r D C s0 l0 t0 := by
  have hD := (hd.bound.step hB)
  have hC := hc.bound
  have b1 := hB.size
  have hbe : Below wb.heap.size wb we := below_step (below_step hp2 (hq2)) hr2
  have hD2 := hD.step hbe
  have hC2 := hC.step hbe
  have lb := hc.below.size
  refine ⟨_, _, hD2, hC2, ?_, ?_, ?_, ?_, ?_, ?_, ?_, ?_, ?_, hr1⟩
  · intro k hk hk2
    have := ho k hk2.1
    have := hk.2
    omega
  · intro k hk
    have := hk.2
    omega
  · intro k hk
    have := hk.2
    omega
  · refine ⟨fun hk => ?_, fun hk => ?_, fun hk => ?_⟩ <;> (have := hk.2; omega)
  · refine ⟨fun hk => ?_, fun hk => ?_, fun hk => ?_⟩ <;> (have := hk.2; omega)
  · exact ⟨by omega, by omega, by omega⟩
  · exact ⟨by omega, by omega, by omega⟩
  · exact (hr2.block p (by omega)).trans ((hq2.block p (by omega)).trans hp1)
  · exact (hr2.block q (by omega)).trans hq1
set_option maxHeartbeats 4000000 in
set_option maxRecDepth 100000 in
theorem sure_calls (A0 : Option Addr) (c0 : Nat) (l : List Int) (syncs : Int) (A1 : Option Addr) (c1 : Nat) (keep : List Int) (w : World) (h0 : Kd.C (Kd.int .i64) w A0 l.length l) (h1 : Kd.C (Kd.int .i64) w A1 keep.length keep) :
    Calls Try.prog 4 #[.slice A0 l.length c0, .int .i64 syncs, .slice A1 keep.length c1] w fun e w' => e = .returned (.bool true) ∧ Below w.heap.size w w' := by
  have HL := Aside0.mk h0
  have HK := Aside0.mk h1
  clear h0 h1
  go_enter Try.func4, Try.ntmps4
  go_wp2_with fail
  refine (new_at (w0 := w) 8 _ (Below.refl _ _) (by decide) (by decide)).mono ?_
  rintro e wa ⟨g, rfl, ha, _⟩
  have HA := Aside0.mk ha
  clear ha
  go_wp2_with fail
  refine (new_at (w0 := w) 8 _ HA.out.below (by decide) (by decide)).mono ?_
  rintro e wb ⟨h, rfl, hb, hB⟩
  have HB := Aside0.mk hb
  have HAB := Aside0.mk hB
  clear hb hB
  go_wp2_with (first | ((with_reducible refine gate_dst (N := 45) rfl ?_); refine Kd.event_run rfl (run_build_8 _ rfl) ?_) | ((with_reducible refine gate_dst (N := 46) rfl ?_); refine Kd.event_run rfl (run_build_8 _ rfl) ?_) | ((with_reducible refine gate_dst (N := 47) rfl ?_); refine Kd.event_run rfl (run_build_u _ rfl) ?_) | ((with_reducible refine gate_dst (N := 11) rfl ?_); refine alloc_event rfl (N := 11) rfl (run_alloc_8 _ rfl) ?_; intro p wc hp1 hp2 hp3 hp4) | ((with_reducible refine gate_dst (N := 12) rfl ?_); refine alloc_event rfl (N := 12) rfl (run_alloc_8 _ rfl) ?_; intro q wd hq1 hq2 hq3 hq4) | ((with_reducible refine gate_dst (N := 13) rfl ?_); refine alloc_event rfl (N := 13) rfl (run_alloc_u _ rfl) ?_; intro r we hr1 hr2 hr3 hr4) | ((with_reducible refine gate_store (t := T8) (p := .tmp 11) (x := .tmp 45) rfl ?_); refine row_store_event rfl T8 (.tmp 11) (.tmp 45) rfl p (byts (List.replicate 8 0)) rfl rfl T8 _ hp2.out info_8 rfl (byts_one _) ?_; intro wc2 hs; have HS1 := Aside0.mk hs; clear hs) | ((with_reducible refine gate_store (t := T8) (p := .tmp 12) (x := .tmp 46) rfl ?_); refine row_store_event rfl T8 (.tmp 12) (.tmp 46) rfl q (byts (List.replicate 8 0)) rfl rfl T8 _ hq2.out info_8 rfl (byts_one _) ?_; intro wd2 hs; have HS2 := Aside0.mk hs; clear hs) | ((with_reducible refine gate_store (t := U8) (p := .tmp 13) (x := .tmp 47) rfl ?_); refine row_store_event rfl U8 (.tmp 13) (.tmp 47) rfl r (bols (List.replicate 8 false)) rfl rfl U8 _ hr2.out info_u rfl (bols_one _) ?_; intro we2 hs; have HS3 := Aside0.mk hs; clear hs))
  have hS := sv_start HA.out HAB.out HB.out (fun _ hk => hk) hp1.out HS1.out.at_ (HS1.out.below hp3.out (by rw [hp1.out]; exact Nat.le_refl _)) (by rw [HS1.out.size]; exact hp4.out) hq1.out HS2.out.at_ (HS2.out.below hq3.out (by rw [hq1.out]; exact Nat.le_refl _)) (by rw [HS2.out.size]; exact hq4.out) hr1.out HS3.out.at_ (HS3.out.below hr3.out (by rw [hr1.out]; exact Nat.le_refl _)) (by rw [HS3.out.size]; exact hr4.out)
  have HS := Aside0.mk hS
  clear hS HS1 HS2 HS3 hp1 hp2 hp3 hp4 hq1 hq2 hq3 hq4 hr1 hr2 hr3 hr4 HA HB HAB
  go_loopw [14] (fun v14 wr => ∃ i : Nat, v14 = .int .i64 (i : Int) ∧ i ≤ l.length ∧ i ≤ 40 ∧ ∃ D sure last tou, Aside0 (Sv w wr g h p q r D D sure last tou) ∧ Aside0 (Pv i D sure last tou)) (fun v14 _ => l.length - (intOf v14).toNat)
  case atStart => exact ⟨0, rfl, Nat.zero_le _, by omega, _, _, _, _, HS, ⟨Pv.start⟩⟩
  case round =>
    clear HS
    obtain ⟨i, rfl, hi, hi40, D, sure, last, tou, HS, HP⟩ := hrel
    by_cases hlt : i < l.length ∧ i < 40
    · obtain ⟨hlt1, hlt2⟩ := hlt
      have hd1 : decide ((i : Int) < (l.length : Int)) = true := decide_eq_true (by omega)
      have hd2 : decide ((i : Int) < 40) = true := decide_eq_true (by omega)
      obtain ⟨ad, hA, hcell⟩ := Kd.at_int (Kd.C_below HL.out HS.out.belo) (i : Int) (by omega) (by omega)
      subst hA
      rw [Int.toNat_natCast] at hcell
      obtain ⟨x, hx⟩ : ∃ x, rd l (i : Int) = x := ⟨_, rfl⟩
      rw [hx] at hcell
      obtain ⟨a, ha⟩ : ∃ a : Nat, Go.bits .and .i64 x 7 = (a : Int) ∧ a < 8 := ⟨(x % 8).toNat, by rw [and7]; omega, by omega⟩
      have ha1 := ha.1
      have HA8 := Aside0.mk ha.2
      have h256 : ((i : Int) + 1) % 256 = (i : Int) + 1 := by omega
      clear ha hx
      go_wp2_with fail
      obtain ⟨D1, hD1⟩ : ∃ D1, (writeD D (a : Int) (filledB ((i : Int) + 1))).1 = D1 := ⟨_, rfl⟩
      have e1 : (writeD D (a : Int) (filledB ((i : Int) + 1))).2 = 0 := by rw [HP.out.write_eq a _ HA8.out]
      have HP1 : Aside0 (Pv (i + 1) D1 sure (last.set a ((i : Int) + 1)) (tou.set a true)) := ⟨hD1 ▸ HP.out.write a _ HA8.out⟩
      have hfew := HP.out.few
      have hll := HP.out.ll
      have hlt8 := HP.out.lt
      have HLS := Aside0.mk HP.out.ls
      have HLT := Aside0.mk HP.out.lt
      refine (filled_at ((i : Int) + 1) _).mono ?_
      rintro e w2 ⟨rfl, hb2⟩
      have HS2 := Aside0.mk (HS.out.step hb2)
      clear hb2 HS hcell
      go_wp2_with fail
      refine (sv_write_d HS2.out (a : Int) (filledB ((i : Int) + 1)) (by rw [filledB_size]; decide) (by omega)).mono ?_
      rintro e w3 ⟨rfl, h3⟩
      rw [e1]
      rw [hD1] at h3
      have HS3 := Aside0.mk h3
      clear h3 HS2
      go_wp2_with fail
      refine (filled_at ((i : Int) + 1) _).mono ?_
      rintro e w4 ⟨rfl, hb4⟩
      have HS4 := Aside0.mk (HS3.out.step hb4)
      clear hb4 HS3
      go_wp2_with fail
      refine (sv_write_c HS4.out (a : Int) (filledB ((i : Int) + 1)) (by rw [filledB_size]; decide) (by omega)).mono ?_
      rintro e w5 ⟨rfl, h5⟩
      rw [e1]
      rw [hD1] at h5
      have HS5 := Aside0.mk h5
      have HS7 := Aside0.mk ((h5.cellQ a ((i : Int) + 1)).cellR a true)
      have hcq := h5.cQ a (by rw [hll]; exact HA8.out)
      have hcr := h5.cR a (by rw [hlt8]; exact HA8.out)
      have hfq := frozen_of_row w5 q a _ _ h5.atQ
      have hfr := frozen_of_row w5 r a _ _ h5.atR
      have hqr := h5.qr
      have hrq := Ne.symm hqr
      have ha8 : (a : Int) < 8 := by have := HA8.out; omega
      obtain ⟨b, hb⟩ : ∃ b, (Go.bits .and .i64 (syncs / 2 ^ i) 1 == 1) = b := ⟨_, rfl⟩
      clear h5 HS4 hD1 e1 HP ha1 hfew
      cases b with
      | false =>
        go_wp2_with fail
        exact ⟨⟨i + 1, by simp, by omega, by omega, _, _, _, _, HS7, HP1⟩, by simp [intOf]; omega⟩
      | true =>
        go_wp2_with fail
        refine (sv_sync_d HS7.out).mono ?_
        have e8 : (syncD D1).2 = 0 := by rw [HP1.out.sync_eq]
        rintro e w8 ⟨rfl, h8⟩
        rw [e8]
        have HS8 := Aside0.mk h8
        clear h8 HS7 hcq hcr hfq hfr
        go_wp2_with fail
        refine (sv_sync_c HS8.out).mono ?_
        rintro e w9 ⟨rfl, h9⟩
        rw [e8]
        have HS9 := Aside0.mk h9
        have HP9 := Aside0.mk HP1.out.sync
        clear h9 HS8 e8
        have hl9 : (last.set a ((i : Int) + 1)).length = 8 := by rw [List.length_set]; exact hll
        obtain ⟨la, hla⟩ : ∃ la, last.set a ((i : Int) + 1) = la := ⟨_, rfl⟩
        rw [hla] at HS9 HP9 hl9
        have HL9 := Aside0.mk hl9
        clear hla HP1 hl9
        go_wp2_with (first | ((with_reducible refine gate_dst (N := 101) rfl ?_); refine load_event rfl T8 (.tmp 12) rfl ⟨q, 0, none⟩ rfl (la.map (Value.int .u8)) HS9.out.loadQ _ Try.underlying34 rfl (by rw [List.length_map, HL9.out]; exact info_8) ?_) | ((with_reducible refine gate_store (t := T8) (p := .tmp 11) (x := .tmp 101) rfl ?_); refine row_store_event rfl T8 (.tmp 11) (.tmp 101) rfl p (byts la) rfl rfl T8 _ HS9.out.atP (by rw [byts_size, HL9.out]; exact info_8) (by rw [byts_size, byts_size, HL9.out, HLS.out]) (byts_one _) ?_; intro w10 hs; have HS10 := Aside0.mk (HS9.out.setP hs); clear hs) | ((with_reducible refine gate_dst (N := 102) rfl ?_); refine Kd.event_run rfl (run_build_u _ rfl) ?_) | ((with_reducible refine gate_store (t := U8) (p := .tmp 13) (x := .tmp 102) rfl ?_); refine row_store_event rfl U8 (.tmp 13) (.tmp 102) rfl r (bols (List.replicate 8 false)) rfl rfl U8 _ HS10.out.atR info_u (by rw [bols_size, bols_size, List.length_set, HLT.out]; rfl) (bols_one _) ?_; intro w11 hs; have HS11 := Aside0.mk (HS10.out.setR hs); clear hs))
        exact ⟨⟨i + 1, by simp, by omega, by omega, _, _, _, _, HS11, HP9⟩, by simp [intOf]; omega⟩
    · have hx : (¬ i < l.length) ∨ (i < l.length ∧ decide ((i : Int) < 40) = false) := by
        by_cases h1 : i < l.length
        · exact .inr ⟨h1, decide_eq_false (by omega)⟩
        · exact .inl h1
      have hfew : D.wait.length ≤ 1000000 := by have := HP.out.few; omega
      clear hlt hi HL
      rcases hx with hd1 | ⟨hd1, hd2⟩
      all_goals
        go_wp2_with fail
        obtain ⟨wx, rfl⟩ : ∃ wx, wx = wr := ⟨wr, rfl⟩
        obtain ⟨okd, okc, hT⟩ := HS.out
        have HT := Aside0.mk hT
        clear HS hT
        go_loopw [16, 17] (fun v16 v17 wt => ∃ j : Nat, v17 = .int .i64 (j : Int) ∧ j ≤ D.wait.length ∧ Aside0 (Kd.R (Kd.int .i64) 3 wt wx.heap.size (fun k => wx.heap.size ≤ k) v16 ((List.range j).map (fun (z : Nat) => (z : Int)))) ∧ Aside0 (Below wx.heap.size wx wt)) (fun _ v17 _ => D.wait.length - (intOf v17).toNat)
        case atStart => exact ⟨0, rfl, Nat.zero_le _, ⟨Kd.R_nil _ _ _ _ _⟩, ⟨Below.refl _ _⟩⟩
        case round =>
          obtain ⟨j, rfl, hj, HR, HBT⟩ := hrel
          have HTT := Aside0.mk (HT.out.step HBT.out)
          by_cases hjl : j < D.wait.length
          · go_wp2_with fail
            refine (waiting_at HTT.out.c hfew).mono ?_
            rintro e w2 ⟨v, rfl, hv, _, hb2⟩
            obtain ⟨A5, c5, rfl⟩ := Kd.R_slice hv
            have HT2 := Aside0.mk (HTT.out.step hb2)
            have HR2 := Aside0.mk (Kd.R_below HR.out hb2)
            have HB2 := Aside0.mk (below_step HBT.out hb2)
            clear hv hb2 HTT HR HBT
            rw [List.length_map]
            obtain ⟨L, hL⟩ : ∃ L, (List.range j).map (fun (z : Nat) => (z : Int)) = L := ⟨_, rfl⟩
            have hLl : L.length ≤ 1000000 := by rw [← hL, List.length_map, List.length_range]; omega
            have HTK := Aside0.mk (show (List.range (j + 1)).map (fun (z : Nat) => (z : Int)) = L ++ [(j : Int)] by rw [← hL, List.range_succ, List.map_append]; rfl)
            rw [hL] at HR2
            clear hL
            obtain ⟨A3, c3, rfl⟩ := Kd.R_slice HR2.out
            go_wp2_with (first | ((with_reducible refine gate_builtin (b := .append) (xs := #[.tmp 110, .tmp 112]) rfl ?_); at_builtin; refine Kd.R_append (Kd.int .i64) (w0 := wx) wx.heap.size rfl (.tmp 110) (.tmp 112) 33 3 (.int .i64 0) 8 rfl Try.underlying33 (by kernel_rfl) rfl (by decide) (by decide) _ L (j : Int) [.int .i64 (j : Int)] (fun k => wx.heap.size ≤ k) (fun _ => False) rfl rfl rfl (fun _ hk => hk.elim) (fun _ hk => Nat.le_trans HB2.out.size hk) HR2.out HB2.out HB2.out.size (by omega) ?_; intro v4 w4 hR4 hB4 hG4 hA4; have HR4 := Aside0.mk hR4; have HB4 := Aside0.mk hB4; have HG4 := Aside0.mk hG4; clear hR4 hB4 hG4 hA4))
            exact ⟨⟨j + 1, by simp, by omega, ⟨by rw [HTK.out]; exact HR4.out⟩, HB4⟩, by simp [intOf]; omega⟩
          · have hjn : ¬ j < D.wait.length := hjl
            obtain rfl : j = D.wait.length := by omega
            obtain ⟨Ls, hLs⟩ : ∃ Ls, (List.range D.wait.length).map (fun (z : Nat) => (z : Int)) = Ls := ⟨_, rfl⟩
            rw [hLs] at HR
            obtain ⟨A3, c3, rfl⟩ := Kd.R_slice HR.out
            go_wp2_with fail
            refine (waiting_at HTT.out.c hfew).mono ?_
            rintro e w2 ⟨v, rfl, hv, _, hb2⟩
            obtain ⟨A5, c5, rfl⟩ := Kd.R_slice hv
            have HT2 := Aside0.mk (HTT.out.step hb2)
            have HR2 := Aside0.mk (Kd.R_below HR.out hb2)
            clear hv hb2 HTT HR HBT
            rw [List.length_map]
            go_wp2_with fail
            refine (crash_at HT2.out.d A1 c1 keep (Kd.F_mono (Kd.F_step (Kd.C_F (Kd.heap_int _) HK.out) (fun k hk _ => HT2.out.d.below.block k hk)) (fun k hk hn => by have := HT2.out.d.new k hn; omega)) HK.out.2.1).mono ?_
            rintro e w3 ⟨rfl, h3, k3⟩
            have HT3 := Aside0.mk (HT2.out.left h3 (fun _ hk => .inl hk) k3)
            have HR3 := Aside0.mk (Kd.R_step HR2.out (fun k hk hlt => k3.block k hlt (fun hd => by have := HT.out.bd k hd; omega)))
            clear h3 k3 HT2 HR2
            go_wp2_with fail
            refine (crash_at HT3.out.c A3 c3 Ls (Kd.F_mono (Kd.R_F HR3.out) (fun k hk hn => by have := HT.out.bc k hn; omega)) (by rw [← hLs, List.length_map, List.length_range]; omega)).mono ?_
            rintro e w4 ⟨rfl, h4, k4⟩
            have HT4 := Aside0.mk (HT3.out.right h4 (fun _ hk => .inl hk) k4)
            rw [← hLs] at HT4
            have HS4 : Aside0 (Sv w w4 g h p q r (crashD D keep) (crashD D ((List.range D.wait.length).map (fun (z : Nat) => (z : Int)))) sure last tou) := ⟨_, _, HT4.out⟩
            clear h4 k4 HT3 HR3 HT4 HT
            go_wp2_with fail
            refine (sv_off_d HS4.out).mono ?_
            rintro e w5 ⟨rfl, rfl⟩
            rw [show (crashD D keep).off = false from rfl]
            go_wp2_with fail
            refine (sv_wait_d HS4.out (Nat.zero_le _)).mono ?_
            rintro e w5 ⟨A6, c6, rfl, h5, _⟩
            have HS5 := Aside0.mk h5
            clear h5 HS4
            rw [show (crashD D keep).wait.length = 0 from rfl]
            go_wp2_with fail
            refine (sv_wait_c HS5.out (Nat.zero_le _)).mono ?_
            rintro e w6 ⟨A7, c7, rfl, h6, _⟩
            have HS6 := Aside0.mk h6
            clear h6 HS5
            rw [show (crashD D ((List.range D.wait.length).map (fun (z : Nat) => (z : Int)))).wait.length = 0 from rfl]
            clear hLs hfew hjn hj hjl
            go_wp2_with fail
            go_loopw [18] (fun v18 wt => ∃ j : Nat, v18 = .int .i64 (j : Int) ∧ j ≤ 8 ∧ Aside0 (Sv w wt g h p q r (crashD D keep) (crashD D ((List.range D.wait.length).map (fun (z : Nat) => (z : Int)))) sure last tou)) (fun v18 _ => 8 - (intOf v18).toNat)
            case atStart => exact ⟨0, rfl, by omega, HS6⟩
            case round =>
              clear HS6
              obtain ⟨j, rfl, hj, HSJ⟩ := hrel
              by_cases hj8 : j < 8
              · obtain ⟨b1, hr1, hr2⟩ := HP.out.kept keep j hj8
                have HR1 := Aside0.mk hr1
                have HR2 := Aside0.mk hr2
                have HR9 := Aside0.mk (HP.out.whole j hj8)
                have HLL := Aside0.mk HP.out.ll
                have HLS := Aside0.mk HP.out.ls
                have HLT := Aside0.mk HP.out.lt
                have hd8 : decide ((j : Int) < 8) = true := decide_eq_true (by omega)
                clear hr1 hr2
                go_wp2_with fail
                refine (sv_read_d HSJ.out (j : Int)).mono ?_
                rintro e w7 ⟨rfl, h7⟩
                rw [HR1.out]
                have HS7 := Aside0.mk h7
                clear h7 HSJ
                go_wp2_with fail
                refine (sv_read_c HS7.out (j : Int)).mono ?_
                rintro e w8 ⟨rfl, h8⟩
                rw [HR9.out]
                obtain ⟨lj, hlj⟩ : ∃ x, last.getD j 0 = x := ⟨_, rfl⟩
                have hcq := h8.cQ j (by rw [HLL.out]; exact hj8)
                rw [hlj] at hcq ⊢
                obtain ⟨fl, hfl⟩ : ∃ x, filledB lj = x := ⟨_, rfl⟩
                rw [hfl]
                have HFL := Aside0.mk hfl
                have HS8 := Aside0.mk h8
                clear h8 HS7 hlj hfl
                go_wp2_with fail
                refine (filled_at lj _).mono ?_
                rintro e w9 ⟨rfl, hb9⟩
                rw [HFL.out]
                have h9 := HS8.out.step hb9
                have HS9 := Aside0.mk h9
                have hcr := h9.cR j (by rw [HLT.out]; exact hj8)
                have hcp := h9.cP j (by rw [HLS.out]; exact hj8)
                clear h9 HS8 hb9 hcq
                obtain ⟨sj, hsj⟩ : ∃ x, sure.getD j 0 = x := ⟨_, rfl⟩
                rw [hsj] at hcp HR2
                obtain ⟨tj, htj⟩ : ∃ x, tou.getD j false = x := ⟨_, rfl⟩
                rw [htj] at hcr HR2
                clear hsj htj
                cases tj with
                | true =>
                  go_wp2_with fail
                  exact ⟨⟨j + 1, by simp, by omega, HS9⟩, by simp [intOf]; omega⟩
                | false =>
                  have hb1 := HR2.out rfl
                  have HB1 := Aside0.mk hb1.symm
                  clear hb1
                  go_wp2_with fail
                  refine (filled_at sj _).mono ?_
                  rintro e w10 ⟨rfl, hb10⟩
                  rw [HB1.out]
                  have HS10 := Aside0.mk (HS9.out.step hb10)
                  clear hb10 HS9 hcr hcp
                  go_wp2_with fail
                  exact ⟨⟨j + 1, by simp, by omega, HS10⟩, by simp [intOf]; omega⟩
              · have hd8 : decide ((j : Int) < 8) = false := decide_eq_false (by omega)
                go_wp2_with fail
                refine (awake04 _).mono ?_
                rintro e w7 ⟨rfl, hb7⟩
                go_wp2_with fail
                go_ret
                exact ⟨rfl, below_then HSJ.out.belo HSJ.out.belo.size hb7⟩
end Go.Proofs.Ytgjclhhjigflkab.Dev
