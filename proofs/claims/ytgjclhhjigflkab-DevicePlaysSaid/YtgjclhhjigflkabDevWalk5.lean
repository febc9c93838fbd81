/- The walks of Sync, as a whole, of Waiting, and of slices.Contains over whole numbers. -/
import Derived.Test.YtgjclhhjigflkabDevWalk4
namespace Go.Proofs.Ytgjclhhjigflkab.Dev
open Go Go.RowKit Go.Proofs.Ytgjclhhjigflkab.MyWords Go.Proofs.Ytgjclhhjigflkab.Hand Go.Proofs.YtgjclhhjigflkabW.PrintWords Go.Proofs.YtgjclhhjigflkabW.PrintLast Go.Proofs.YtgjclhhjigflkabW.PrintMore
set_option linter.unusedVariables false
set_option linter.unusedSimpArgs false
theorem sync_off {base : Nat} {ok : Nat → Prop} {g : Nat} {D : DS} {w : World} (H : Dev w base ok g D) (hd : (doesD D).2 = false) :
    Calls Try.prog 17 #[.pointer (some ⟨g, 0, none⟩)] w fun e w' => e = .returned (.int .i64 40) ∧ Dev w' base ok g (doesD D).1 ∧ Chg w w' ok := by
  obtain ⟨s0, c, A, c1, hO⟩ := H.open_
  have hc0 := hO.cell0
  have hn := hO.good.pos
  have HH := Aside0.mk H
  have HD := Aside0.mk hd
  clear H hO hd
  go_enter Try.func17, Try.ntmps17
  go_wp2_with (first | (go_at_call 62; refine (given_yes g s0 _ c _ hc0 hn).mono ?_; rintro e w' ⟨rfl, rfl⟩) | (go_at_call 63; refine (does_calls HH.out).mono ?_; rintro e w1 ⟨rfl, h1, h2⟩; rw [HD.out]; have H1 := Aside0.mk h1; have H2 := Aside0.mk h2; clear h1 h2))
  go_ret
  exact ⟨rfl, H1.out, H2.out⟩
theorem sync_calls {base : Nat} {ok : Nat → Prop} {g : Nat} {D : DS} {w : World} (H : Dev w base ok g D) :
    Calls Try.prog 17 #[.pointer (some ⟨g, 0, none⟩)] w fun e w' => e = .returned (.int .i64 (syncD D).2) ∧ Dev w' base ok g (syncD D).1 ∧ Chg w w' ok := by
  unfold syncD
  cases hd : (doesD D).2 with
  | true => exact sync_yes H hd
  | false => exact sync_off H hd
theorem sync_nil (w : World) :
    Calls Try.prog 17 #[.pointer none] w fun e w' => e = .returned (.int .i64 1) ∧ w = w' := by
  go_enter Try.func17, Try.ntmps17
  go_wp2_with (first | (go_at_call 62; refine (given_nil _).mono ?_; rintro e w' ⟨rfl, rfl⟩))
  go_ret
  exact ⟨rfl, rfl⟩
theorem sync_zero (g : Nat) (w : World) (hc : w.cell? ⟨g, 0, none⟩ = some (.slice none 0 0)) :
    Calls Try.prog 17 #[.pointer (some ⟨g, 0, none⟩)] w fun e w' => e = .returned (.int .i64 1) ∧ w = w' := by
  go_enter Try.func17, Try.ntmps17
  go_wp2_with (first | (go_at_call 62; refine (given_no g _ hc).mono ?_; rintro e w' ⟨rfl, rfl⟩))
  go_ret
  exact ⟨rfl, rfl⟩
/-! Contains -/
set_option maxHeartbeats 1000000 in
set_option maxRecDepth 100000 in
theorem index_calls (A0 : Option Addr) (c0 : Nat) (l0 : List Int) (x r : Int) (w : World) (hr0 : Kd.C (Kd.int .i64) w A0 l0.length l0) (hl : l0.length ≤ 9223372036854775807) (h : idxF (fun y => x == y) l0 0 = r) :
    Calls Try.prog 87 #[.slice A0 l0.length c0, .int .i64 x] w fun e w' => e = .returned (.int .i64 r) ∧ w = w' := by
  have HR0 := Aside0.mk hr0
  have HE : Aside0 (idxF (fun y => x == y) (l0.drop 0) 0 = r) := ⟨by rw [List.drop_zero]; exact h⟩
  clear hr0 h
  go_enter Try.func87, Try.ntmps87
  go_wp2
  go_loop [8] (fun v8 => ∃ k : Nat, v8 = .int .i64 (k : Int) ∧ k ≤ l0.length ∧ Aside0 (idxF (fun y => x == y) (l0.drop k) k = r)) (fun v8 => l0.length - (intOf v8).toNat)
  case atStart => exact ⟨0, rfl, by omega, HE⟩
  case round =>
    obtain ⟨k, rfl, hk, HF⟩ := hrel
    by_cases hlt : k < l0.length
    · obtain ⟨ad, hA, hcell⟩ := Kd.at_int HR0.out (k : Int) (by omega) (by omega)
      subst hA
      have hrd : rd l0 (k : Int) = l0[k] := by
        unfold rd
        rw [Int.toNat_natCast, List.getD_eq_getElem?_getD, List.getElem?_eq_getElem hlt]
        rfl
      rw [hrd, Int.toNat_natCast] at hcell
      have hF2 := HF.out
      rw [idxF_drop _ l0 k hlt] at hF2
      obtain ⟨y, hy⟩ : ∃ y, l0[k] = y := ⟨_, rfl⟩
      rw [hy] at hcell hF2
      have HF2 := Aside0.mk hF2
      clear hF2 hrd hy
      by_cases he : x = y
      · subst he
        go_wp2
        go_ret
        have := HF2.out
        rw [if_pos (by simp)] at this
        exact ⟨by rw [this]; rfl, rfl⟩
      · have hne : (x == y) = false := by simp [he]
        go_wp2
        go_round
        case rel =>
          refine ⟨k + 1, by simp, by omega, ⟨?_⟩⟩
          have := HF2.out
          rw [if_neg (by simp [he])] at this
          exact this
        case measure => simp [intOf]; omega
    · have hend : r = -1 := by
        have := HF.out
        rw [List.drop_of_length_le (by omega), idxF] at this
        exact this.symm
      subst hend
      go_wp2
      go_ret
      exact ⟨rfl, rfl⟩
theorem idxF_any {α : Type} (p : α → Bool) (l : List α) : decide (0 ≤ idxF p l 0) = l.any p := by
  rcases idxF_range p l 0 with ⟨h1, h2⟩ | ⟨i, hi, h1, h2, h3⟩
  · rw [h1]
    have : l.any p = false := by simpa using h2
    rw [this]
    rfl
  · have : l.any p = true := List.any_eq_true.2 ⟨l[i], List.getElem_mem hi, h2⟩
    rw [h1, this]
    simp
theorem contains_calls (A0 : Option Addr) (c0 : Nat) (l0 : List Int) (x : Int) (b : Bool) (w : World) (hr0 : Kd.C (Kd.int .i64) w A0 l0.length l0) (hl : l0.length ≤ 9223372036854775807) (hb : decide (x ∈ l0) = b) :
    Calls Try.prog 65 #[.slice A0 l0.length c0, .int .i64 x] w fun e w' => e = .returned (.bool b) ∧ w = w' := by
  obtain ⟨r, hr⟩ : ∃ r, idxF (fun y => x == y) l0 0 = r := ⟨_, rfl⟩
  have H := Aside0.mk (index_calls A0 c0 l0 x r w hr0 hl hr)
  have ha := idxF_any (fun y => x == y) l0
  rw [hr] at ha
  have hb2 : l0.any (fun y => x == y) = b := by
    rw [← hb]
    by_cases hx : x ∈ l0
    · simp [hx]
    · have : l0.any (fun y => x == y) = false := by
        rw [List.any_eq_false]
        intro y hy he
        have : x = y := by simpa using he
        exact hx (this ▸ hy)
      rw [this]
      simp [hx]
  rw [hb2] at ha
  have HA := Aside0.mk ha
  clear hr0 hr ha hb hb2
  go_enter Try.func65, Try.ntmps65
  go_wp2_with (first | (go_at_call 87; (with_reducible refine H.out.mono ?_); rintro e w1 ⟨rfl, rfl⟩))
  go_ret
  exact ⟨by rw [← HA.out]; rfl, rfl⟩
/-! Waiting -/
set_option maxHeartbeats 1000000 in
set_option maxRecDepth 100000 in
theorem waiting_calls {base : Nat} {ok : Nat → Prop} {g : Nat} {D : DS} {w : World} (H : Dev w base ok g D) (hl : D.wait.length ≤ 1000000) :
    Calls Try.prog 23 #[.pointer (some ⟨g, 0, none⟩)] w fun e w' => ∃ v, e = .returned v ∧ Kd.R (Kd.int .i64) 3 w' w.heap.size (fun _ => True) v (D.wait.map (·.at_)) ∧ Below w.heap.size w w' := by
  obtain ⟨s0, c, A, c1, hO⟩ := H.open_
  have hc0 := hO.cell0
  have hc1 := hO.cell1
  have hn := hO.good.pos
  have HO := Aside0.mk hO
  clear H hO
  go_enter Try.func23, Try.ntmps23
  go_wp2_with (first | (go_at_call 62; refine (given_yes g s0 _ c _ hc0 hn).mono ?_; rintro e w' ⟨rfl, rfl⟩))
  clear hc0 hc1
  go_loopw [3, 14] (fun v3 v14 wr => ∃ k : Nat, v14 = .int .i64 (k : Int) ∧ k ≤ D.wait.length ∧ Aside0 (Kd.R (Kd.int .i64) 3 wr w.heap.size (fun _ => True) v3 ((D.wait.take k).map (·.at_))) ∧ Aside0 (Below w.heap.size w wr)) (fun _ v14 _ => D.wait.length - (intOf v14).toNat)
  case atStart => exact ⟨0, rfl, by omega, ⟨Kd.R_nil _ _ _ _ _⟩, ⟨Below.refl _ _⟩⟩
  case round =>
    obtain ⟨k, rfl, hk, HR, HB⟩ := hrel
    by_cases hlt : k < D.wait.length
    · obtain ⟨ad, hA, hcc⟩ := wait_cells HO.out (fun i _ hi => HB.out.block i hi) k hlt
      subst hA
      have HWC := Aside0.mk hcc
      have hws := HO.out.good.wsz _ (List.getElem_mem hlt)
      have htk : (D.wait.take (k + 1)).map (·.at_) = (D.wait.take k).map (·.at_) ++ [D.wait[k].at_] := by rw [List.take_succ_eq_append_getElem hlt, List.map_append]; rfl
      clear hcc
      obtain ⟨x, hx⟩ : ∃ x, D.wait[k] = x := ⟨_, rfl⟩
      rw [hx] at hws HWC htk
      obtain ⟨xa, xb⟩ := x
      have HWS := Aside0.mk (show xb.size = 128 from hws)
      have HTK := Aside0.mk (show (D.wait.take (k + 1)).map (·.at_) = (D.wait.take k).map (·.at_) ++ [xa] from htk)
      clear hws htk hx
      obtain ⟨L, hL⟩ : ∃ L, (D.wait.take k).map (·.at_) = L := ⟨_, rfl⟩
      have hLl : L.length ≤ 1000000 := by rw [← hL, List.length_map, List.length_take]; omega
      rw [hL] at HR HTK
      have HLL := Aside0.mk hL
      clear hL
      obtain ⟨A3, c3, rfl⟩ := Kd.R_slice HR.out
      go_wp2_with (first | ((with_reducible refine gate_dst (N := 17) rfl ?_); refine var_event TW rfl (N1 := 17) rfl (.tmp 16) rfl rfl (N2 := 5) rfl (wrCells ⟨0, zeroB⟩) (fun e W => run_alloc_W rfl) rfl rfl rfl (ad.add (k * 129)) ?e1 (wrCells ⟨xa, xb⟩) HWC.out _ Try.underlying113 rfl (by rw [wrCells_len, HWS.out]; exact size_W) (by rw [wrCells_len, wrCells_len, HWS.out, zeroB_size]) (wrCells_one _) (fun p => ⟨rfl, rfl⟩) ?_; (case e1 => first | rfl | (go_simp; done) | (go_simp; rfl)); intro g5 w2 hv; have hc5 : w2.cell? ⟨g5, 0, none⟩ = some (.int .i64 xa) := (cell_of_row w2 g5 0 _ _ _ hv.at_).trans rfl; have HV := Aside0.mk hv; have HB2 := Aside0.mk (below_step HB.out hv.below); have HR2 := Aside0.mk (Kd.R_below HR.out hv.below); clear hv) | ((with_reducible refine gate_builtin (b := .append) (xs := #[.tmp 18, .tmp 21]) rfl ?_); at_builtin; refine Kd.R_append (Kd.int .i64) (w0 := w) w.heap.size rfl (.tmp 18) (.tmp 21) 33 3 (.int .i64 0) 8 rfl Try.underlying33 (by kernel_rfl) rfl (by decide) (by decide) _ L xa [.int .i64 xa] (fun _ => True) (fun _ => False) rfl rfl rfl (fun _ hk => hk.elim) (fun _ _ => trivial) HR2.out HB2.out HB2.out.size (by omega) ?_; intro v4 w4 hR4 hB4 hG4 hA4; have HR4 := Aside0.mk hR4; have HB4 := Aside0.mk hB4; clear hR4 hB4 hG4 hA4))
      exact ⟨⟨k + 1, by simp, by omega, ⟨by rw [HTK.out]; exact HR4.out⟩, HB4⟩, by simp [intOf]; omega⟩
    · obtain rfl : k = D.wait.length := by omega
      go_wp2
      go_ret
      have := HR.out
      rw [List.take_length] at this
      exact ⟨_, rfl, this, HB.out⟩
theorem waiting_nil (w : World) :
    Calls Try.prog 23 #[.pointer none] w fun e w' => e = .returned (.slice none 0 0) ∧ w = w' := by
  go_enter Try.func23, Try.ntmps23
  go_wp2_with (first | (go_at_call 62; refine (given_nil _).mono ?_; rintro e w' ⟨rfl, rfl⟩))
  go_ret
  exact ⟨rfl, rfl⟩
theorem waiting_zero (g : Nat) (w : World) (hc : w.cell? ⟨g, 0, none⟩ = some (.slice none 0 0)) :
    Calls Try.prog 23 #[.pointer (some ⟨g, 0, none⟩)] w fun e w' => e = .returned (.slice none 0 0) ∧ w = w' := by
  go_enter Try.func23, Try.ntmps23
  go_wp2_with (first | (go_at_call 62; refine (given_no g _ hc).mono ?_; rintro e w' ⟨rfl, rfl⟩))
  go_ret
  exact ⟨rfl, rfl⟩
end Go.Proofs.Ytgjclhhjigflkab.Dev
