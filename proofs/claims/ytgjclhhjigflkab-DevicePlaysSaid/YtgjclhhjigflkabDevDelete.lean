/- The walk of slices.DeleteFunc over peristyle/device.write: whatever the function value, if it answers. -/
import Derived.Test.YtgjclhhjigflkabDevIndex
import Derived.Test.YtgjclhhjigflkabHandRow
import Derived.Outline
namespace Go.Proofs.Ytgjclhhjigflkab.Dev
open Go Go.RowKit Go.Proofs.Ytgjclhhjigflkab.MyWords Go.Proofs.Ytgjclhhjigflkab.Hand Go.Proofs.YtgjclhhjigflkabW.PrintWords Go.Proofs.YtgjclhhjigflkabW.PrintLast Go.Proofs.YtgjclhhjigflkabW.PrintMore
set_option linter.unusedVariables false
set_option linter.unusedSimpArgs false
abbrev zW_cells : Array Value := (wrCells ⟨0, zeroB⟩).toArray
theorem info_wr : (Try.prog.info? 113).map (·.size) = some kW.sz := by kernel_rfl
theorem zero_wr (w : World) : (zeroValue 113).run Try.prog w = .ok (.agg zW_cells) w := by kernel_rfl
theorem filt_start_wr {α : Type} (p : α → Bool) (xs : List α) (i : Nat) (hi : i < xs.length) (h1 : p xs[i] = true) (h2 : ∀ j (hj : j < i), p (xs[j]'(by omega)) = false) : xs.take i = (xs.take (i + 1)).filter (fun x => !p x) := by
  rw [List.take_succ_eq_append_getElem hi, List.filter_append]
  have e : (xs.take i).filter (fun x => !p x) = xs.take i := by
    rw [List.filter_eq_self]
    intro x hx
    obtain ⟨j, hj, rfl⟩ := List.getElem_of_mem hx
    rw [List.length_take] at hj
    rw [List.getElem_take]
    simp [h2 j (by omega)]
  rw [e]
  simp [h1]
theorem drop_get_wr {α : Type} {xs ys : List α} {j : Nat} (hl : ys.length = xs.length) (h : ys.drop j = xs.drop j) (hj : j < xs.length) : ys[j]'(by omega) = xs[j] ∧ ys.drop (j + 1) = xs.drop (j + 1) := by
  rw [List.drop_eq_getElem_cons (by omega), List.drop_eq_getElem_cons hj] at h
  injection h with h1 h2
  exact ⟨h1, h2⟩
set_option maxHeartbeats 2000000 in
set_option maxRecDepth 100000 in
theorem delete_wr (fv : Value) (p : Wr → Bool) (I : World → Prop) (hIb : ∀ w1 w2 : World, I w1 → Below w1.heap.size w1 w2 → I w2) (base : Nat) (ok : Nat → Prop) (w0 w : World) (A : Option Addr) (c0 : Nat) (xs : List Wr)
    (hN : Kd.N kW 113 w base ok (.slice A xs.length c0) xs) (hB : Below base w0 w) (hbase : base ≤ w.heap.size) (hl : xs.length ≤ 1000000) (hI : I w) (hIr : ∀ w1 w2 : World, I w1 → w1.grownBy w2 (Value.slice A xs.length c0).ownBlock → I w2)
    (hcl : ∀ (i : Nat) (hi : i < xs.length) (c : List Value) (w1 : World), I w1 → c.length = kW.sz → kW.K w1 xs[i] c → CallsV Try.prog fv #[.agg c.toArray] w1 fun e w2 => e = .returned (.bool (p xs[i])) ∧ Below w1.heap.size w1 w2) :
    Calls Try.prog 72 #[.slice A xs.length c0, fv] w fun e w' => ∃ v0_ : Value, e = .returned (v0_) ∧ Kd.N kW 113 w' base ok v0_ (xs.filter fun x => !p x) ∧ Below base w0 w' ∧ I w' := by
  have hrd := Kd.N_reads' hN
  have hidx := index_wr fv p A c0 xs (idxF p xs 0) w hrd.2.2 hrd.2.1 (by omega) (fun i hi c w1 hb hc hk => hcl i hi c w1 (hIb _ _ hI hb) hc hk) rfl
  have HIX := Aside0.mk hidx
  have HN := Aside0.mk hN
  have HB := Aside0.mk hB
  have HI := Aside0.mk hI
  have HIB := Aside0.mk hIb
  have HIR := Aside0.mk hIr
  have HCL := Aside0.mk hcl
  rcases idxF_range p xs 0 with ⟨h1, h2⟩ | ⟨i0, hi0, h1, h2, h3⟩
  · rw [h1] at HIX
    have hf : xs.filter (fun x => !p x) = xs := by
      rw [List.filter_eq_self]
      intro x hx
      simp [h2 x hx]
    rw [hf]
    clear hrd hidx hN hB hI hIb hIr hcl h1 h2 hf
    go_enter Try.func72, Try.ntmps72
    go_wp2_with (first | (go_at_call 113; (with_reducible refine HIX.out.mono ?_); rintro e w1 ⟨rfl, hb⟩; have HB1 := Aside0.mk hb; clear hb))
    go_ret
    exact ⟨_, rfl, Kd.N_below HN.out HB1.out, below_then HB.out hbase HB1.out, HIB.out _ _ HI.out HB1.out⟩
  · rw [Nat.zero_add] at h1
    rw [h1] at HIX
    obtain ⟨g, cap, hv, hbg, hgl, _⟩ := Kd.N_form hN (by omega)
    injection hv with hv1 hv2 hv3
    subst hv1 hv3
    have HS := Aside0.mk (And.intro h2 h3)
    clear hrd hidx hN hB hI hIb hIr hcl h1 h2 h3 hv2
    have hne : ((i0 : Int) == -1) = false := by simp
    go_enter Try.func72, Try.ntmps72
    go_wp2_with (first | (go_at_call 113; (with_reducible refine HIX.out.mono ?_); rintro e w1 ⟨rfl, hb⟩; have HB1 := Aside0.mk hb; clear hb))
    go_loopw [5, 6, 7] (fun v5 v6 v7 wr => ∃ (i j : Nat) (ys : List Wr), v5 = .int .i64 (i : Int) ∧ v6 = .int .i64 (j : Int) ∧ i < j ∧ j ≤ xs.length ∧ Aside0 (ys.length = xs.length ∧ ys.take i = (xs.take j).filter (fun x => !p x) ∧ ys.drop j = xs.drop j) ∧ Aside0 (Kd.N kW 113 wr base ok (.slice (some ⟨g, 0, none⟩) xs.length c0) ys) ∧ Aside0 (Below base w0 wr) ∧ Aside0 (base ≤ wr.heap.size) ∧ Aside0 (I wr)) (fun _ v6 _ _ => xs.length - (intOf v6).toNat)
    case atStart => exact ⟨i0, i0 + 1, xs, rfl, by simp, by omega, by omega, ⟨rfl, filt_start_wr p xs i0 hi0 HS.out.1 HS.out.2, rfl⟩, ⟨Kd.N_below HN.out HB1.out⟩, ⟨below_then HB.out hbase HB1.out⟩, ⟨Nat.le_trans hbase HB1.out.size⟩, ⟨HIB.out _ _ HI.out HB1.out⟩⟩
    case round =>
      clear HN HB HI HB1
      obtain ⟨i, j, ys, rfl, rfl, hij, hj, HY, HN, HB, HBS, HI⟩ := hrel
      by_cases hlt : j < xs.length
      · obtain ⟨c, hcl, hcc, hFK⟩ := row_at HN.out j (by have := HY.out.1; omega)
        obtain ⟨hyj, hyd⟩ := drop_get_wr HY.out.1 HY.out.2.2 hlt
        rw [hyj] at hFK
        have hK := Kd.FK_now hFK
        have HFK := Aside0.mk hFK
        have hcc : ∀ i u, c[i]? = some u → wr.cell? ((⟨g, j * kW.sz, none⟩ : Addr).add i) = some u := fun i u hu => by
          have := hcc i u hu
          unfold Addr.add
          split <;> simp_all
        have HYD := Aside0.mk hyd
        have HCC := Aside0.mk hcc
        have HK := Aside0.mk hK
        have HK1 := Aside0.mk (kW.K_one hK)
        have HL := Aside0.mk hcl
        have HI1 : Aside0 ((Try.prog.info? 113).map (·.size) = some c.toArray.size) := ⟨by rw [List.size_toArray, hcl]; exact info_wr⟩
        have HI1l : Aside0 ((Try.prog.info? 113).map (·.size) = some c.length) := ⟨by rw [hcl]; exact info_wr⟩
        have HI2 : Aside0 (zW_cells.size = c.toArray.size) := ⟨(show zW_cells.size = kW.sz from rfl).trans ((List.size_toArray ..).trans hcl).symm⟩
        have HI3 := Aside0.mk (all_one HK1.out)
        clear hcc hFK hK hcl hyj hyd
        obtain ⟨b, hb⟩ : ∃ b, p xs[j] = b := ⟨_, rfl⟩
        have HPB := Aside0.mk hb
        clear hb
        cases b with
        | true =>
          go_wp2_with (first | ((with_reducible refine gate_dst (N := 25) rfl ?_); refine load_event rfl 113 (.tmp 24) rfl ⟨g, j * kW.sz, none⟩ ?e1 c HCC.out _ Try.underlying113 rfl HI1l.out ?_; (case e1 => first | rfl | (go_simp; done) | (go_simp; rfl))) | ((with_reducible refine gate_dst (N := 7) rfl ?_); refine box_event ?hg (N := 7) ?hd (cs := zW_cells) (t := 113) ?hr ?_; (case hd => rfl); (case hg => rfl); (case hr => first | (go_simp; done) | (go_simp; rfl)); intro gb hgb w7 hbox hb; have HBX := Aside0.mk hb; have BK := Aside0.mk hbox; have HGB := Aside0.mk (show wr.heap.size ≤ gb by rw [hgb]; exact Nat.le_refl _); clear hb hbox hgb) | ((with_reducible refine gate_ (.store 113 (.tmp 7) (.tmp 25)) rfl ?_); refine row_store_event rfl 113 (.tmp 7) (.tmp 25) rfl gb c.toArray rfl rfl 113 zW_cells BK.out HI1.out HI2.out HI3.out ?_; intro w8 hrs; have RS := Aside0.mk hrs; clear hrs; have HB8 := Aside0.mk (RS.out.below HBX.out HGB.out); have HI8 := Aside0.mk (HIB.out _ _ HI.out HB8.out); have HCW := Aside0.mk (HCL.out j hlt c w8 HI8.out HL.out (kW.K_below HB8.out HK.out)); rw [HPB.out] at HCW) | ((with_reducible refine gate_dst (N := 27) rfl ?_); refine wpList_load_row rfl 113 (.tmp 7) rfl gb rfl 113 c.toArray (0, 0) _ RS.out.at_ Try.underlying113 rfl HI1.out ?_) | ((with_reducible refine gate_dst (N := 28) rfl ?_); refine callsV_event rfl 28 rfl (.tmp 26) [.tmp 27] #[113] rfl fv rfl [.agg c.toArray] rfl ?_; obtain ⟨f, caps, fn, h1, h2, h3, h4, h5⟩ := HCW.out; refine ⟨f, caps, fn, h1, h2, h3, h4, h5.mono ?_⟩; rintro e w9 ⟨rfl, hb9⟩; refine ⟨_, rfl, ?_⟩; have HB9 := Aside0.mk (below_step HB8.out hb9); have HI9 := Aside0.mk (HIB.out _ _ HI8.out hb9); have HK9 := Aside0.mk (blk_below RS.out.at_ hb9); clear hb9 h1 h2 h3 h4 h5))
          refine ⟨⟨i, j + 1, ys, rfl, by simp, by omega, by omega, ⟨HY.out.1, ?_, HYD.out⟩, ⟨Kd.N_below HN.out HB9.out⟩, ⟨below_then HB.out HBS.out HB9.out⟩, ⟨Nat.le_trans HBS.out HB9.out.size⟩, HI9⟩, by simp [intOf]; omega⟩
          rw [List.take_succ_eq_append_getElem hlt, List.filter_append, ← HY.out.2.1]
          simp [HPB.out]
        | false =>
          go_wp2_with (first | ((with_reducible refine gate_dst (N := 25) rfl ?_); refine load_event rfl 113 (.tmp 24) rfl ⟨g, j * kW.sz, none⟩ ?e1 c HCC.out _ Try.underlying113 rfl HI1l.out ?_; (case e1 => first | rfl | (go_simp; done) | (go_simp; rfl))) | ((with_reducible refine gate_dst (N := 7) rfl ?_); refine box_event ?hg (N := 7) ?hd (cs := zW_cells) (t := 113) ?hr ?_; (case hd => rfl); (case hg => rfl); (case hr => first | (go_simp; done) | (go_simp; rfl)); intro gb hgb w7 hbox hb; have HBX := Aside0.mk hb; have BK := Aside0.mk hbox; have HGB := Aside0.mk (show wr.heap.size ≤ gb by rw [hgb]; exact Nat.le_refl _); clear hb hbox hgb) | ((with_reducible refine gate_ (.store 113 (.tmp 7) (.tmp 25)) rfl ?_); refine row_store_event rfl 113 (.tmp 7) (.tmp 25) rfl gb c.toArray rfl rfl 113 zW_cells BK.out HI1.out HI2.out HI3.out ?_; intro w8 hrs; have RS := Aside0.mk hrs; clear hrs; have HB8 := Aside0.mk (RS.out.below HBX.out HGB.out); have HI8 := Aside0.mk (HIB.out _ _ HI.out HB8.out); have HCW := Aside0.mk (HCL.out j hlt c w8 HI8.out HL.out (kW.K_below HB8.out HK.out)); rw [HPB.out] at HCW) | ((with_reducible refine gate_dst (N := 27) rfl ?_); refine wpList_load_row rfl 113 (.tmp 7) rfl gb rfl 113 c.toArray (0, 0) _ RS.out.at_ Try.underlying113 rfl HI1.out ?_) | ((with_reducible refine gate_dst (N := 28) rfl ?_); refine callsV_event rfl 28 rfl (.tmp 26) [.tmp 27] #[113] rfl fv rfl [.agg c.toArray] rfl ?_; obtain ⟨f, caps, fn, h1, h2, h3, h4, h5⟩ := HCW.out; refine ⟨f, caps, fn, h1, h2, h3, h4, h5.mono ?_⟩; rintro e w9 ⟨rfl, hb9⟩; refine ⟨_, rfl, ?_⟩; have HB9 := Aside0.mk (below_step HB8.out hb9); have HI9 := Aside0.mk (HIB.out _ _ HI8.out hb9); have HK9 := Aside0.mk (blk_below RS.out.at_ hb9); clear hb9 h1 h2 h3 h4 h5) | ((with_reducible refine gate_dst (N := 32) rfl ?_); refine wpList_load_row rfl 113 (.tmp 7) rfl gb rfl 113 c.toArray (0, 0) _ HK9.out Try.underlying113 rfl HI1.out ?_) | ((with_reducible refine gate_ (.store 113 (.tmp 33) (.tmp 32)) rfl ?_); have HN9 := Aside0.mk (Kd.N_below HN.out HB9.out); have HB9t := Aside0.mk (below_then HB.out HBS.out HB9.out); obtain ⟨ci, hci1, hci2, hci3⟩ := row_at HN9.out i (by have := HY.out.1; omega); have HCI := Aside0.mk (And.intro hci1 hci2); clear hci1 hci2 hci3; have HM := Aside0.mk (Kd.FK_step HFK.out (fun k _ hlt2 => HB9.out.block k hlt2)); refine Kd.N_store kW (w0 := w0) base rfl rfl 113 (.tmp 33) (.tmp 32) rfl 113 (i : Int) 0 ys xs[j] (.agg c.toArray) c ci ok (fun k_ => ok k_ ∧ k_ ≠ g) ?p1 (by rw [Int.toNat_natCast, Nat.add_zero]) rfl rfl HI1l.out HK1.out HN9.out (by omega) (by omega) HCI.out.1 (by rw [Int.toNat_natCast]; exact HCI.out.2) (by rw [HL.out]; omega) ?p2 (fun _ hk => hk) HB9t.out ?_; (case p1 => first | rfl | (go_simp; done) | (go_simp; rfl)); (case p2 => rw [List.take_zero, List.nil_append, List.drop_of_length_le (by rw [HCI.out.1, HL.out]; omega), List.append_nil]; exact HM.out); intro w10 hn10 hb10 hg10; have HN10 := Aside0.mk hn10; have HB10 := Aside0.mk hb10; have HS10 := Aside0.mk hg10.size; have HI10 := Aside0.mk (HIR.out _ _ HI9.out hg10); clear hn10 hb10 hg10))
          refine ⟨⟨i + 1, j + 1, ys.set i xs[j], by simp, by simp, by omega, by omega, ⟨by rw [List.length_set]; exact HY.out.1, ?_, ?_⟩, ⟨by have := HN10.out; rwa [Int.toNat_natCast] at this⟩, HB10, ⟨Nat.le_trans (Nat.le_trans HBS.out HB9.out.size) HS10.out⟩, HI10⟩, by simp [intOf]; omega⟩
          · have hil : i < ys.length := by have := HY.out.1; omega
            rw [List.take_succ_eq_append_getElem (by rw [List.length_set]; exact hil), List.take_set_of_le (Nat.le_refl _), List.take_succ_eq_append_getElem hlt, List.filter_append, ← HY.out.2.1]
            simp [HPB.out]
          · rw [List.drop_set_of_lt (by omega)]
            exact HYD.out
      · have hjn : j = xs.length := by omega
        have hn := (Kd.N_reads' HN.out)
        obtain ⟨cur, hcur, hcsz⟩ := row_block HN.out
        have hfl : i < xs.length := by omega
        have HCU := Aside0.mk hcur
        have HCZ := Aside0.mk hcsz
        have hcap : i < c0 := by omega
        have hcap2 : xs.length ≤ c0 := hn.2.1
        clear hcur hcsz hn
        have HFIT : ∀ m : Nat, m = (xs.length - i) * kW.sz → i * kW.sz + m ≤ c0 * kW.sz := by
          intro m hm
          rw [hm, ← Nat.add_mul]
          exact Nat.mul_le_mul_right _ (by omega)
        have HFI := Aside0.mk HFIT
        have HSZ := Aside0.mk (show 0 < kW.sz by decide)
        clear HFIT
        go_wp2_with (first | ((with_reducible refine gate_builtin (b := .clear) (xs := #[.tmp 38]) rfl ?_); refine clear_event rfl (.tmp 38) 54 113 rfl g (i * kW.sz) (xs.length - i) (c0 - i) rfl Try.underlying54 (.agg zW_cells) (zero_wr wr) ?z1 HSZ.out cur 113 HCU.out (by omega) (by rw [HCZ.out]; exact HFI.out _ rfl) ?_; (case z1 => decide); intro vs hvs; have HT := Aside0.mk (N_tail HN.out i (by have := HY.out.1; omega) vs (HFI.out _ hvs) HB.out hbg); clear hvs))
        go_ret
        refine ⟨_, rfl, ?_, HT.out.2.1, HIR.out _ _ HI.out HT.out.2.2⟩
        have h1 := HT.out.1
        rw [HY.out.2.1, hjn, List.take_length] at h1
        exact h1
end Go.Proofs.Ytgjclhhjigflkab.Dev
