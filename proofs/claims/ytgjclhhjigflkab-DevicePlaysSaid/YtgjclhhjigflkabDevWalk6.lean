/- The walk of Crash. -/
import Derived.Test.YtgjclhhjigflkabDevWalk5
namespace Go.Proofs.Ytgjclhhjigflkab.Dev
open Go Go.RowKit Go.Proofs.Ytgjclhhjigflkab.MyWords Go.Proofs.Ytgjclhhjigflkab.Hand Go.Proofs.YtgjclhhjigflkabW.PrintWords Go.Proofs.YtgjclhhjigflkabW.PrintLast Go.Proofs.YtgjclhhjigflkabW.PrintMore
set_option linter.unusedVariables false
set_option linter.unusedSimpArgs false
/-- which blocks are sure after so many of the writes -/
def keptAt (keep : List Int) (D : DS) (k : Nat) : List ByteArray := keptD keep D.sure 0 (D.wait.take k)
theorem kept_append (keep : List Int) : ∀ (r t : List Wr) (l : List ByteArray) (n : Nat), keptD keep l n (r ++ t) = keptD keep (keptD keep l n r) (n + r.length) t
  | [], t, l, n => rfl
  | w :: r, t, l, n => by
    rw [List.cons_append, keptD, keptD, kept_append keep r t, List.length_cons]
    congr 1
    omega
theorem keptAt_succ (keep : List Int) (D : DS) (k : Nat) (h : k < D.wait.length) : keptAt keep D (k + 1) = if (k : Int) ∈ keep then (keptAt keep D k).set D.wait[k].at_.toNat D.wait[k].b else keptAt keep D k := by
  unfold keptAt
  rw [List.take_succ_eq_append_getElem h, kept_append, List.length_take, Nat.min_eq_left (by omega), Nat.zero_add]
  rfl
theorem keptAt_len (keep : List Int) (D : DS) (k : Nat) : (keptAt keep D k).length = D.sure.length := kept_len _ _ _ _
theorem keptAt_ok {D : DS} (hD : Ok D) (keep : List Int) (k : Nat) : Ok ⟨keptAt keep D k, D.wait, D.fuse, D.off⟩ := by
  have hl := keptAt_len keep D k
  refine ⟨by show 0 < (keptAt keep D k).length; rw [hl]; exact hD.pos, by show (keptAt keep D k).length ≤ 4096; rw [hl]; exact hD.most, kept_sz _ _ _ _ hD.sz (fun w hw => hD.wsz w (List.mem_of_mem_take hw)), hD.wsz, ?_, hD.fuse0, hD.fuse1⟩
  intro w hw
  show 0 ≤ w.at_ ∧ w.at_ < ((keptAt keep D k).length : Int)
  rw [hl]
  exact hD.wat w hw
set_option maxHeartbeats 1000000 in
set_option maxRecDepth 100000 in
theorem crash_calls {base : Nat} {ok : Nat → Prop} {g : Nat} {D : DS} {w : World} (A0 : Option Addr) (c0 : Nat) (keep : List Int) (hk0 : Kd.C (Kd.int .i64) w A0 keep.length keep) (hkl : keep.length ≤ 9223372036854775807) (hkeep : Kd.F (Kd.int .i64) w (fun k => ¬ ok k) A0 keep.length keep) (H : Dev w base ok g D) :
    Calls Try.prog 21 #[.pointer (some ⟨g, 0, none⟩), .slice A0 keep.length c0] w fun e w' => e = .returned (.int .i64 0) ∧ Dev w' base ok g (crashD D keep) ∧ Chg w w' ok := by
  obtain ⟨s, c3, A1, c4, hO⟩ := H.open_
  have hc0 := hO.cell0
  have hc1 := hO.cell1
  have hn := hO.good.pos
  have HO1 := Aside0.mk hO
  have HK0 := Aside0.mk hk0
  have HKF := Aside0.mk hkeep
  clear H hO hk0 hkeep
  go_enter Try.func21, Try.ntmps21
  go_wp2_with (first | (go_at_call 62; refine (given_yes g s _ c3 _ hc0 hn).mono ?_; rintro e w' ⟨rfl, rfl⟩))
  clear hc0 hc1 hn
  have hwl : D.wait.length ≤ 9223372036854775807 := (Kd.R_reads' HO1.out.wait).2.2.2.1
  go_loopw [15] (fun v15 wr => ∃ k : Nat, v15 = .int .i64 (k : Int) ∧ k ≤ D.wait.length ∧ Aside0 (Op wr base ok g ⟨keptAt keep D k, D.wait, D.fuse, D.off⟩ s c3 A1 c4) ∧ Aside0 (Chg w wr ok)) (fun v15 _ => D.wait.length - (intOf v15).toNat)
  case atStart => exact ⟨0, rfl, by omega, HO1, ⟨Chg.refl _ _⟩⟩
  case round =>
    obtain ⟨k, rfl, hk, HO, HC⟩ := hrel
    by_cases hlt : k < D.wait.length
    · obtain ⟨ad, hA, hcc⟩ := wait_cells HO.out (fun i _ hi => rfl) k hlt
      subst hA
      have hcc2 : ∀ (j : Nat) (u : Value), (wrCells D.wait[k])[j]? = some u → wr.cell? ((ad.add (k * 129)).add j) = some u := hcc
      have HWC := Aside0.mk hcc2
      have hws := HO1.out.good.wsz _ (List.getElem_mem hlt)
      have hwa := HO1.out.good.wat _ (List.getElem_mem hlt)
      have hsu := keptAt_succ keep D k hlt
      have hok2 := keptAt_ok HO1.out.good keep (k + 1)
      have hln := keptAt_len keep D k
      clear hcc hcc2
      obtain ⟨x, hx⟩ : ∃ x, D.wait[k] = x := ⟨_, rfl⟩
      rw [hx] at hws hwa hsu HWC
      obtain ⟨xa, xb⟩ := x
      have hw0 : 0 ≤ xa := hwa.1
      have hw1 : xa < (D.sure.length : Int) := hwa.2
      have HWS := Aside0.mk (show xb.size = 128 from hws)
      have HL := Aside0.mk hln
      have HKR := Aside0.mk (Kd.F_now (Kd.F_step HKF.out (fun i hi hlt => HC.out.block i hlt hi)))
      obtain ⟨b, hb⟩ : ∃ b, decide ((k : Int) ∈ keep) = b := ⟨_, rfl⟩
      have HBB := Aside0.mk hb
      cases b with
      | true =>
        rw [if_pos (of_decide_eq_true hb)] at hsu
        rw [hsu] at hok2
        have HSU := Aside0.mk hsu
        have HOK2 := Aside0.mk hok2
        clear hws hsu hx hwa hok2 hln hb
        go_wp2_with (first | ((with_reducible refine gate_dst (N := 19) rfl ?_); refine load_event rfl TW (.tmp 18) rfl (ad.add (k * 129)) ?e1 (wrCells ⟨xa, xb⟩) HWC.out _ Try.underlying113 rfl (by rw [wrCells_len, HWS.out]; exact size_W) ?_; (case e1 => first | rfl | (go_simp; done) | (go_simp; rfl))) | ((with_reducible refine gate_dst (N := 6) rfl ?_); refine alloc_event rfl (N := 6) rfl (run_alloc_W rfl) ?_; intro g6 w2 hg6 hA6 hB6 hS6) | ((with_reducible refine gate_store (t := TW) (p := .tmp 6) (x := .tmp 19) rfl ?_); refine row_store_event rfl TW (.tmp 6) (.tmp 19) rfl g6 (wrCells ⟨xa, xb⟩).toArray rfl rfl TW _ hA6.out (by rw [List.size_toArray, wrCells_len, HWS.out]; exact size_W) (by rw [List.size_toArray, List.size_toArray, wrCells_len, wrCells_len, HWS.out, zeroB_size]) (all_one (wrCells_one _)) ?_; intro w3 hs3; have HS3 := Aside0.mk hs3; have HB3 := Aside0.mk (hs3.below hB6.out (by rw [hg6.out]; exact Nat.le_refl _)); clear hs3) | (go_at_call 65; refine (contains_calls A0 c0 keep (k : Int) true _ (Kd.C_below HKR.out HB3.out) hkl HBB.out).mono ?_; rintro e w' ⟨rfl, rfl⟩))
        have hb2 := HB3.out
        have HO2 := Aside0.mk (HO.out.far (fun i _ hi => hb2.block i hi))
        have HC0 := Aside0.mk HO2.out.cell0
        have hb4 := HS3.out.at_
        have HC4 := Aside0.mk (show w3.cell? ⟨g6, 0, none⟩ = some (.int .i64 xa) from (cell_of_row w3 g6 0 _ _ _ hb4).trans rfl)
        have HR4 := Aside0.mk (show w3.rangeAt g6 1 (blkCells xb) from fun j v hv => by rw [cell_of_row w3 g6 _ _ _ _ hb4]; simpa [wrCells, Nat.add_comm 1 j] using hv)
        have HTH := Aside0.mk (HO2.out.there xa hw0 (by show xa < ((keptAt keep D k).length : Int); rw [HL.out]; exact hw1))
        have hlsz : (keptAt keep D k).length = D.sure.length := HL.out
        have HC0' : Aside0 (w3.cell? ⟨g, 0, none⟩ = some (.slice (some ⟨s, 0, none⟩) D.sure.length c3)) := ⟨by have := HC0.out; simp only [hlsz] at this; exact this⟩
        clear hb2 hb4 hlsz HC0
        refine start_ (n := 10) (S := fun w' => w'.cell? ⟨g, 0, none⟩ = some (.slice (some ⟨s, 0, none⟩) D.sure.length c3) ∧ w'.cell? ⟨g6, 0, none⟩ = some (.int .i64 xa) ∧ w'.rangeAt g6 1 (blkCells xb)) (ds := [9]) #[Z,Z,Z,Z,Z,Z,Z,Z,Z,Z] (by kernel_rfl) rfl rfl (⟨HC0'.out, HC4.out, by rw [World.rangeAt_drew]; exact HR4.out⟩) (fun hHeld => ?_)
        refine pure_ (i := 0) (N := (some 23)) (v := ?_) (a' := ?_) #[Y,Z,Z,Z,Z,Z,Z,Z,Z,Z] rfl rfl (by kernel_rfl) (fun _ _ _ h => h) (Or.inl ⟨by rfl, ?_⟩) ?_ ?_
        rotate_left
        · intro w'
          go_simp
          with_reducible rfl
        rotate_left
        · simp only [Act.put, List.setIfInBounds_toArray, List.set_cons_zero, List.set_cons_succ, i64_w, i32_w]
          rfl
        refine pure_ (i := 1) (N := (some 24)) (v := ?_) (a' := ?_) #[Y,Y,Z,Z,Z,Z,Z,Z,Z,Z] rfl rfl (by kernel_rfl) (fun _ _ _ h => h) (Or.inl ⟨by rfl, ?_⟩) ?_ ?_
        rotate_left
        · intro w'
          go_simp
          with_reducible rfl
        rotate_left
        · simp only [Act.put, List.setIfInBounds_toArray, List.set_cons_zero, List.set_cons_succ, i64_w, i32_w]
          rfl
        refine pure_ (i := 2) (N := (some 25)) (v := ?_) (a' := ?_) #[Y,Y,Y,Z,Z,Z,Z,Z,Z,Z] rfl rfl (by kernel_rfl) (fun _ _ _ h => h) (Or.inl ⟨by rfl, ?_⟩) ?_ ?_
        rotate_left
        · intro w'
          go_simp
          with_reducible rfl
        rotate_left
        · simp only [Act.put, List.setIfInBounds_toArray, List.set_cons_zero, List.set_cons_succ, i64_w, i32_w]
          rfl
        refine take_ (i := 3) (N := (some 26)) (v := ?_) (a' := ?_) #[Y,Y,Y,Y,Z,Z,Z,Z,Z,Z] rfl rfl (by kernel_rfl) (fun _ _ _ h => h) (Or.inl ⟨by rfl, ?_⟩) hHeld ?_ ?_
        rotate_left
        · intro w' s0
          go_simp
          with_reducible rfl
        rotate_left
        · simp only [Act.put, List.setIfInBounds_toArray, List.set_cons_zero, List.set_cons_succ, i64_w, i32_w]
          rfl
        refine pure_ (i := 4) (N := (some 27)) (v := ?_) (a' := ?_) #[Y,Y,Y,Y,Y,Z,Z,Z,Z,Z] rfl rfl (by kernel_rfl) (fun _ _ _ h => h) (Or.inl ⟨by rfl, ?_⟩) ?_ ?_
        rotate_left
        · intro w'
          go_simp
          with_reducible rfl
        rotate_left
        · simp only [Act.put, List.setIfInBounds_toArray, List.set_cons_zero, List.set_cons_succ, i64_w, i32_w]
          rfl
        refine take_ (i := 5) (N := (some 28)) (v := ?_) (a' := ?_) #[Y,Y,Y,Y,Y,Y,Z,Z,Z,Z] rfl rfl (by kernel_rfl) (fun _ _ _ h => h) (Or.inl ⟨by rfl, ?_⟩) hHeld ?_ ?_
        rotate_left
        · intro w' s0
          go_simp
          with_reducible rfl
        rotate_left
        · simp only [Act.put, List.setIfInBounds_toArray, List.set_cons_zero, List.set_cons_succ, i64_w, i32_w]
          rfl
        refine pure_ (i := 6) (N := (some 29)) (v := ?_) (a' := ?_) #[Y,Y,Y,Y,Y,Y,Y,Z,Z,Z] rfl rfl (by kernel_rfl) (fun _ _ _ h => h) (Or.inl ⟨by rfl, ?_⟩) ?_ ?_
        rotate_left
        · intro w'
          go_simp
          with_reducible rfl
        rotate_left
        · simp only [Act.put, List.setIfInBounds_toArray, List.set_cons_zero, List.set_cons_succ, i64_w, i32_w]
          rfl
        refine take_ (i := 7) (N := (some 30)) (v := .agg (blkCells xb).toArray) (a' := ?_) #[Y,Y,Y,Y,Y,Y,Y,Y,Z,Z] rfl rfl (by kernel_rfl) (fun _ _ _ h => h) (yieldsIf_load_mid (by rfl) 111 (.tmp 29) rfl g6 1 rfl (blkCells xb) _ (fun w (h : _ ∧ _ ∧ _) => h.2.2) Try.underlying111 rfl (by rw [blkCells_len, HWS.out]; exact size_B)) hHeld ?_ ?_
        rotate_left
        · simp only [Act.put, List.setIfInBounds_toArray, List.set_cons_zero, List.set_cons_succ, i64_w, i32_w]
          rfl
        refine pure_ (i := 8) (N := (some 31)) (v := ?_) (a' := ?_) #[Y,Y,Y,Y,Y,Y,Y,Y,Y,Z] rfl rfl (by kernel_rfl) (fun _ _ _ h => h) (Or.inl ⟨by rfl, ?_⟩) ?_ ?_
        rotate_left
        · intro w'
          go_simp
          with_reducible rfl
        rotate_left
        · simp only [Act.put, List.setIfInBounds_toArray, List.set_cons_zero, List.set_cons_succ, i64_w, i32_w]
          rfl
        refine last_ (i := 9) (N := none) #[Y,Y,Y,Y,Y,Y,Y,Y,Y,Y] rfl rfl (by kernel_rfl) (by decide) (fun K hK => ?_)
        refine skip_ (w1 := w3.drew.setCells s (xa.toNat * 128) (blkCells xb)) (by rfl) rfl (run_store_B (.tmp 31) (.tmp 30) s (xa.toNat * 128) xb HWS.out rfl rfl rfl (by rw [World.there_drew]; exact HTH.out)) ?_
        refine hK.out _ _ ?_
        clear hK K
        refine done_ (by kernel_rfl) ?_
        go_wp2
        have hfin := HO2.out.far (w1 := w3.drew) (fun i _ _ => rfl) |>.store xa xb hw0 (by show xa < ((keptAt keep D k).length : Int); rw [HL.out]; exact hw1) HWS.out HOK2.out
        refine ⟨⟨k + 1, by simp, by omega, ⟨?_⟩, ⟨((HC.out.trans (Chg.of_below HB3.out)).trans (Chg.drew _ _)).trans hfin.2⟩⟩, by simp [intOf]; omega⟩
        rw [HSU.out]
        exact hfin.1
      | false =>
        rw [if_neg (of_decide_eq_false hb)] at hsu
        have HSU := Aside0.mk hsu
        clear hws hsu hx hwa hok2 hln hb
        go_wp2_with (first | ((with_reducible refine gate_dst (N := 19) rfl ?_); refine load_event rfl TW (.tmp 18) rfl (ad.add (k * 129)) ?e1 (wrCells ⟨xa, xb⟩) HWC.out _ Try.underlying113 rfl (by rw [wrCells_len, HWS.out]; exact size_W) ?_; (case e1 => first | rfl | (go_simp; done) | (go_simp; rfl))) | ((with_reducible refine gate_dst (N := 6) rfl ?_); refine alloc_event rfl (N := 6) rfl (run_alloc_W rfl) ?_; intro g6 w2 hg6 hA6 hB6 hS6) | ((with_reducible refine gate_store (t := TW) (p := .tmp 6) (x := .tmp 19) rfl ?_); refine row_store_event rfl TW (.tmp 6) (.tmp 19) rfl g6 (wrCells ⟨xa, xb⟩).toArray rfl rfl TW _ hA6.out (by rw [List.size_toArray, wrCells_len, HWS.out]; exact size_W) (by rw [List.size_toArray, List.size_toArray, wrCells_len, wrCells_len, HWS.out, zeroB_size]) (all_one (wrCells_one _)) ?_; intro w3 hs3; have HS3 := Aside0.mk hs3; have HB3 := Aside0.mk (hs3.below hB6.out (by rw [hg6.out]; exact Nat.le_refl _)); clear hs3) | (go_at_call 65; refine (contains_calls A0 c0 keep (k : Int) false _ (Kd.C_below HKR.out HB3.out) hkl HBB.out).mono ?_; rintro e w' ⟨rfl, rfl⟩))
        refine ⟨⟨k + 1, by simp, by omega, ⟨?_⟩, ⟨HC.out.trans (Chg.of_below HB3.out)⟩⟩, by simp [intOf]; omega⟩
        rw [HSU.out]
        exact HO.out.far (fun i _ hi => HB3.out.block i hi)
    · obtain rfl : k = D.wait.length := by omega
      have hf1 := HO.out.froz 1
      have hf2 := HO.out.froz 2
      have hf3 := HO.out.froz 3
      have hcc1 := HO.out.cell1
      have hcc2 := HO.out.cell2
      have hcc3 := HO.out.cell3
      have hg := keptAt_ok HO1.out.good keep D.wait.length
      have he1 := HO.out.forget ⟨hg.pos, hg.most, hg.sz, by simp, by simp, hg.fuse0, hg.fuse1⟩
      have hg2 : Ok (⟨keptAt keep D D.wait.length, [], -1, D.off⟩ : DS) := ⟨hg.pos, hg.most, hg.sz, by simp, by simp, by simp, by simp⟩
      have he2 := he1.1.set2 (-1) hg2
      have he3 := he2.set3 false ⟨hg2.pos, hg2.most, hg2.sz, by simp, by simp, by simp, by simp⟩
      have HE := Aside0.mk he3
      have HE1 := Aside0.mk he1.2
      have HOG := Aside0.mk HO.out.okg
      clear hg he1 hg2 he2 he3
      go_wp2
      go_ret
      have h1 := HE.out.dev
      have h2 : keptAt keep D D.wait.length = keptD keep D.sure 0 D.wait := by unfold keptAt; rw [List.take_length]
      rw [h2] at h1
      exact ⟨rfl, h1, ((HC.out.trans HE1.out).trans (Chg.setCell _ g 2 _ HOG.out)).trans (Chg.setCell _ g 3 _ HOG.out)⟩
end Go.Proofs.Ytgjclhhjigflkab.Dev
