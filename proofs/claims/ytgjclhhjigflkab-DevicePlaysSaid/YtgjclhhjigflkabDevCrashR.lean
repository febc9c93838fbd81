/- The walk of the document's Crash. -/
import Derived.Test.YtgjclhhjigflkabDevPair
namespace Go.Proofs.Ytgjclhhjigflkab.Dev
open Go Go.RowKit Go.Proofs.Ytgjclhhjigflkab.D Go.Proofs.Ytgjclhhjigflkab.MyWords Go.Proofs.Ytgjclhhjigflkab.Hand Go.Proofs.YtgjclhhjigflkabW.PrintWords Go.Proofs.YtgjclhhjigflkabW.PrintLast Go.Proofs.YtgjclhhjigflkabW.PrintMore
set_option linter.unusedVariables false
set_option linter.unusedSimpArgs false
theorem R_raise {e base base' : Nat} {w : World} {ok : Nat → Prop} {v : Value} {xs : List ByteArray} (h : Kd.R Kd.string e w base ok v xs) (hb : ∀ k, v.ownBlock = some k → base' ≤ k) : Kd.R Kd.string e w base' ok v xs := by
  obtain ⟨h0, inner, ho, hr⟩ := h
  exact ⟨h0, inner, Kd.own_raise ho hb, hr⟩
theorem q_one (a b c d : Value) (ha : a.oneCell' = true) (hb : b.oneCell' = true) (hc : c.oneCell' = true) (hd : d.oneCell' = true) : (#[a, b, c, d] : Array Value).all (·.oneCell') = true := by simp [ha, hb, hc, hd]
theorem size_Q : (Try.prog.info? TQ).map (·.size) = some 4 := by kernel_rfl
set_option maxHeartbeats 1000000 in
set_option maxRecDepth 100000 in
theorem rcrash_walk {w0 w : World} {v0 : Value} {A : Option Addr} {c : Nat} {P : Nat → Prop} {C : DS} (hC : Ok C) (hl : C.wait.length ≤ 1000000) (hB : Below w0.heap.size w0 w) (hs : Kd.R Kd.string TS w w0.heap.size P v0 C.sure) (hq : Kd.C kS w A C.wait.length (toS C.wait))
    (A1 : Option Addr) (c1 : Nat) (keep : List Int) (hk : Kd.C (Kd.int .i64) w A1 keep.length keep) (hkc : keep.length ≤ c1) (hkl : keep.length ≤ 9223372036854775807) :
    Calls Try.prog 69 #[.agg #[v0, .slice A C.wait.length c, .int .i64 C.fuse, .bool C.off], .slice A1 keep.length c1] w fun e w' => ∃ v0', e = .returned (Q0 v0' (.slice none 0 0) (crashD C keep)) ∧ Kd.R Kd.string TS w' w0.heap.size (fun k => (P k ∨ P k) ∨ w.heap.size ≤ k) v0' (crashD C keep).sure ∧ Below w.heap.size w w' := by
  obtain ⟨As, cs, rfl⟩ := Kd.R_slice hs
  have HS := Aside0.mk hs
  have HQ := Aside0.mk hq
  have HK := Aside0.mk hk
  have HB := Aside0.mk hB
  have HC := Aside0.mk hC
  clear hs hq hk hB hC
  go_enter Try.func69, Try.ntmps69
  go_wp2_with (first | ((with_reducible refine gate_dst (N := 2) rfl ?_); refine box_event rfl (N := 2) rfl (cs := #[.slice As C.sure.length cs, .slice A C.wait.length c, .int .i64 C.fuse, .bool C.off]) (t := TQ) ?hr ?_; (case hr => first | (go_simp; done) | (go_simp; rfl)); intro b hgb w1 hb1 hB1; have HB1 := Aside0.mk hB1; have HX := Aside0.mk hb1; have HGB := Aside0.mk hgb; clear hB1 hb1 hgb) | ((with_reducible refine gate_dst (N := 4) rfl ?_); refine box_event rfl (N := 4) rfl (cs := #[.slice none 0 0, .slice none 0 0, .int .i64 0, .bool false]) (t := TQ) ?hr ?_; (case hr => first | (go_simp; done) | (go_simp; rfl)); intro b4 hgb4 w4 hb4 hB4; have HX4 := Aside0.mk hb4; have HX1 := Aside0.mk (blk_below HX.out hB4); have HB4 := Aside0.mk (below_step HB1.out hB4); have HGB4 := Aside0.mk hgb4; have HL1 := Aside0.mk (blk_lt HX.out); clear hB4 hb4 hgb4))
  have HS4 : Aside0 (Kd.R Kd.string TS w4 w0.heap.size (fun k => (P k ∨ P k) ∨ w.heap.size ≤ k) (.slice As C.sure.length cs) (keptAt keep C 0)) := ⟨Kd.R_mono (Kd.R_below HS.out HB4.out) (fun k h => .inl (.inl h))⟩
  have hne : b ≠ b4 := by have := HL1.out; have := HGB4.out; omega
  have HNE := Aside0.mk hne
  clear HX HS hne
  go_loopw [5] (fun v5 wr => ∃ i : Nat, v5 = .int .i64 (i : Int) ∧ i ≤ C.wait.length ∧ ∃ Au cu, Aside0 (Kd.R Kd.string TS wr w0.heap.size (fun k => (P k ∨ P k) ∨ w.heap.size ≤ k) (.slice Au C.sure.length cu) (keptAt keep C i)) ∧ Aside0 (wr.heap[b]? = some (.cells #[.slice Au C.sure.length cu, .slice A C.wait.length c, .int .i64 C.fuse, .bool C.off] TQ (0, 0))) ∧ Aside0 (wr.heap[b4]? = some (.cells #[.slice none 0 0, .slice none 0 0, .int .i64 0, .bool false] TQ (0, 0))) ∧ Aside0 (Below w.heap.size w wr)) (fun v5 _ => C.wait.length - (intOf v5).toNat)
  case atStart => exact ⟨0, rfl, Nat.zero_le _, _, _, HS4, HX1, HX4, HB4⟩
  case round =>
    clear HS4 HX1 HX4 HB4
    obtain ⟨i, rfl, hi, Au, cu, HS, HX, HX4, HBW⟩ := hrel
    have hx0 : wr.cell? ⟨b, 0, none⟩ = some (.slice Au C.sure.length cu) := (cell_of_row wr b 0 _ _ _ HX.out).trans rfl
    have hx1 : wr.cell? ⟨b, 1, none⟩ = some (.slice A C.wait.length c) := (cell_of_row wr b 1 _ _ _ HX.out).trans rfl
    by_cases hlt : i < C.wait.length
    · obtain ⟨kk, hkk⟩ := (has_ev keep hkl (i : Int)).rounds
      have HKK := Aside0.mk hkk
      have hsu := keptAt_succ keep C i hlt
      have hwt := HC.out.wat _ (List.getElem_mem hlt)
      obtain ⟨ad, hA, hq0, hq1⟩ := at_T122 HQ.out (i : Int) (by omega) (by omega)
      subst hA
      rw [toS_rd _ i hlt, Int.toNat_natCast] at hq0 hq1
      obtain ⟨x, hx⟩ : ∃ x, C.wait[i] = x := ⟨_, rfl⟩
      rw [hx] at hsu hwt hq0 hq1
      obtain ⟨xa, xb⟩ := x
      simp only at hsu hwt hq0 hq1
      have HSU := Aside0.mk hsu
      have HWT := Aside0.mk hwt
      have HQ0 := Aside0.mk hq0
      have HQ1 := Aside0.mk hq1
      clear hkk hsu hwt hq0 hq1 hx
      by_cases hin : (i : Int) ∈ keep
      · have e1 : decide ((i : Int) ∈ keep) = true := decide_eq_true hin
        rw [e1] at HKK
        have HSU2 := HSU.out
        rw [if_pos hin] at HSU2
        have HSU3 := Aside0.mk HSU2
        clear e1 hin HSU HSU2
        go_wp2_with fail
        refine (peristyleref04_has.calls kk A1 c1 keep (i : Int) true _ (Kd.C_below HK.out HBW.out) hkc HKK.out).mono ?_
        rintro e w5 ⟨rfl, hd5⟩
        have hb5 := hd5.below
        have HS5 := Aside0.mk (Kd.R_below HS.out hb5)
        have HX5 := Aside0.mk (blk_below HX.out hb5)
        have HX45 := Aside0.mk (blk_below HX4.out hb5)
        have HBW5 := Aside0.mk (below_step HBW.out hb5)
        have HC0 := Aside0.mk (show w5.cell? ⟨b, 0, none⟩ = some (.slice Au C.sure.length cu) from (cell_of_row w5 b 0 _ _ _ HX5.out).trans rfl)
        have HC1 := Aside0.mk (show w5.cell? ⟨b, 1, none⟩ = some (.slice (some ad) C.wait.length c) from (cell_of_row w5 b 1 _ _ _ HX5.out).trans rfl)
        have HD0 := Aside0.mk (pw_cell_below HBW5.out HQ0.out)
        have HD1 := Aside0.mk (pw_cell_below HBW5.out HQ1.out)
        clear hd5 hb5 HS HX HX4 HBW hx0 hx1
        go_wp2_with fail
        refine start_ (n := 17) (S := fun w' => w'.cell? ⟨b, 0, none⟩ = some (.slice Au C.sure.length cu) ∧ w'.cell? ⟨b, 1, none⟩ = some (.slice (some ad) C.wait.length c) ∧ w'.cell? (ad.add (i * 2)) = some (.int .i64 xa) ∧ w'.cell? ⟨(ad.add (i * 2)).block, (ad.add (i * 2)).off + 1, none⟩ = some (.string xb)) (ds := [16]) #[Z,Z,Z,Z,Z,Z,Z,Z,Z,Z,Z,Z,Z,Z,Z,Z,Z] (by kernel_rfl) rfl rfl (⟨HC0.out, HC1.out, HD0.out, HD1.out⟩) (fun hHeld => ?_)
        refine pure_ (i := 0) (N := (some 16)) (v := ?_) (a' := ?_) #[Y,Z,Z,Z,Z,Z,Z,Z,Z,Z,Z,Z,Z,Z,Z,Z,Z] rfl rfl (by kernel_rfl) (fun _ _ _ h => h) (Or.inl ⟨by rfl, ?_⟩) ?_ ?_
        rotate_left
        · intro w'
          go_simp
          with_reducible rfl
        rotate_left
        · simp only [Act.put, List.setIfInBounds_toArray, List.set_cons_zero, List.set_cons_succ, i64_w, i32_w]
          rfl
        refine take_ (i := 1) (N := (some 17)) (v := ?_) (a' := ?_) #[Y,Y,Z,Z,Z,Z,Z,Z,Z,Z,Z,Z,Z,Z,Z,Z,Z] rfl rfl (by kernel_rfl) (fun _ _ _ h => h) (Or.inl ⟨by rfl, ?_⟩) hHeld ?_ ?_
        rotate_left
        · intro w' s0
          go_simp
          with_reducible rfl
        rotate_left
        · simp only [Act.put, List.setIfInBounds_toArray, List.set_cons_zero, List.set_cons_succ, i64_w, i32_w]
          rfl
        refine pure_ (i := 2) (N := (some 18)) (v := ?_) (a' := ?_) #[Y,Y,Y,Z,Z,Z,Z,Z,Z,Z,Z,Z,Z,Z,Z,Z,Z] rfl rfl (by kernel_rfl) (fun _ _ _ h => h) (Or.inl ⟨by rfl, ?_⟩) ?_ ?_
        rotate_left
        · intro w'
          go_simp
          with_reducible rfl
        rotate_left
        · simp only [Act.put, List.setIfInBounds_toArray, List.set_cons_zero, List.set_cons_succ, i64_w, i32_w]
          rfl
        refine take_ (i := 3) (N := (some 19)) (v := ?_) (a' := ?_) #[Y,Y,Y,Y,Z,Z,Z,Z,Z,Z,Z,Z,Z,Z,Z,Z,Z] rfl rfl (by kernel_rfl) (fun _ _ _ h => h) (Or.inl ⟨by rfl, ?_⟩) hHeld ?_ ?_
        rotate_left
        · intro w' s0
          go_simp
          with_reducible rfl
        rotate_left
        · simp only [Act.put, List.setIfInBounds_toArray, List.set_cons_zero, List.set_cons_succ, i64_w, i32_w]
          rfl
        refine pure_ (i := 4) (N := (some 20)) (v := ?_) (a' := ?_) #[Y,Y,Y,Y,Y,Z,Z,Z,Z,Z,Z,Z,Z,Z,Z,Z,Z] rfl rfl (by kernel_rfl) (fun _ _ _ h => h) (Or.inl ⟨by rfl, ?_⟩) ?_ ?_
        rotate_left
        · intro w'
          go_simp
          with_reducible rfl
        rotate_left
        · simp only [Act.put, List.setIfInBounds_toArray, List.set_cons_zero, List.set_cons_succ, i64_w, i32_w]
          rfl
        refine pure_ (i := 5) (N := (some 21)) (v := ?_) (a' := ?_) #[Y,Y,Y,Y,Y,Y,Z,Z,Z,Z,Z,Z,Z,Z,Z,Z,Z] rfl rfl (by kernel_rfl) (fun _ _ _ h => h) (Or.inl ⟨by rfl, ?_⟩) ?_ ?_
        rotate_left
        · intro w'
          go_simp
          with_reducible rfl
        rotate_left
        · simp only [Act.put, List.setIfInBounds_toArray, List.set_cons_zero, List.set_cons_succ, i64_w, i32_w]
          rfl
        refine pure_ (i := 6) (N := (some 22)) (v := ?_) (a' := ?_) #[Y,Y,Y,Y,Y,Y,Y,Z,Z,Z,Z,Z,Z,Z,Z,Z,Z] rfl rfl (by kernel_rfl) (fun _ _ _ h => h) (Or.inl ⟨by rfl, ?_⟩) ?_ ?_
        rotate_left
        · intro w'
          go_simp
          with_reducible rfl
        rotate_left
        · simp only [Act.put, List.setIfInBounds_toArray, List.set_cons_zero, List.set_cons_succ, i64_w, i32_w]
          rfl
        refine take_ (i := 7) (N := (some 23)) (v := ?_) (a' := ?_) #[Y,Y,Y,Y,Y,Y,Y,Y,Z,Z,Z,Z,Z,Z,Z,Z,Z] rfl rfl (by kernel_rfl) (fun _ _ _ h => h) (Or.inl ⟨by rfl, ?_⟩) hHeld ?_ ?_
        rotate_left
        · intro w' s0
          go_simp
          with_reducible rfl
        rotate_left
        · simp only [Act.put, List.setIfInBounds_toArray, List.set_cons_zero, List.set_cons_succ, i64_w, i32_w]
          rfl
        refine pure_ (i := 8) (N := (some 24)) (v := ?_) (a' := ?_) #[Y,Y,Y,Y,Y,Y,Y,Y,Y,Z,Z,Z,Z,Z,Z,Z,Z] rfl rfl (by kernel_rfl) (fun _ _ _ h => h) (Or.inl ⟨by rfl, ?_⟩) ?_ ?_
        rotate_left
        · intro w'
          go_simp
          with_reducible rfl
        rotate_left
        · simp only [Act.put, List.setIfInBounds_toArray, List.set_cons_zero, List.set_cons_succ, i64_w, i32_w]
          rfl
        refine take_ (i := 9) (N := (some 25)) (v := ?_) (a' := ?_) #[Y,Y,Y,Y,Y,Y,Y,Y,Y,Y,Z,Z,Z,Z,Z,Z,Z] rfl rfl (by kernel_rfl) (fun _ _ _ h => h) (Or.inl ⟨by rfl, ?_⟩) hHeld ?_ ?_
        rotate_left
        · intro w' s0
          go_simp
          with_reducible rfl
        rotate_left
        · simp only [Act.put, List.setIfInBounds_toArray, List.set_cons_zero, List.set_cons_succ, i64_w, i32_w]
          rfl
        refine pure_ (i := 10) (N := (some 26)) (v := ?_) (a' := ?_) #[Y,Y,Y,Y,Y,Y,Y,Y,Y,Y,Y,Z,Z,Z,Z,Z,Z] rfl rfl (by kernel_rfl) (fun _ _ _ h => h) (Or.inl ⟨by rfl, ?_⟩) ?_ ?_
        rotate_left
        · intro w'
          go_simp
          with_reducible rfl
        rotate_left
        · simp only [Act.put, List.setIfInBounds_toArray, List.set_cons_zero, List.set_cons_succ, i64_w, i32_w]
          rfl
        refine pure_ (i := 11) (N := (some 27)) (v := ?_) (a' := ?_) #[Y,Y,Y,Y,Y,Y,Y,Y,Y,Y,Y,Y,Z,Z,Z,Z,Z] rfl rfl (by kernel_rfl) (fun _ _ _ h => h) (Or.inl ⟨by rfl, ?_⟩) ?_ ?_
        rotate_left
        · intro w'
          go_simp
          with_reducible rfl
        rotate_left
        · simp only [Act.put, List.setIfInBounds_toArray, List.set_cons_zero, List.set_cons_succ, i64_w, i32_w]
          rfl
        refine pure_ (i := 12) (N := (some 28)) (v := ?_) (a' := ?_) #[Y,Y,Y,Y,Y,Y,Y,Y,Y,Y,Y,Y,Y,Z,Z,Z,Z] rfl rfl (by kernel_rfl) (fun _ _ _ h => h) (Or.inl ⟨by rfl, ?_⟩) ?_ ?_
        rotate_left
        · intro w'
          go_simp
          with_reducible rfl
        rotate_left
        · simp only [Act.put, List.setIfInBounds_toArray, List.set_cons_zero, List.set_cons_succ, i64_w, i32_w]
          rfl
        refine take_ (i := 13) (N := (some 29)) (v := ?_) (a' := ?_) #[Y,Y,Y,Y,Y,Y,Y,Y,Y,Y,Y,Y,Y,Y,Z,Z,Z] rfl rfl (by kernel_rfl) (fun _ _ _ h => h) (Or.inl ⟨by rfl, ?_⟩) hHeld ?_ ?_
        rotate_left
        · intro w' s0
          go_simp
          with_reducible rfl
        rotate_left
        · simp only [Act.put, List.setIfInBounds_toArray, List.set_cons_zero, List.set_cons_succ, i64_w, i32_w]
          rfl
        refine one_ (i := 14) (N := (some 30)) #[Y,Y,Y,Y,Y,Y,Y,Y,Y,Y,Y,Y,Y,Y,Y,Z,Z] rfl rfl (by kernel_rfl) (by decide) (fun K hK => ?_)
        refine goes_ Try.func111 (by kernel_rfl) rfl #[.slice Au C.sure.length cu, .int .i64 xa, .string xb] (by rfl) rfl rfl (by (try simp only [List.map_toArray, List.map_cons, List.map_nil]); first | done | rfl) ?_
        have hrd := Kd.R_reads' HS5.out
        have hln : (keptAt keep C i).length = C.sure.length := keptAt_len _ _ _
        have hw := with_is (keptAt keep C i) xa xb HWT.out.1 (by rw [hln]; exact HWT.out.2) (by rw [hln]; exact HC.out.most)
        have hwc := peristyleref04_with.calls Au cu _ xa xb _ w5.drew (Kd.C_drew hrd.2.2) (by rw [hln]; exact hrd.2.1) hw
        rw [hln] at hwc
        refine hwc.mono ?_
        rintro e w6 ⟨v6, rfl, hr6, hb6⟩
        obtain ⟨A6, c6, rfl⟩ := Kd.R_slice hr6
        have hlw : ((keptAt keep C i).set xa.toNat xb).length = C.sure.length := by rw [List.length_set, hln]
        rw [hlw] at hr6 ⊢
        have hB6 : Below w5.heap.size w5 w6 := below_then (below_drew (Below.refl _ _)) (Nat.le_refl _) hb6
        refine ⟨_, rfl, ?_⟩
        have HR6 := Aside0.mk hr6
        have HB6 := Aside0.mk hB6
        have hx06 := pw_cell_below hB6 HC0.out
        have hf06 := frozen_of_row w6 b 0 _ _ (blk_below HX5.out hB6)
        refine hK.out _ _ ⟨hx06, pw_cell_below hB6 HC1.out, pw_cell_below hB6 HD0.out, pw_cell_below hB6 HD1.out⟩ (fun hHeld => ?_)
        clear hrd hln hw hwc hr6 hb6 hlw hB6
        clear hK K
        refine norm_ (a' := ?_) ?_ ?_
        rotate_left
        · show Act.put _ (some 30) _ = _
          simp only [Act.put, List.setIfInBounds_toArray, List.set_cons_zero, List.set_cons_succ, i64_w, i32_w]
          rfl
        refine pure_ (i := 15) (N := (some 31)) (v := ?_) (a' := ?_) #[Y,Y,Y,Y,Y,Y,Y,Y,Y,Y,Y,Y,Y,Y,Y,Y,Z] rfl rfl (by kernel_rfl) (fun _ _ _ h => h) (Or.inl ⟨by rfl, ?_⟩) ?_ ?_
        rotate_left
        · intro w'
          go_simp
          with_reducible rfl
        rotate_left
        · simp only [Act.put, List.setIfInBounds_toArray, List.set_cons_zero, List.set_cons_succ, i64_w, i32_w]
          rfl
        refine last_ (i := 16) (N := none) #[Y,Y,Y,Y,Y,Y,Y,Y,Y,Y,Y,Y,Y,Y,Y,Y,Y] rfl rfl (by kernel_rfl) (by decide) (fun K hK => ?_)
        refine skip_ (w1 := w6.setCell ⟨b, 0, none⟩ (.slice A6 C.sure.length c6)) (by rfl) rfl ?_ ?_
        · go_simp
        refine hK.out _ _ ?_
        clear hK K
        refine done_ (by kernel_rfl) ?_
        go_wp2
        have hx6 := blk_below HX5.out HB6.out
        have hbl := blk_lt HX5.out
        have hbw : w.heap.size ≤ b := by have := HGB.out; omega
        have hset := cellSet_mk (i := 0) (v := Value.slice A6 C.sure.length c6) hx6
        have HSET := Aside0.mk hset
        clear hset
        go_roundw
        case measure => simp [intOf]; omega
        case rel =>
        refine ⟨i + 1, by simp, by omega, A6, c6, ⟨?_⟩, ⟨HSET.out.at_⟩, ⟨(HSET.out.other b4 (Ne.symm HNE.out)).trans (blk_below HX45.out HB6.out)⟩, ⟨HSET.out.below (below_step HBW5.out HB6.out) hbw⟩⟩
        rw [HSU3.out]
        refine Kd.R_set (R_raise (Kd.R_mono (Kd.R_tight2 rfl HR6.out) (fun k h => ?_)) (fun k h => ?_)) hx6 (by intro q hq; simp [Kd.string, Kd.scalar] at hq; subst hq; decide) 0 _
        · have := Kd.R_base HR6.out k h.1.symm
          have h5 := HBW5.out.size
          exact .inr (Nat.le_trans h5 this)
        · have := Kd.R_base HR6.out k h
          have h5 := HBW5.out.size
          have h6 := HB.out.size
          exact Nat.le_trans h6 (Nat.le_trans h5 this)
      · have e1 : decide ((i : Int) ∈ keep) = false := decide_eq_false hin
        rw [e1] at HKK
        have HSU2 := HSU.out
        rw [if_neg hin] at HSU2
        have HSU3 := Aside0.mk HSU2
        clear e1 hin HSU HSU2
        go_wp2_with fail
        refine (peristyleref04_has.calls kk A1 c1 keep (i : Int) false _ (Kd.C_below HK.out HBW.out) hkc HKK.out).mono ?_
        rintro e w5 ⟨rfl, hd5⟩
        have hb5 := hd5.below
        have HS5 := Aside0.mk (Kd.R_below HS.out hb5)
        have HX5 := Aside0.mk (blk_below HX.out hb5)
        have HX45 := Aside0.mk (blk_below HX4.out hb5)
        have HBW5 := Aside0.mk (below_step HBW.out hb5)
        clear hd5 hb5 HS HX HX4 HBW hx0 hx1
        go_wp2_with fail
        exact ⟨⟨i + 1, by simp, by omega, Au, cu, ⟨by rw [HSU3.out]; exact HS5.out⟩, HX5, HX45, HBW5⟩, by simp [intOf]; omega⟩
    · obtain rfl : i = C.wait.length := by omega
      have hf4 := frozen_of_row wr b4 0 _ _ HX4.out
      go_wp2_with ((with_reducible refine gate_store (t := TQ) (p := .tmp 4) (x := .tmp 34) rfl ?_); refine row_store_event rfl TQ (.tmp 4) (.tmp 34) rfl b4 #[.slice Au C.sure.length cu, .slice none 0 0, .int .i64 (-1), .bool false] rfl rfl TQ _ HX4.out size_Q rfl (q_one _ _ _ _ rfl rfl rfl rfl) ?_; intro w5 hs; have HS5 := Aside0.mk hs; clear hs)
      refine bodyPost_ret (results_cell_row rfl _ _ b4 TQ #[.slice Au C.sure.length cu, .slice none 0 0, .int .i64 (-1), .bool false] (0, 0) _ rfl HS5.out.at_ Try.underlying44 rfl size_Q) rfl ?_
      have e1 : keptAt keep C C.wait.length = keptD keep C.sure 0 C.wait := by unfold keptAt; rw [List.take_length]
      have e2 := HS.out
      rw [e1] at e2
      have hbw : w.heap.size ≤ b4 := by have := HL1.out; have := HGB4.out; have := HGB.out; omega
      refine ⟨_, rfl, Kd.R_mono (Kd.R_step (w1 := w5) (Kd.R_types e2 HX4.out (by decide)) (fun k h hlt => HS5.out.other k h.2)) (fun k h => h.1), HS5.out.below HBW.out hbw⟩
theorem pr_rcrash {w0 w : World} {g : Nat} {v0 v1 : Value} {D C : DS} {X : Nat → Prop} (H : Prs w0 w g v0 v1 D C X) (hl : C.wait.length ≤ 1000000) (A1 : Option Addr) (c1 : Nat) (keep : List Int) (hk : Kd.C (Kd.int .i64) w A1 keep.length keep) (hkc : keep.length ≤ c1) (hkl : keep.length ≤ 9223372036854775807) :
    Calls Try.prog 69 #[Q0 v0 v1 C, .slice A1 keep.length c1] w fun e w' => ∃ v0' v1', e = .returned (Q0 v0' v1' (crashD C keep)) ∧ Prs w0 w' g v0' v1' D (crashD C keep) X ∧ Stay X w w' := by
  obtain ⟨okd, P, H⟩ := H
  obtain ⟨A', c', rfl⟩ := Kd.R_slice H.q
  have r1 := Kd.R_reads' H.q
  rw [toS_len] at r1 ⊢
  refine (rcrash_walk H.good hl H.d.below H.s r1.2.2 A1 c1 keep hk hkc hkl).mono ?_
  rintro e w' ⟨v0', rfl, h1, h2⟩
  exact ⟨v0', _, rfl, H.doc h1 (Kd.R_nil _ _ _ _ _) (crash_ok H.good keep) (below_then H.d.below H.d.below.size h2) (Kept.of_below h2 _)⟩
end Go.Proofs.Ytgjclhhjigflkab.Dev
