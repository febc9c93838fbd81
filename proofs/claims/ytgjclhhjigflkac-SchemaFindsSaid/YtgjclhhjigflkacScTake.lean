import Derived.Test.YtgjclhhjigflkacScLI
import Derived.Outline
import Derived.RegionTactic
import Derived.BigRegion
import Derived.ChangeAlike
import Derived.Test.YtgjclhhjigflkacScRead
/- The walks of schema.reader.table's functions: a column, a column's number. (Written by gencol.py.) -/
namespace Go.Proofs.Ytgjclhhjigflkac.Sc
open Go Go.RowKit Go.Proofs.Ytgjclhhjigflkac.C Go.Proofs.Ytgjclhhjigflkac.MyWords Go.Proofs.Ytgjclhhjigflkac.Hand Go.Proofs.Ytgjclhhjigflkac.Vi Go.Proofs.YtgjclhhjigflkacW.PrintWords Go.Proofs.YtgjclhhjigflkacW.PrintLast Go.Proofs.YtgjclhhjigflkacW.PrintMore
set_option linter.unusedVariables false
set_option linter.unusedSimpArgs false
theorem bt3 {w : World} {g : Nat} {a b c : Value} {T : TypeId} {fz : Nat × Nat} (h : w.heap[g]? = some (.cells #[a, b, c] T fz)) : w.cell? ⟨g, 0, none⟩ = some a ∧ w.cell? ⟨g, 1, none⟩ = some b ∧ w.cell? ⟨g, 2, none⟩ = some c := ⟨(cell_of_row w g 0 _ _ _ h).trans rfl, (cell_of_row w g 1 _ _ _ h).trans rfl, (cell_of_row w g 2 _ _ _ h).trans rfl⟩
theorem bt1 {w : World} {g : Nat} {a : Value} {T : TypeId} {fz : Nat × Nat} (h : w.heap[g]? = some (.cells #[a] T fz)) : w.cell? ⟨g, 0, none⟩ = some a := (cell_of_row w g 0 _ _ _ h).trans rfl
set_option maxHeartbeats 8000000 in
set_option maxRecDepth 100000 in
theorem col_fn (s : ByteArray) (hs : s.size ≤ 1000000000) (g b1 b3 : Nat) (nm : ByteArray) (wS : World) (i : Nat) (hi : i ≤ 1000) (x : RS) (l : List Col) (w : World) (H : LI kC TC s g b1 b3 (fun v => #[.string nm, v, .slice none 0 0]) TT wS (fun _ => False) i x l w) :
    Calls Try.prog 111 #[.pointer (some ⟨b1, 0, none⟩), .pointer (some ⟨b3, 0, none⟩)] w fun e w' => e = .returned (.tuple #[]) ∧ LI kC TC s g b1 b3 (fun v => #[.string nm, v, .slice none 0 0]) TT wS (fun _ => False) (i + 1) (col1 s (x, l)).1 (col1 s (x, l)).2 w' := by
  have H0 := Aside0.mk H
  have HE : Aside0 (col1 s (x, l) = ((num1 s 1 (num1 s 2 (nm1 s x).2).2).2, l ++ [⟨(nm1 s x).1, (num1 s 2 (nm1 s x).2).1, (num1 s 1 (num1 s 2 (nm1 s x).2).2).1 == 1⟩])) := ⟨rfl⟩
  have hn := H.n
  clear H
  go_enter Try.func111, Try.ntmps111
  go_wp2_with fail
  refine start_ (n := 7) (S := fun w' => w'.cell? ⟨b1, 0, none⟩ = some (.pointer (some ⟨g, 0, none⟩))) (ds := [6]) #[Z,Z,Z,Z,Z,Z,Z] (by kernel_rfl) rfl rfl (bt1 H0.out.p1) (fun hHeld => ?_)
  refine take_ (i := 0) (N := (some 3)) (v := ?_) (a' := ?_) #[Y,Z,Z,Z,Z,Z,Z] rfl rfl (by kernel_rfl) (fun _ _ _ h => h) (Or.inl ⟨by rfl, ?_⟩) hHeld ?_ ?_
  rotate_left
  · intro w' s0
    go_simp
    with_reducible rfl
  rotate_left
  · simp only [Act.put, List.setIfInBounds_toArray, List.set_cons_zero, List.set_cons_succ, i64_w, i32_w]
    rfl
  refine take_ (i := 2) (N := (some 5)) (v := ?_) (a' := ?_) #[Y,Z,Y,Z,Z,Z,Z] rfl rfl (by kernel_rfl) (fun _ _ _ h => h) (Or.inl ⟨by rfl, ?_⟩) hHeld ?_ ?_
  rotate_left
  · intro w' s0
    go_simp
    with_reducible rfl
  rotate_left
  · simp only [Act.put, List.setIfInBounds_toArray, List.set_cons_zero, List.set_cons_succ, i64_w, i32_w]
    rfl
  have Hd := Aside0.mk (H0.out.new (below_drew (Below.refl _ _)))
  refine two_ (i := 1) (j := 5) (Ni := (some 4)) (Nj := (some 2)) #[Y,Y,Y,Z,Z,Z,Z] #[Y,Z,Y,Z,Z,Y,Z] rfl rfl rfl rfl (by kernel_rfl) (by decide) (by decide) (fun K hK => ?_) (fun K hK => ?_)
  · skip
    refine goes_ Try.func110 (by kernel_rfl) rfl #[.pointer (some ⟨g, 0, none⟩)] (by rfl) rfl rfl (by (try simp only [List.map_toArray, List.map_cons, List.map_nil]); first | done | rfl) ?_
    refine (rname_calls s hs g x _ Hd.out.rd).mono ?_
    rintro e w1 ⟨rfl, hr_, hc_⟩
    refine ⟨_, rfl, ?_⟩
    have H1 := Aside0.mk (Hd.out.num hc_ hr_)
    refine hK.out _ _ (bt1 H1.out.p1) (fun hHeld => ?_)
    clear hr_ hc_
    clear hK K
    refine norm_ (a' := ?_) ?_ ?_
    rotate_left
    · show Act.put _ (some 4) _ = _
      simp only [Act.put, List.setIfInBounds_toArray, List.set_cons_zero, List.set_cons_succ, i64_w, i32_w]
      rfl
    refine two_ (i := 3) (j := 5) (Ni := (some 6)) (Nj := (some 2)) #[Y,Y,Y,Y,Z,Z,Z] #[Y,Y,Y,Z,Z,Y,Z] rfl rfl rfl rfl (by kernel_rfl) (by decide) (by decide) (fun K hK => ?_) (fun K hK => ?_)
    · skip
      refine goes_ Try.func109 (by kernel_rfl) rfl #[.pointer (some ⟨g, 0, none⟩), .int .i64 2] (by rfl) rfl rfl (by (try simp only [List.map_toArray, List.map_cons, List.map_nil]); first | done | rfl) ?_
      refine (num_calls s hs g 2 (nm1 s x).2 _ H1.out.rd).mono ?_
      rintro e w2 ⟨rfl, hr_, hc_⟩
      refine ⟨_, rfl, ?_⟩
      have H2 := Aside0.mk (H1.out.num hc_ hr_)
      refine hK.out _ _ (bt1 H2.out.p1) (fun hHeld => ?_)
      clear hr_ hc_
      clear hK K
      refine norm_ (a' := ?_) ?_ ?_
      rotate_left
      · show Act.put _ (some 6) _ = _
        simp only [Act.put, List.setIfInBounds_toArray, List.set_cons_zero, List.set_cons_succ, i64_w, i32_w]
        rfl
      refine pure_ (i := 4) (N := (some 7)) (v := ?_) (a' := ?_) #[Y,Y,Y,Y,Y,Z,Z] rfl rfl (by kernel_rfl) (fun _ _ _ h => h) (Or.inl ⟨by rfl, ?_⟩) ?_ ?_
      rotate_left
      · intro w'
        go_simp
        with_reducible rfl
      rotate_left
      · simp only [Act.put, List.setIfInBounds_toArray, List.set_cons_zero, List.set_cons_succ, i64_w, i32_w]
        rfl
      refine one_ (i := 5) (N := (some 2)) #[Y,Y,Y,Y,Y,Y,Z] rfl rfl (by kernel_rfl) (by decide) (fun K hK => ?_)
      refine alloc_ (by rfl) rfl (run_alloc_C rfl) ?_
      intro b2 w3 hg_ hx_ hB_ hz_
      have H3 := Aside0.mk (H2.out.fresh hB_ hg_)
      have HX3 := Aside0.mk hx_
      have HB2 : Aside0 (wS.heap.size ≤ b2) := ⟨by have h := H2.out.size; omega⟩
      refine hK.out _ _ (bt1 H3.out.p1) (fun hHeld => ?_)
      clear hg_ hx_ hB_ hz_
      clear hK K
      refine norm_ (a' := ?_) ?_ ?_
      rotate_left
      · show Act.put _ (some 2) _ = _
        simp only [Act.put, List.setIfInBounds_toArray, List.set_cons_zero, List.set_cons_succ, i64_w, i32_w]
        rfl
      refine last_ (i := 6) (N := none) #[Y,Y,Y,Y,Y,Y,Y] rfl rfl (by kernel_rfl) (by decide) (fun K hK => ?_)
      refine store_row_ (by rfl) rfl TC (.tmp 2) (.tmp 7) rfl b2 #[.string (nm1 s x).1, .int .i64 (num1 s 2 (nm1 s x).2).1, .bool false] rfl rfl TC _ HX3.out size_C rfl (one3 _ _ _ rfl rfl rfl) ?_
      intro w5 hs5
      have H5 := Aside0.mk (H3.out.own (Chg.row hs5 (.inr rfl)))
      have HX5 := Aside0.mk hs5.at_
      refine hK.out _ _ ?_
      clear hK K hs5
      refine done_ (by kernel_rfl) ?_
      have hc5 := bt1 H5.out.p1
      go_wp2_with fail
      refine (num_calls s hs g 1 (num1 s 2 (nm1 s x).2).2 _ H5.out.rd).mono ?_
      rintro e w6 ⟨rfl, hr_, hc_⟩
      have H6 := Aside0.mk (H5.out.num hc_ hr_)
      have HX6 := Aside0.mk (hc_.keep HX5.out (by have := H5.out.lg; have := HB2.out; omega))
      have hc6 := (bt3 HX6.out).2.2
      have hf6 := frozen_of_row w6 b2 2 _ _ HX6.out
      clear hr_ hc_ hc5
      go_wp2_with (first | ((with_reducible refine gate_ (.store 4 (.tmp 11) (.tmp 10)) rfl ?_); refine cell_store_event rfl b2 2 (.bool ((num1 s 1 (num1 s 2 (nm1 s x).2).2).1 == 1)) TC _ HX6.out (by first | (go_simp; done) | (go_simp; rfl)) ?_; intro w7 hset; have H7 := Aside0.mk (H6.out.own (Chg.cell hset (.inr rfl))); have HX7 : Aside0 (w7.heap[b2]? = some (.cells #[.string (nm1 s x).1, .int .i64 (num1 s 2 (nm1 s x).2).1, .bool ((num1 s 1 (num1 s 2 (nm1 s x).2).2).1 == 1)] TC (0, 0))) := ⟨hset.at_⟩; obtain ⟨v, hv, hR⟩ := H7.out.r; have HV := Aside0.mk hv; have HR := Aside0.mk hR; have hcv := (bt3 hv).2.1; clear hset hv hR hc6 hf6) | ((with_reducible refine gate_dst (N := 14) rfl ?_); refine wpList_load_row rfl TC (.tmp 2) rfl b2 rfl TC #[.string (nm1 s x).1, .int .i64 (num1 s 2 (nm1 s x).2).1, .bool ((num1 s 1 (num1 s 2 (nm1 s x).2).2).1 == 1)] (0, 0) _ HX7.out Try.underlying96 rfl size_C ?_) | ((with_reducible refine gate_builtin (b := .append) (xs := #[.tmp 13, .tmp 15]) rfl ?_); at_builtin; refine Kd.R_append kC (w0 := w7) wS.heap.size rfl (.tmp 13) (.tmp 15) 44 TC (.agg #[.string ⟨#[]⟩, .int .i64 0, .bool false]) 32 rfl Try.underlying44 (by kernel_rfl) rfl (by decide) (by decide) v l ⟨(nm1 s x).1, (num1 s 2 (nm1 s x).2).1, (num1 s 1 (num1 s 2 (nm1 s x).2).2).1 == 1⟩ [.string (nm1 s x).1, .int .i64 (num1 s 2 (nm1 s x).2).1, .bool ((num1 s 1 (num1 s 2 (nm1 s x).2).2).1 == 1)] (fun k => wS.heap.size ≤ k ∧ ¬ (False ∨ k = b2)) (fun _ => False) rfl rfl (k96_mkM _ _ _ ⟨(nm1 s x).1, (num1 s 2 (nm1 s x).2).1, (num1 s 1 (num1 s 2 (nm1 s x).2).2).1 == 1⟩) (fun _ hk => hk.elim) (fun k hk => ⟨Nat.le_trans H7.out.size hk, fun h => by have h1 := (Array.getElem?_eq_some_iff.1 HX7.out).1; rcases h with h | h; exact h; omega⟩) HR.out (Below.refl _ _) H7.out.size (by omega) ?_; intro v8 w8 hR8 hB8 hG8 hA8; obtain ⟨A8, c8, rfl⟩ := Kd.R_slice hR8; rw [List.length_append, List.length_singleton] at hR8 ⊢; have hv8 := blk_grown HV.out hG8 (Kd.R_ne HR.out HV.out (by decide)); have HR8 := Aside0.mk hR8; have HG8 := Aside0.mk hG8; have HV8 := Aside0.mk hv8; have hcv8 := (bt3 hv8).2.1; have hf8 := frozen_of_row w8 b3 1 _ _ hv8; clear hR8 hB8 hG8 hA8 hv8))
      go_end0
      refine ⟨rfl, ?_⟩
      rw [HE.out]
      exact H7.out.push (j := 1) HV.out HR8.out HG8.out (fun k hk => Kd.R_base HR.out k hk) (cellSet_mk (i := 1) HV8.out) rfl rfl
    · skip
      refine alloc_ (by rfl) rfl (run_alloc_C rfl) ?_
      intro b2 w2 hg_ hx_ hB_ hz_
      have H2 := Aside0.mk (H1.out.fresh hB_ hg_)
      have HX2 := Aside0.mk hx_
      have HB2 : Aside0 (wS.heap.size ≤ b2) := ⟨by have h := H1.out.size; omega⟩
      refine hK.out _ _ (bt1 H2.out.p1) (fun hHeld => ?_)
      clear hg_ hx_ hB_ hz_
      clear hK K
      refine norm_ (a' := ?_) ?_ ?_
      rotate_left
      · show Act.put _ (some 2) _ = _
        simp only [Act.put, List.setIfInBounds_toArray, List.set_cons_zero, List.set_cons_succ, i64_w, i32_w]
        rfl
      refine one_ (i := 3) (N := (some 6)) #[Y,Y,Y,Y,Z,Y,Z] rfl rfl (by kernel_rfl) (by decide) (fun K hK => ?_)
      refine goes_ Try.func109 (by kernel_rfl) rfl #[.pointer (some ⟨g, 0, none⟩), .int .i64 2] (by rfl) rfl rfl (by (try simp only [List.map_toArray, List.map_cons, List.map_nil]); first | done | rfl) ?_
      refine (num_calls s hs g 2 (nm1 s x).2 _ H2.out.rd).mono ?_
      rintro e w3 ⟨rfl, hr_, hc_⟩
      refine ⟨_, rfl, ?_⟩
      have H3 := Aside0.mk (H2.out.num hc_ hr_)
      have HX3 := Aside0.mk (hc_.keep HX2.out (by have := H2.out.lg; have := HB2.out; omega))
      refine hK.out _ _ (bt1 H3.out.p1) (fun hHeld => ?_)
      clear hr_ hc_
      clear hK K
      refine norm_ (a' := ?_) ?_ ?_
      rotate_left
      · show Act.put _ (some 6) _ = _
        simp only [Act.put, List.setIfInBounds_toArray, List.set_cons_zero, List.set_cons_succ, i64_w, i32_w]
        rfl
      refine pure_ (i := 4) (N := (some 7)) (v := ?_) (a' := ?_) #[Y,Y,Y,Y,Y,Y,Z] rfl rfl (by kernel_rfl) (fun _ _ _ h => h) (Or.inl ⟨by rfl, ?_⟩) ?_ ?_
      rotate_left
      · intro w'
        go_simp
        with_reducible rfl
      rotate_left
      · simp only [Act.put, List.setIfInBounds_toArray, List.set_cons_zero, List.set_cons_succ, i64_w, i32_w]
        rfl
      refine last_ (i := 6) (N := none) #[Y,Y,Y,Y,Y,Y,Y] rfl rfl (by kernel_rfl) (by decide) (fun K hK => ?_)
      refine store_row_ (by rfl) rfl TC (.tmp 2) (.tmp 7) rfl b2 #[.string (nm1 s x).1, .int .i64 (num1 s 2 (nm1 s x).2).1, .bool false] rfl rfl TC _ HX3.out size_C rfl (one3 _ _ _ rfl rfl rfl) ?_
      intro w5 hs5
      have H5 := Aside0.mk (H3.out.own (Chg.row hs5 (.inr rfl)))
      have HX5 := Aside0.mk hs5.at_
      refine hK.out _ _ ?_
      clear hK K hs5
      refine done_ (by kernel_rfl) ?_
      have hc5 := bt1 H5.out.p1
      go_wp2_with fail
      refine (num_calls s hs g 1 (num1 s 2 (nm1 s x).2).2 _ H5.out.rd).mono ?_
      rintro e w6 ⟨rfl, hr_, hc_⟩
      have H6 := Aside0.mk (H5.out.num hc_ hr_)
      have HX6 := Aside0.mk (hc_.keep HX5.out (by have := H5.out.lg; have := HB2.out; omega))
      have hc6 := (bt3 HX6.out).2.2
      have hf6 := frozen_of_row w6 b2 2 _ _ HX6.out
      clear hr_ hc_ hc5
      go_wp2_with (first | ((with_reducible refine gate_ (.store 4 (.tmp 11) (.tmp 10)) rfl ?_); refine cell_store_event rfl b2 2 (.bool ((num1 s 1 (num1 s 2 (nm1 s x).2).2).1 == 1)) TC _ HX6.out (by first | (go_simp; done) | (go_simp; rfl)) ?_; intro w7 hset; have H7 := Aside0.mk (H6.out.own (Chg.cell hset (.inr rfl))); have HX7 : Aside0 (w7.heap[b2]? = some (.cells #[.string (nm1 s x).1, .int .i64 (num1 s 2 (nm1 s x).2).1, .bool ((num1 s 1 (num1 s 2 (nm1 s x).2).2).1 == 1)] TC (0, 0))) := ⟨hset.at_⟩; obtain ⟨v, hv, hR⟩ := H7.out.r; have HV := Aside0.mk hv; have HR := Aside0.mk hR; have hcv := (bt3 hv).2.1; clear hset hv hR hc6 hf6) | ((with_reducible refine gate_dst (N := 14) rfl ?_); refine wpList_load_row rfl TC (.tmp 2) rfl b2 rfl TC #[.string (nm1 s x).1, .int .i64 (num1 s 2 (nm1 s x).2).1, .bool ((num1 s 1 (num1 s 2 (nm1 s x).2).2).1 == 1)] (0, 0) _ HX7.out Try.underlying96 rfl size_C ?_) | ((with_reducible refine gate_builtin (b := .append) (xs := #[.tmp 13, .tmp 15]) rfl ?_); at_builtin; refine Kd.R_append kC (w0 := w7) wS.heap.size rfl (.tmp 13) (.tmp 15) 44 TC (.agg #[.string ⟨#[]⟩, .int .i64 0, .bool false]) 32 rfl Try.underlying44 (by kernel_rfl) rfl (by decide) (by decide) v l ⟨(nm1 s x).1, (num1 s 2 (nm1 s x).2).1, (num1 s 1 (num1 s 2 (nm1 s x).2).2).1 == 1⟩ [.string (nm1 s x).1, .int .i64 (num1 s 2 (nm1 s x).2).1, .bool ((num1 s 1 (num1 s 2 (nm1 s x).2).2).1 == 1)] (fun k => wS.heap.size ≤ k ∧ ¬ (False ∨ k = b2)) (fun _ => False) rfl rfl (k96_mkM _ _ _ ⟨(nm1 s x).1, (num1 s 2 (nm1 s x).2).1, (num1 s 1 (num1 s 2 (nm1 s x).2).2).1 == 1⟩) (fun _ hk => hk.elim) (fun k hk => ⟨Nat.le_trans H7.out.size hk, fun h => by have h1 := (Array.getElem?_eq_some_iff.1 HX7.out).1; rcases h with h | h; exact h; omega⟩) HR.out (Below.refl _ _) H7.out.size (by omega) ?_; intro v8 w8 hR8 hB8 hG8 hA8; obtain ⟨A8, c8, rfl⟩ := Kd.R_slice hR8; rw [List.length_append, List.length_singleton] at hR8 ⊢; have hv8 := blk_grown HV.out hG8 (Kd.R_ne HR.out HV.out (by decide)); have HR8 := Aside0.mk hR8; have HG8 := Aside0.mk hG8; have HV8 := Aside0.mk hv8; have hcv8 := (bt3 hv8).2.1; have hf8 := frozen_of_row w8 b3 1 _ _ hv8; clear hR8 hB8 hG8 hA8 hv8))
      go_end0
      refine ⟨rfl, ?_⟩
      rw [HE.out]
      exact H7.out.push (j := 1) HV.out HR8.out HG8.out (fun k hk => Kd.R_base HR.out k hk) (cellSet_mk (i := 1) HV8.out) rfl rfl
  · skip
    refine alloc_ (by rfl) rfl (run_alloc_C rfl) ?_
    intro b2 w1 hg_ hx_ hB_ hz_
    have H1 := Aside0.mk (Hd.out.fresh hB_ hg_)
    have HX1 := Aside0.mk hx_
    have HB2 : Aside0 (wS.heap.size ≤ b2) := ⟨by have h := Hd.out.size; omega⟩
    refine hK.out _ _ (bt1 H1.out.p1) (fun hHeld => ?_)
    clear hg_ hx_ hB_ hz_
    clear hK K
    refine norm_ (a' := ?_) ?_ ?_
    rotate_left
    · show Act.put _ (some 2) _ = _
      simp only [Act.put, List.setIfInBounds_toArray, List.set_cons_zero, List.set_cons_succ, i64_w, i32_w]
      rfl
    refine one_ (i := 1) (N := (some 4)) #[Y,Y,Y,Z,Z,Y,Z] rfl rfl (by kernel_rfl) (by decide) (fun K hK => ?_)
    refine goes_ Try.func110 (by kernel_rfl) rfl #[.pointer (some ⟨g, 0, none⟩)] (by rfl) rfl rfl (by (try simp only [List.map_toArray, List.map_cons, List.map_nil]); first | done | rfl) ?_
    refine (rname_calls s hs g x _ H1.out.rd).mono ?_
    rintro e w2 ⟨rfl, hr_, hc_⟩
    refine ⟨_, rfl, ?_⟩
    have H2 := Aside0.mk (H1.out.num hc_ hr_)
    have HX2 := Aside0.mk (hc_.keep HX1.out (by have := H1.out.lg; have := HB2.out; omega))
    refine hK.out _ _ (bt1 H2.out.p1) (fun hHeld => ?_)
    clear hr_ hc_
    clear hK K
    refine norm_ (a' := ?_) ?_ ?_
    rotate_left
    · show Act.put _ (some 4) _ = _
      simp only [Act.put, List.setIfInBounds_toArray, List.set_cons_zero, List.set_cons_succ, i64_w, i32_w]
      rfl
    refine one_ (i := 3) (N := (some 6)) #[Y,Y,Y,Y,Z,Y,Z] rfl rfl (by kernel_rfl) (by decide) (fun K hK => ?_)
    refine goes_ Try.func109 (by kernel_rfl) rfl #[.pointer (some ⟨g, 0, none⟩), .int .i64 2] (by rfl) rfl rfl (by (try simp only [List.map_toArray, List.map_cons, List.map_nil]); first | done | rfl) ?_
    refine (num_calls s hs g 2 (nm1 s x).2 _ H2.out.rd).mono ?_
    rintro e w3 ⟨rfl, hr_, hc_⟩
    refine ⟨_, rfl, ?_⟩
    have H3 := Aside0.mk (H2.out.num hc_ hr_)
    have HX3 := Aside0.mk (hc_.keep HX2.out (by have := H2.out.lg; have := HB2.out; omega))
    refine hK.out _ _ (bt1 H3.out.p1) (fun hHeld => ?_)
    clear hr_ hc_
    clear hK K
    refine norm_ (a' := ?_) ?_ ?_
    rotate_left
    · show Act.put _ (some 6) _ = _
      simp only [Act.put, List.setIfInBounds_toArray, List.set_cons_zero, List.set_cons_succ, i64_w, i32_w]
      rfl
    refine pure_ (i := 4) (N := (some 7)) (v := ?_) (a' := ?_) #[Y,Y,Y,Y,Y,Y,Z] rfl rfl (by kernel_rfl) (fun _ _ _ h => h) (Or.inl ⟨by rfl, ?_⟩) ?_ ?_
    rotate_left
    · intro w'
      go_simp
      with_reducible rfl
    rotate_left
    · simp only [Act.put, List.setIfInBounds_toArray, List.set_cons_zero, List.set_cons_succ, i64_w, i32_w]
      rfl
    refine last_ (i := 6) (N := none) #[Y,Y,Y,Y,Y,Y,Y] rfl rfl (by kernel_rfl) (by decide) (fun K hK => ?_)
    refine store_row_ (by rfl) rfl TC (.tmp 2) (.tmp 7) rfl b2 #[.string (nm1 s x).1, .int .i64 (num1 s 2 (nm1 s x).2).1, .bool false] rfl rfl TC _ HX3.out size_C rfl (one3 _ _ _ rfl rfl rfl) ?_
    intro w5 hs5
    have H5 := Aside0.mk (H3.out.own (Chg.row hs5 (.inr rfl)))
    have HX5 := Aside0.mk hs5.at_
    refine hK.out _ _ ?_
    clear hK K hs5
    refine done_ (by kernel_rfl) ?_
    have hc5 := bt1 H5.out.p1
    go_wp2_with fail
    refine (num_calls s hs g 1 (num1 s 2 (nm1 s x).2).2 _ H5.out.rd).mono ?_
    rintro e w6 ⟨rfl, hr_, hc_⟩
    have H6 := Aside0.mk (H5.out.num hc_ hr_)
    have HX6 := Aside0.mk (hc_.keep HX5.out (by have := H5.out.lg; have := HB2.out; omega))
    have hc6 := (bt3 HX6.out).2.2
    have hf6 := frozen_of_row w6 b2 2 _ _ HX6.out
    clear hr_ hc_ hc5
    go_wp2_with (first | ((with_reducible refine gate_ (.store 4 (.tmp 11) (.tmp 10)) rfl ?_); refine cell_store_event rfl b2 2 (.bool ((num1 s 1 (num1 s 2 (nm1 s x).2).2).1 == 1)) TC _ HX6.out (by first | (go_simp; done) | (go_simp; rfl)) ?_; intro w7 hset; have H7 := Aside0.mk (H6.out.own (Chg.cell hset (.inr rfl))); have HX7 : Aside0 (w7.heap[b2]? = some (.cells #[.string (nm1 s x).1, .int .i64 (num1 s 2 (nm1 s x).2).1, .bool ((num1 s 1 (num1 s 2 (nm1 s x).2).2).1 == 1)] TC (0, 0))) := ⟨hset.at_⟩; obtain ⟨v, hv, hR⟩ := H7.out.r; have HV := Aside0.mk hv; have HR := Aside0.mk hR; have hcv := (bt3 hv).2.1; clear hset hv hR hc6 hf6) | ((with_reducible refine gate_dst (N := 14) rfl ?_); refine wpList_load_row rfl TC (.tmp 2) rfl b2 rfl TC #[.string (nm1 s x).1, .int .i64 (num1 s 2 (nm1 s x).2).1, .bool ((num1 s 1 (num1 s 2 (nm1 s x).2).2).1 == 1)] (0, 0) _ HX7.out Try.underlying96 rfl size_C ?_) | ((with_reducible refine gate_builtin (b := .append) (xs := #[.tmp 13, .tmp 15]) rfl ?_); at_builtin; refine Kd.R_append kC (w0 := w7) wS.heap.size rfl (.tmp 13) (.tmp 15) 44 TC (.agg #[.string ⟨#[]⟩, .int .i64 0, .bool false]) 32 rfl Try.underlying44 (by kernel_rfl) rfl (by decide) (by decide) v l ⟨(nm1 s x).1, (num1 s 2 (nm1 s x).2).1, (num1 s 1 (num1 s 2 (nm1 s x).2).2).1 == 1⟩ [.string (nm1 s x).1, .int .i64 (num1 s 2 (nm1 s x).2).1, .bool ((num1 s 1 (num1 s 2 (nm1 s x).2).2).1 == 1)] (fun k => wS.heap.size ≤ k ∧ ¬ (False ∨ k = b2)) (fun _ => False) rfl rfl (k96_mkM _ _ _ ⟨(nm1 s x).1, (num1 s 2 (nm1 s x).2).1, (num1 s 1 (num1 s 2 (nm1 s x).2).2).1 == 1⟩) (fun _ hk => hk.elim) (fun k hk => ⟨Nat.le_trans H7.out.size hk, fun h => by have h1 := (Array.getElem?_eq_some_iff.1 HX7.out).1; rcases h with h | h; exact h; omega⟩) HR.out (Below.refl _ _) H7.out.size (by omega) ?_; intro v8 w8 hR8 hB8 hG8 hA8; obtain ⟨A8, c8, rfl⟩ := Kd.R_slice hR8; rw [List.length_append, List.length_singleton] at hR8 ⊢; have hv8 := blk_grown HV.out hG8 (Kd.R_ne HR.out HV.out (by decide)); have HR8 := Aside0.mk hR8; have HG8 := Aside0.mk hG8; have HV8 := Aside0.mk hv8; have hcv8 := (bt3 hv8).2.1; have hf8 := frozen_of_row w8 b3 1 _ _ hv8; clear hR8 hB8 hG8 hA8 hv8))
    go_end0
    refine ⟨rfl, ?_⟩
    rw [HE.out]
    exact H7.out.push (j := 1) HV.out HR8.out HG8.out (fun k hk => Kd.R_base HR.out k hk) (cellSet_mk (i := 1) HV8.out) rfl rfl
/-- num, told by a natural number -/
theorem num_nat (s : ByteArray) (hs : s.size ≤ 1000000000) (g : Nat) (m : Int) (hm : 0 ≤ m) (x : RS) (w : World) (h : Rd TR w g s x) :
    Calls Try.prog 109 #[.pointer (some ⟨g, 0, none⟩), .int .i64 m] w fun e w' => e = .returned (.int .i64 (((num1 s m x).1.toNat : Nat) : Int)) ∧ Rd TR w' g s (num1 s m x).2 ∧ Chg w w' (fun k => k = g) := by
  refine (num_calls s hs g m x w h).mono ?_
  rintro e w' ⟨rfl, h1, h2⟩
  have hr := num1_range s m hm x
  exact ⟨by rw [Int.toNat_of_nonneg hr.1], h1, h2⟩
set_option maxHeartbeats 8000000 in
set_option maxRecDepth 100000 in
theorem int_fn (s : ByteArray) (hs : s.size ≤ 1000000000) (g b1 bp : Nat) (nm : ByteArray) (wS : World) (i : Nat) (hi : i ≤ 1000) (x : RS) (l : List Int) (w : World) (H : LI (Kd.int .i64) 3 s g b1 bp (fun v => #[.string nm, v, .int .i64 0]) TP wS (fun _ => False) i x l w) :
    Calls Try.prog 113 #[.pointer (some ⟨bp, 0, none⟩), .pointer (some ⟨b1, 0, none⟩)] w fun e w' => e = .returned (.tuple #[]) ∧ LI (Kd.int .i64) 3 s g b1 bp (fun v => #[.string nm, v, .int .i64 0]) TP wS (fun _ => False) (i + 1) (int1 s (x, l)).1 (int1 s (x, l)).2 w' := by
  have H0 := Aside0.mk (H.new (below_drew (Below.refl _ _)))
  have HE : Aside0 (int1 s (x, l) = ((num1 s 8 x).2, l ++ [(num1 s 8 x).1])) := ⟨rfl⟩
  have hn := H.n
  obtain ⟨v, hv, hR⟩ := H0.out.r
  obtain ⟨A, c, rfl⟩ := Kd.R_slice hR
  have HV := Aside0.mk hv
  have HR := Aside0.mk hR
  clear H hv hR
  go_enter Try.func113, Try.ntmps113
  go_wp2_with fail
  refine start_ (n := 8) (S := fun w' => w'.cell? ⟨bp, 1, none⟩ = some (.slice A l.length c) ∧ w'.cell? ⟨b1, 0, none⟩ = some (.pointer (some ⟨g, 0, none⟩))) (ds := [7]) #[Z,Z,Z,Z,Z,Z,Z,Z] (by kernel_rfl) rfl rfl (⟨(bt3 HV.out).2.1, bt1 H0.out.p1⟩) (fun hHeld => ?_)
  refine pure_ (i := 0) (N := (some 2)) (v := ?_) (a' := ?_) #[Y,Z,Z,Z,Z,Z,Z,Z] rfl rfl (by kernel_rfl) (fun _ _ _ h => h) (Or.inl ⟨by rfl, ?_⟩) ?_ ?_
  rotate_left
  · intro w'
    go_simp
    with_reducible rfl
  rotate_left
  · simp only [Act.put, List.setIfInBounds_toArray, List.set_cons_zero, List.set_cons_succ, i64_w, i32_w]
    rfl
  refine take_ (i := 1) (N := (some 3)) (v := ?_) (a' := ?_) #[Y,Y,Z,Z,Z,Z,Z,Z] rfl rfl (by kernel_rfl) (fun _ _ _ h => h) (Or.inl ⟨by rfl, ?_⟩) hHeld ?_ ?_
  rotate_left
  · intro w' s0
    go_simp
    with_reducible rfl
  rotate_left
  · simp only [Act.put, List.setIfInBounds_toArray, List.set_cons_zero, List.set_cons_succ, i64_w, i32_w]
    rfl
  refine take_ (i := 2) (N := (some 4)) (v := ?_) (a' := ?_) #[Y,Y,Y,Z,Z,Z,Z,Z] rfl rfl (by kernel_rfl) (fun _ _ _ h => h) (Or.inl ⟨by rfl, ?_⟩) hHeld ?_ ?_
  rotate_left
  · intro w' s0
    go_simp
    with_reducible rfl
  rotate_left
  · simp only [Act.put, List.setIfInBounds_toArray, List.set_cons_zero, List.set_cons_succ, i64_w, i32_w]
    rfl
  refine one_ (i := 3) (N := (some 5)) #[Y,Y,Y,Y,Z,Z,Z,Z] rfl rfl (by kernel_rfl) (by decide) (fun K hK => ?_)
  refine goes_ Try.func109 (by kernel_rfl) rfl #[.pointer (some ⟨g, 0, none⟩), .int .i64 8] (by rfl) rfl rfl (by (try simp only [List.map_toArray, List.map_cons, List.map_nil]); first | done | rfl) ?_
  refine (num_calls s hs g 8 x _ H0.out.rd).mono ?_
  rintro e w1 ⟨rfl, hr_, hc_⟩
  refine ⟨_, rfl, ?_⟩
  have H1 := Aside0.mk (H0.out.num hc_ hr_)
  have HV1 := Aside0.mk (hc_.keep HV.out H0.out.n2)
  have HR1 := Aside0.mk (Kd.R_step HR.out (fun k hk hlt => hc_.block k hlt (fun h => by have := H0.out.lg; omega)))
  refine hK.out _ _ ⟨(bt3 HV1.out).2.1, bt1 H1.out.p1⟩ (fun hHeld => ?_)
  clear hr_ hc_
  clear hK K
  refine norm_ (a' := ?_) ?_ ?_
  rotate_left
  · show Act.put _ (some 5) _ = _
    simp only [Act.put, List.setIfInBounds_toArray, List.set_cons_zero, List.set_cons_succ, i64_w, i32_w]
    rfl
  refine one_ (i := 4) (N := (some 6)) #[Y,Y,Y,Y,Y,Z,Z,Z] rfl rfl (by kernel_rfl) (by decide) (fun K hK => ?_)
  refine value_ (w1 := w1.alloc (.cells #[.int .i64 (num1 s 8 x).1] 3 (0, 0))) (v := .slice (some ⟨w1.heap.size, 0, none⟩) 1 1) (by rfl) rfl (by first | (go_simp; done) | (go_simp; rfl)) ?_
  refine hK.out _ _ ⟨pw_cell_below (below_alloc (Below.refl _ _) _) (bt3 HV1.out).2.1, pw_cell_below (below_alloc (Below.refl _ _) _) (bt1 H1.out.p1)⟩ (fun hHeld => ?_)
  clear hK K
  refine norm_ (a' := ?_) ?_ ?_
  rotate_left
  · show Act.put _ (some 6) _ = _
    simp only [Act.put, List.setIfInBounds_toArray, List.set_cons_zero, List.set_cons_succ, i64_w, i32_w]
    rfl
  refine one_ (i := 5) (N := (some 7)) #[Y,Y,Y,Y,Y,Y,Z,Z] rfl rfl (by kernel_rfl) (by decide) (fun K hK => ?_)
  refine Kd.R_append_step (Kd.int .i64) (w0 := w1) wS.heap.size (by rfl) (.tmp 3) (.tmp 6) 43 3 (.int .i64 0) 8 rfl Try.underlying43 (by kernel_rfl) rfl (by decide) (by decide) (.slice A l.length c) l (num1 s 8 x).1 [.int .i64 (num1 s 8 x).1] (fun k => wS.heap.size ≤ k ∧ ¬ False) (fun _ => False) rfl rfl rfl (fun _ hk => hk.elim) (fun k hk => ⟨Nat.le_trans H1.out.size hk, fun h => h⟩) HR1.out (Below.refl _ _) H1.out.size (by omega) ?_
  intro v8 w8 hR8 hB8 hG8 hA8
  obtain ⟨A8, c8, rfl⟩ := Kd.R_slice hR8
  rw [List.length_append, List.length_singleton] at hR8 ⊢
  have hv8 := blk_grown HV1.out hG8 (Kd.R_ne HR1.out HV1.out (by decide))
  have hp8 := blk_grown H1.out.p1 hG8 (Kd.R_ne HR1.out H1.out.p1 (by decide))
  have HR8 := Aside0.mk hR8
  have HG8 := Aside0.mk hG8
  have HV8 := Aside0.mk hv8
  have hcv8 := (bt3 hv8).2.1
  have hf8 := frozen_of_row w8 bp 1 _ _ hv8
  refine hK.out _ _ ⟨hcv8, bt1 hp8⟩ (fun hHeld => ?_)
  clear hR8 hB8 hG8 hA8 hv8 hp8
  clear hK K
  refine norm_ (a' := ?_) ?_ ?_
  rotate_left
  · show Act.put _ (some 7) _ = _
    simp only [Act.put, List.setIfInBounds_toArray, List.set_cons_zero, List.set_cons_succ, i64_w, i32_w]
    rfl
  refine pure_ (i := 6) (N := (some 8)) (v := ?_) (a' := ?_) #[Y,Y,Y,Y,Y,Y,Y,Z] rfl rfl (by kernel_rfl) (fun _ _ _ h => h) (Or.inl ⟨by rfl, ?_⟩) ?_ ?_
  rotate_left
  · intro w'
    go_simp
    with_reducible rfl
  rotate_left
  · simp only [Act.put, List.setIfInBounds_toArray, List.set_cons_zero, List.set_cons_succ, i64_w, i32_w]
    rfl
  refine last_ (i := 7) (N := none) #[Y,Y,Y,Y,Y,Y,Y,Y] rfl rfl (by kernel_rfl) (by decide) (fun K hK => ?_)
  refine store_cell_ (by rfl) rfl bp 1 (.slice A8 (l.length + 1) c8) TP _ HV8.out (by first | (go_simp; done) | (go_simp; rfl)) ?_
  intro w9 hs9
  have HS9 := Aside0.mk hs9
  refine hK.out _ _ ?_
  clear hK K hs9
  refine done_ (by kernel_rfl) ?_
  go_wp2_with fail
  go_end0
  refine ⟨rfl, ?_⟩
  rw [HE.out]
  exact H1.out.push (j := 1) HV1.out HR8.out HG8.out (fun k hk => Kd.R_base HR1.out k hk) HS9.out rfl rfl
end Go.Proofs.Ytgjclhhjigflkac.Sc

/- The walks of schema.reader.table's function for a projection, and of table. (Written by gentab.py.) -/
namespace Go.Proofs.Ytgjclhhjigflkac.Sc
open Go Go.RowKit Go.Proofs.Ytgjclhhjigflkac.C Go.Proofs.Ytgjclhhjigflkac.MyWords Go.Proofs.Ytgjclhhjigflkac.Hand Go.Proofs.Ytgjclhhjigflkac.Vi Go.Proofs.YtgjclhhjigflkacW.PrintWords Go.Proofs.YtgjclhhjigflkacW.PrintLast Go.Proofs.YtgjclhhjigflkacW.PrintMore
set_option linter.unusedVariables false
set_option linter.unusedSimpArgs false
set_option maxHeartbeats 8000000 in
set_option maxRecDepth 100000 in
theorem prj_fn (s : ByteArray) (hs : s.size ≤ 1000000000) (g b1 b3 : Nat) (nm : ByteArray) (vc : Value) (wS : World) (i : Nat) (hi : i ≤ 1000) (x : RS) (l : List Prj) (w : World) (H : LI kP TP s g b1 b3 (fun v => #[.string nm, vc, v]) TT wS (fun _ => False) i x l w) :
    Calls Try.prog 112 #[.pointer (some ⟨b1, 0, none⟩), .pointer (some ⟨b3, 0, none⟩)] w fun e w' => e = .returned (.tuple #[]) ∧ LI kP TP s g b1 b3 (fun v => #[.string nm, vc, v]) TT wS (fun _ => False) (i + 1) (prj1 s (x, l)).1 (prj1 s (x, l)).2 w' := by
  have H0 := Aside0.mk H
  have HE : Aside0 (prj1 s (x, l) = ((num1 s 8 (ints1 s (nm1 s x).2).1).2, l ++ [⟨(nm1 s x).1, (ints1 s (nm1 s x).2).2, (num1 s 8 (ints1 s (nm1 s x).2).1).1⟩])) := ⟨rfl⟩
  have hn := H.n
  have hp0 := bt1 H.p1
  clear H
  go_enter Try.func112, Try.ntmps112
  go_wp2_with fail
  refine (rname_calls s hs g x _ H0.out.rd).mono ?_
  rintro e w1 ⟨rfl, hr_, hc_⟩
  have H1 := Aside0.mk (H0.out.num hc_ hr_)
  have hp1 := bt1 H1.out.p1
  clear hr_ hc_ hp0
  go_wp2_with (first | ((with_reducible refine gate_dst (N := 2) rfl ?_); refine alloc_event rfl (N := 2) rfl (run_alloc_Pr rfl) ?_; intro b2 w2 hg2 hx2 hB2 hz2) | ((with_reducible refine gate_ (.store TP (.tmp 2) (.tmp 5)) rfl ?_); refine row_store_event rfl TP (.tmp 2) (.tmp 5) rfl b2 #[.string (nm1 s x).1, .slice none 0 0, .int .i64 0] rfl rfl TP _ hx2.out size_P rfl (one3 _ _ _ rfl rfl rfl) ?_; intro w4 hs4; have HX4 := Aside0.mk hs4.at_; have H4 := Aside0.mk ((H1.out.fresh hB2.out hg2.out).own (Chg.row hs4 (.inr rfl))); have HB2 : Aside0 (wS.heap.size ≤ b2 ∧ b2 < w4.heap.size) := ⟨by have h1 := H1.out.size; have h2 := hg2.out; have h3 := hz2.out; have h4 := hs4.size; omega⟩; have hp4 := bt1 H4.out.p1; clear hs4 hx2 hB2 hz2 hg2))
  have hnat := num1_range s 8 (by decide) (nm1 s x).2
  have hI0 : Calls Try.prog 109 #[.pointer (some ⟨g, 0, none⟩), .int .i64 8] w4 fun e w' => e = .returned (.int .i64 (((num1 s 8 (nm1 s x).2).1.toNat : Nat) : Int)) ∧ LI (Kd.int .i64) 3 s g b1 b2 (fun v => #[.string (nm1 s x).1, v, .int .i64 0]) TP w4 (fun _ => False) 0 (num1 s 8 (nm1 s x).2).2 [] w' := by
    refine (num_nat s hs g 8 (by decide) (nm1 s x).2 w4 H4.out.rd).mono ?_
    rintro e w' ⟨rfl, hr_, hc_⟩
    have h1 := H4.out.lg
    have h2 := H4.out.l1
    have h3 := HB2.out
    have I0 : LI (Kd.int .i64) 3 s g b1 b2 (fun v => #[.string (nm1 s x).1, v, .int .i64 0]) TP w4 (fun _ => False) 0 (nm1 s x).2 [] w4 := ⟨H4.out.rd, H4.out.p1, ⟨_, HX4.out, Kd.R_nil _ _ _ _ _⟩, Nat.le_refl _, Chg.refl _ _, by omega, by omega, by omega, H4.out.n1, by omega, by omega, fun _ h => h.elim⟩
    exact ⟨rfl, I0.num hc_ hr_⟩
  refine (times_calls s g 8 (.func (.func 113) #[] #[.pointer (some ⟨b2, 0, none⟩), .pointer (some ⟨b1, 0, none⟩)]) (σ := RS × List Int) (·.1) (int1 s) (fun i p w => LI (Kd.int .i64) 3 s g b1 b2 (fun v => #[.string (nm1 s x).1, v, .int .i64 0]) TP w4 (fun _ => False) i p.1 p.2 w) (fun i p w h => h.rd) (num1 s 8 (nm1 s x).2).1.toNat (by omega) ((num1 s 8 (nm1 s x).2).2, []) w4 hI0 (fun i p w _ h _ => h.le (Nat.le_succ _)) (fun i p w hi h _ => CallsV.of Try.func113 (by kernel_rfl) rfl (int_fn s hs g b1 b2 (nm1 s x).1 w4 i (by omega) p.1 p.2 w h))).mono ?_
  rintro e w5 ⟨rfl, hI⟩
  obtain ⟨xi, hxi⟩ : ∃ xi, ints1 s (nm1 s x).2 = xi := ⟨_, rfl⟩
  have hI : LI (Kd.int .i64) 3 s g b1 b2 (fun v => #[.string (nm1 s x).1, v, .int .i64 0]) TP w4 (fun _ => False) (num1 s 8 (nm1 s x).2).1.toNat (ints1 s (nm1 s x).2).1 (ints1 s (nm1 s x).2).2 w5 := hI
  have hil := ints1_len s (nm1 s x).2
  rw [hxi] at hI HE hil
  clear hxi hI0 hnat hp4 hp1
  obtain ⟨x5, li⟩ := xi
  have HI := Aside0.mk hI
  have HC45 := Aside0.mk hI.c
  obtain ⟨v5, hv5, hR5⟩ := hI.r
  obtain ⟨A5, c5, rfl⟩ := Kd.R_slice hR5
  have HV5 := Aside0.mk hv5
  have HR5 := Aside0.mk hR5
  have hp5 := bt1 hI.p1
  clear hI hv5 hR5
  go_wp2_with fail
  refine (num_calls s hs g 8 x5 _ HI.out.rd).mono ?_
  rintro e w6 ⟨rfl, hr_, hc_⟩
  have HRD6 := Aside0.mk hr_
  have HC6 := Aside0.mk hc_
  have HX6 : Aside0 (w6.heap[b2]? = some (.cells #[.string (nm1 s x).1, .slice A5 li.length c5, .int .i64 0] TP (0, 0))) := ⟨hc_.keep HV5.out HI.out.n2⟩
  have hc6 := (bt3 HX6.out).2.2
  have hf6 := frozen_of_row w6 b2 2 _ _ HX6.out
  obtain ⟨v, hv, hR⟩ := H4.out.r
  obtain ⟨A, c, rfl⟩ := Kd.R_slice hR
  have HV4 := Aside0.mk hv
  have HR4 := Aside0.mk hR
  clear hr_ hc_ hp5 hv hR
  go_wp2_with (first | ((with_reducible refine gate_ (.store 3 (.tmp 11) (.tmp 10)) rfl ?_); refine cell_store_event rfl b2 2 (.int .i64 (num1 s 8 x5).1) TP _ HX6.out (by first | (go_simp; done) | (go_simp; rfl)) ?_; intro w7 hset; have HC47 : Aside0 (Chg w4 w7 (fun k => k = g ∨ (False ∨ k = b2))) := ⟨((HC45.out.mono (ok' := fun k => k = g ∨ (False ∨ k = b2)) (fun _ _ h => h.elim .inl (fun h => .inr (.inr h)))).trans (HC6.out.mono (fun _ _ h => .inl h))).trans (Chg.cell hset (.inr (.inr rfl)))⟩; have HC57 : Aside0 (Chg w5 w7 (fun k => k = g ∨ k = b2)) := ⟨(HC6.out.mono (fun _ _ h => .inl h)).trans (Chg.cell hset (.inr rfl))⟩; have HRD7 := Aside0.mk (HRD6.out.keep (Chg.cell (ok := fun k => k = b2) hset rfl) (Ne.symm HI.out.n2)); have H7 := Aside0.mk (H4.out.step HC47.out HRD7.out); have HX7 : Aside0 (w7.heap[b2]? = some (.cells #[.string (nm1 s x).1, .slice A5 li.length c5, .int .i64 (num1 s 8 x5).1] TP (0, 0))) := ⟨hset.at_⟩; have HV7 := Aside0.mk (HC47.out.keep HV4.out (fun h => by have h1 := H4.out.n2; have h2 := H4.out.lb; have h3 := HB2.out; rcases h with h | h | h; exact h1 h; exact h; omega)); have HR7 := Aside0.mk (Kd.R_step HR4.out (fun k hk hlt => HC47.out.block k hlt (fun h => by have h1 := H4.out.lg; rcases h with h | h; omega; exact hk.2 h))); have HR57 := Aside0.mk (Kd.R_step HR5.out (fun k hk hlt => HC57.out.block k hlt (fun h => by have h1 := HI.out.lg; have h2 := HI.out.lb; omega))); have hcv := (bt3 HV7.out).2.2; clear hset hc6 hf6) | ((with_reducible refine gate_dst (N := 14) rfl ?_); refine wpList_load_row rfl TP (.tmp 2) rfl b2 rfl TP #[.string (nm1 s x).1, .slice A5 li.length c5, .int .i64 (num1 s 8 x5).1] (0, 0) _ HX7.out Try.underlying52 rfl size_P ?_) | ((with_reducible refine gate_builtin (b := .append) (xs := #[.tmp 13, .tmp 15]) rfl ?_); at_builtin; refine Kd.R_append kP (w0 := w7) wS.heap.size rfl (.tmp 13) (.tmp 15) 45 TP (.agg #[.string ⟨#[]⟩, .slice none 0 0, .int .i64 0]) 48 rfl Try.underlying45 (by kernel_rfl) rfl (by decide) (by decide) (.slice A l.length c) l ⟨(nm1 s x).1, li, (num1 s 8 x5).1⟩ [.string (nm1 s x).1, .slice A5 li.length c5, .int .i64 (num1 s 8 x5).1] (fun k => wS.heap.size ≤ k ∧ ¬ (False ∨ k = b2)) (fun k => w4.heap.size ≤ k) rfl rfl (k52_mkM w7 wS.heap.size _ ⟨(nm1 s x).1, li, (num1 s 8 x5).1⟩ (Kd.R_lower (Kd.R_mono HR57.out (fun k hk => hk.1)) H4.out.size)) (fun k hk => ⟨⟨Nat.le_trans H4.out.size hk, fun h => by have h3 := HB2.out; rcases h with h | h; exact h; omega⟩, fun h => by have h4 := Kd.R_lt HR4.out k h.symm; omega⟩) (fun k hk => ⟨Nat.le_trans H7.out.size hk, fun h => by have h1 := (Array.getElem?_eq_some_iff.1 HX7.out).1; rcases h with h | h; exact h; omega⟩) HR7.out (Below.refl _ _) H7.out.size (by omega) ?_; intro v8 w8 hR8 hB8 hG8 hA8; obtain ⟨A8, c8, rfl⟩ := Kd.R_slice hR8; rw [List.length_append, List.length_singleton] at hR8 ⊢; have hv8 := blk_grown HV7.out hG8 (Kd.R_ne HR7.out HV7.out (by decide)); have HR8 := Aside0.mk hR8; have HG8 := Aside0.mk hG8; have HV8 := Aside0.mk hv8; have hcv8 := (bt3 hv8).2.2; have hf8 := frozen_of_row w8 b3 2 _ _ hv8; clear hR8 hB8 hG8 hA8 hv8))
  go_end0
  refine ⟨rfl, ?_⟩
  rw [HE.out]
  exact H7.out.push (j := 2) HV7.out HR8.out HG8.out (fun k hk => Kd.R_base HR7.out k hk) (cellSet_mk (i := 2) HV8.out) rfl rfl
set_option maxHeartbeats 8000000 in
set_option maxRecDepth 100000 in
theorem table_calls (s : ByteArray) (hs : s.size ≤ 1000000000) (g : Nat) (x : RS) (w : World) (h : Rd TR w g s x) :
    Calls Try.prog 69 #[.pointer (some ⟨g, 0, none⟩)] w fun e w' => ∃ v1 v2, e = .returned (.agg #[.string (nm1 s x).1, v1, v2]) ∧ kT.M w' w.heap.size (fun k => w.heap.size ≤ k) (tab1 s x).1 [.string (nm1 s x).1, v1, v2] ∧ Rd TR w' g s (tab1 s x).2 ∧ Chg w w' (fun k => k = g) := by
  have H0 := Aside0.mk h
  have HE : Aside0 (tab1 s x = (⟨(nm1 s x).1, (cols1 s (nm1 s x).2).2, (prjs1 s (cols1 s (nm1 s x).2).1).2⟩, (prjs1 s (cols1 s (nm1 s x).2).1).1)) := ⟨rfl⟩
  clear h
  go_enter Try.func69, Try.ntmps69
  go_wp2_with (first | ((with_reducible refine gate_dst (N := 1) rfl ?_); refine box_event rfl (N := 1) rfl (cs := #[.pointer (some ⟨g, 0, none⟩)]) (t := T1) ?hr ?_; (case hr => first | (go_simp; done) | (go_simp; rfl)); intro b1 hgb1 w1 hb1 hBb1; have HXb1 := Aside0.mk hb1; have HBb1 := Aside0.mk hBb1; have HGB1 := Aside0.mk hgb1; clear hgb1 hb1 hBb1) | ((with_reducible refine gate_dst (N := 2) rfl ?_); refine alloc_event rfl (N := 2) rfl (run_alloc_T rfl) ?_; intro b2 w2 hg2 hx2 hB2 hz2; have hp2 := bt1 (blk_below HXb1.out hB2.out)))
  have HG1 : Aside0 (w.heap.size ≤ b1 ∧ b1 < b2 ∧ b2 < w2.heap.size ∧ g < w.heap.size) := ⟨by have h1 := HGB1.out; have h2 := hg2.out; have h3 := hz2.out; have h4 := (Array.getElem?_eq_some_iff.1 HXb1.out).1; have h5 := H0.out.lt; omega⟩
  have HB2 : Aside0 (Below w.heap.size w w2) := ⟨below_step HBb1.out hB2.out⟩
  have H2 := Aside0.mk (H0.out.below HB2.out)
  have HP2 := Aside0.mk (blk_below HXb1.out hB2.out)
  clear hg2 hB2 hz2
  refine (rname_calls s hs g x w2 H2.out).mono ?_
  rintro e w3 ⟨rfl, hr_, hc_⟩
  have H3 := Aside0.mk hr_
  have HC3 : Aside0 (Chg w w3 (fun k => k = g)) := ⟨(Chg.of_below HB2.out).trans hc_⟩
  have HP3 := Aside0.mk (hc_.keep HP2.out (by have := HG1.out; omega))
  have HX3 := Aside0.mk (hc_.keep hx2.out (by have := HG1.out; omega))
  have HZ3 : Aside0 (w2.heap.size ≤ w3.heap.size) := ⟨hc_.size⟩
  have hp3 := bt1 HP3.out
  clear hr_ hc_ hp2 hx2
  go_wp2_with (first | ((with_reducible refine gate_dst (N := 3) rfl ?_); refine alloc_event rfl (N := 3) rfl (run_alloc_T rfl) ?_; intro b3 w4 hg4 hx4 hB4 hz4) | ((with_reducible refine gate_ (.store TT (.tmp 3) (.tmp 6)) rfl ?_); refine row_store_event rfl TT (.tmp 3) (.tmp 6) rfl b3 #[.string (nm1 s x).1, .slice none 0 0, .slice none 0 0] rfl rfl TT _ hx4.out size_T rfl (one3 _ _ _ rfl rfl rfl) ?_; intro w5 hs5; have HX5 := Aside0.mk hs5.at_; have HB5 : Aside0 (Below w3.heap.size w3 w5) := ⟨hs5.below hB4.out (Nat.le_of_eq hg4.out.symm)⟩; have HG5 : Aside0 (b3 = w3.heap.size ∧ b3 < w5.heap.size) := ⟨by have h1 := hg4.out; have h2 := hz4.out; have h3 := hs5.size; omega⟩; have hp5 := bt1 (blk_below HP3.out HB5.out); clear hs5 hx4 hB4 hz4 hg4))
  have HP5 := Aside0.mk (blk_below HP3.out HB5.out)
  have HY5 := Aside0.mk (blk_below HX3.out HB5.out)
  have H5 := Aside0.mk (H3.out.below HB5.out)
  have HC5 : Aside0 (Chg w w5 (fun k => k = g)) := ⟨HC3.out.trans (Chg.of_below HB5.out)⟩
  have HGG : Aside0 (w.heap.size ≤ b1 ∧ b1 < b2 ∧ b2 < b3 ∧ b3 < w5.heap.size ∧ g < w.heap.size) := ⟨by have h1 := HG1.out; have h2 := HG5.out; have h3 := HZ3.out; omega⟩
  clear hp3
  have hnat := num1_range s 8 (by decide) (nm1 s x).2
  have hI0 : Calls Try.prog 109 #[.pointer (some ⟨g, 0, none⟩), .int .i64 8] w5 fun e w' => e = .returned (.int .i64 (((num1 s 8 (nm1 s x).2).1.toNat : Nat) : Int)) ∧ LI kC TC s g b1 b3 (fun v => #[.string (nm1 s x).1, v, .slice none 0 0]) TT w5 (fun _ => False) 0 (((num1 s 8 (nm1 s x).2).2, ([] : List Col))).1 (((num1 s 8 (nm1 s x).2).2, ([] : List Col))).2 w' := by
    refine (num_nat s hs g 8 (by decide) (nm1 s x).2 w5 H5.out).mono ?_
    rintro e w' ⟨rfl, hr_, hc_⟩
    have h3 := HGG.out
    have I0 : LI kC TC s g b1 b3 (fun v => #[.string (nm1 s x).1, v, .slice none 0 0]) TT w5 (fun _ => False) 0 (nm1 s x).2 [] w5 := ⟨H5.out, HP5.out, ⟨_, HX5.out, Kd.R_nil _ _ _ _ _⟩, Nat.le_refl _, Chg.refl _ _, by omega, by omega, by omega, by omega, by omega, by omega, fun _ h => h.elim⟩
    exact ⟨rfl, I0.num hc_ hr_⟩
  refine (times_calls s g 8 (.func (.func 111) #[] #[.pointer (some ⟨b1, 0, none⟩), .pointer (some ⟨b3, 0, none⟩)]) (σ := RS × List Col) (·.1) (col1 s) (fun i p w => LI kC TC s g b1 b3 (fun v => #[.string (nm1 s x).1, v, .slice none 0 0]) TT w5 (fun _ => False) i (p).1 (p).2 w) (fun i p w h => h.rd) (num1 s 8 (nm1 s x).2).1.toNat (by omega) ((num1 s 8 (nm1 s x).2).2, []) w5 hI0 (fun i p w _ h _ => h.le (Nat.le_succ _)) (fun i p w hi h _ => CallsV.of Try.func111 (by kernel_rfl) rfl (col_fn s hs g b1 b3 (nm1 s x).1 w5 i (by omega) p.1 p.2 w h))).mono ?_
  rintro e w6 ⟨rfl, hI⟩
  have hI : LI kC TC s g b1 b3 (fun v => #[.string (nm1 s x).1, v, .slice none 0 0]) TT w5 (fun _ => False) (num1 s 8 (nm1 s x).2).1.toNat (cols1 s (nm1 s x).2).1 (cols1 s (nm1 s x).2).2 w6 := hI
  obtain ⟨xi, hxi⟩ : ∃ xi, cols1 s (nm1 s x).2 = xi := ⟨_, rfl⟩
  have hil := cols1_len s (nm1 s x).2
  rw [hxi] at hI HE hil
  clear hxi hI0 hnat hp5
  obtain ⟨x6, lc⟩ := xi
  have HI := Aside0.mk hI
  obtain ⟨v6, hv6, hR6⟩ := hI.r
  obtain ⟨A6, c6, rfl⟩ := Kd.R_slice hR6
  have HV6 := Aside0.mk hv6
  have HR6 := Aside0.mk hR6
  have HY6 := Aside0.mk (hI.c.keep HY5.out (by have h3 := HGG.out; omega))
  have hp6 := bt1 hI.p1
  have HZ6 : Aside0 (w5.heap.size ≤ w6.heap.size) := ⟨hI.c.size⟩
  have HC6 : Aside0 (Chg w w6 (fun k => k = g)) := ⟨HC5.out.then_ hI.c (fun k hk h => by have h3 := HGG.out; rcases h with h | h; exact h; omega)⟩
  clear hI hv6 hR6
  go_wp2_with fail
  have hnat := num1_range s 6 (by decide) x6
  have hI0 : Calls Try.prog 109 #[.pointer (some ⟨g, 0, none⟩), .int .i64 6] w6 fun e w' => e = .returned (.int .i64 (((num1 s 6 x6).1.toNat : Nat) : Int)) ∧ LI kP TP s g b1 b3 (fun v => #[.string (nm1 s x).1, .slice A6 lc.length c6, v]) TT w6 (fun _ => False) 0 (((num1 s 6 x6).2, ([] : List Prj))).1 (((num1 s 6 x6).2, ([] : List Prj))).2 w' := by
    refine (num_nat s hs g 6 (by decide) x6 w6 HI.out.rd).mono ?_
    rintro e w' ⟨rfl, hr_, hc_⟩
    have h3 := HGG.out
    have h4 := HZ6.out
    have I0 : LI kP TP s g b1 b3 (fun v => #[.string (nm1 s x).1, .slice A6 lc.length c6, v]) TT w6 (fun _ => False) 0 x6 [] w6 := ⟨HI.out.rd, HI.out.p1, ⟨_, HV6.out, Kd.R_nil _ _ _ _ _⟩, Nat.le_refl _, Chg.refl _ _, by omega, by omega, by omega, by omega, by omega, by omega, fun _ h => h.elim⟩
    exact ⟨rfl, I0.num hc_ hr_⟩
  refine (times_calls s g 6 (.func (.func 112) #[] #[.pointer (some ⟨b1, 0, none⟩), .pointer (some ⟨b3, 0, none⟩)]) (σ := RS × List Prj) (·.1) (prj1 s) (fun i p w => LI kP TP s g b1 b3 (fun v => #[.string (nm1 s x).1, .slice A6 lc.length c6, v]) TT w6 (fun _ => False) i (p).1 (p).2 w) (fun i p w h => h.rd) (num1 s 6 x6).1.toNat (by omega) ((num1 s 6 x6).2, []) w6 hI0 (fun i p w _ h _ => h.le (Nat.le_succ _)) (fun i p w hi h _ => CallsV.of Try.func112 (by kernel_rfl) rfl (prj_fn s hs g b1 b3 (nm1 s x).1 (.slice A6 lc.length c6) w6 i (by omega) p.1 p.2 w h))).mono ?_
  rintro e w7 ⟨rfl, hI⟩
  have hI : LI kP TP s g b1 b3 (fun v => #[.string (nm1 s x).1, .slice A6 lc.length c6, v]) TT w6 (fun _ => False) (num1 s 6 x6).1.toNat (prjs1 s x6).1 (prjs1 s x6).2 w7 := hI
  obtain ⟨xi, hxi⟩ : ∃ xi, prjs1 s x6 = xi := ⟨_, rfl⟩
  have HE : Aside0 (tab1 s x = (⟨(nm1 s x).1, lc, xi.2⟩, xi.1)) := ⟨by rw [← hxi]; exact HE.out⟩
  rw [hxi] at hI
  clear hxi hI0 hnat hp6
  obtain ⟨x7, lp⟩ := xi
  have HI7 := Aside0.mk hI
  obtain ⟨v7, hv7, hR7⟩ := hI.r
  obtain ⟨A7, c7, rfl⟩ := Kd.R_slice hR7
  have HV7 := Aside0.mk hv7
  have HR7 := Aside0.mk hR7
  have HY7 := Aside0.mk (hI.c.keep HY6.out (by have h3 := HGG.out; omega))
  have HC7 : Aside0 (Chg w w7 (fun k => k = g)) := ⟨HC6.out.then_ hI.c (fun k hk h => by have h3 := HGG.out; rcases h with h | h; exact h; omega)⟩
  have HR67 := Aside0.mk (Kd.R_step HR6.out (fun k hk hlt => hI.c.block k hlt (fun h => by have h3 := HGG.out; omega)))
  clear hI hv7 hR7
  go_wp2_with (first | ((with_reducible refine gate_dst (N := 13) rfl ?_); refine wpList_load_row rfl TT (.tmp 3) rfl b3 rfl TT #[.string (nm1 s x).1, .slice A6 lc.length c6, .slice A7 lp.length c7] (0, 0) _ HV7.out Try.underlying47 rfl size_T ?_) | ((with_reducible refine gate_ (.store TT (.tmp 2) (.tmp 13)) rfl ?_); refine row_store_event rfl TT (.tmp 2) (.tmp 13) rfl b2 #[.string (nm1 s x).1, .slice A6 lc.length c6, .slice A7 lp.length c7] rfl rfl TT _ HY7.out size_T rfl (one3 _ _ _ rfl rfl rfl) ?_; intro w8 hs8; have HS8 := Aside0.mk hs8; clear hs8))
  refine bodyPost_ret (results_cell_row rfl _ _ b2 TT #[.string (nm1 s x).1, .slice A6 lc.length c6, .slice A7 lp.length c7] (0, 0) _ rfl HS8.out.at_ Try.underlying47 rfl size_T) rfl ?_
  have hgg := HGG.out
  have h6 := HZ6.out
  refine ⟨_, _, rfl, ?_, ?_, ?_⟩
  · rw [HE.out]
    refine k47_mkM w8 w.heap.size _ ⟨(nm1 s x).1, lc, lp⟩ ?_ ?_
    · exact Kd.R_lower (Kd.R_mono (Kd.R_step HR67.out (fun k hk hlt => HS8.out.other k (fun h => by have h9 := hk.1; omega))) (fun k hk => by have h9 := hk.1; omega)) (by omega)
    · exact Kd.R_lower (Kd.R_mono (Kd.R_step HR7.out (fun k hk hlt => HS8.out.other k (fun h => by have h9 := hk.1; omega))) (fun k hk => by have h9 := hk.1; omega)) (by omega)
  · rw [HE.out]
    exact HI7.out.rd.keep (Chg.row (ok := fun k => k = b2) HS8.out rfl) (by omega)
  · exact HC7.out.then_ (Chg.row (ok := fun k => k = b2) HS8.out rfl) (fun k hk h => by omega)
end Go.Proofs.Ytgjclhhjigflkac.Sc

/- The walks of schema.Take's function for a table, and of Take. (Written by gentake.py.) -/
namespace Go.Proofs.Ytgjclhhjigflkac.Sc
open Go Go.RowKit Go.Proofs.Ytgjclhhjigflkac.C Go.Proofs.Ytgjclhhjigflkac.MyWords Go.Proofs.Ytgjclhhjigflkac.Hand Go.Proofs.Ytgjclhhjigflkac.Vi Go.Proofs.YtgjclhhjigflkacW.PrintWords Go.Proofs.YtgjclhhjigflkacW.PrintLast Go.Proofs.YtgjclhhjigflkacW.PrintMore
set_option linter.unusedVariables false
set_option linter.unusedSimpArgs false
abbrev TO : Nat := 49
theorem run_alloc_R {e : Operand → Value} {o : Oper} {W : World} (ho : o.op = .alloc T1) : (execOp e o).run Try.prog W = .ok (.value (.pointer (some ⟨W.heap.size, 0, none⟩))) (W.alloc (.cells #[.pointer none] T1 (0, 0))) := by
  unfold execOp
  simp only [ho]
  kernel_rfl
theorem run_alloc_O {e : Operand → Value} {o : Oper} {W : World} (ho : o.op = .alloc TO) : (execOp e o).run Try.prog W = .ok (.value (.pointer (some ⟨W.heap.size, 0, none⟩))) (W.alloc (.cells #[.slice none 0 0] TO (0, 0))) := by
  unfold execOp
  simp only [ho]
  kernel_rfl
set_option maxHeartbeats 8000000 in
set_option maxRecDepth 100000 in
theorem tab_fn (s : ByteArray) (hs : s.size ≤ 1000000000) (g b5 bo : Nat) (wS : World) (i : Nat) (hi : i ≤ 1000) (x : RS) (l : List Tab) (w : World) (H : LI kT TT s g b5 bo (fun v => #[v]) TO wS (fun _ => False) i x l w) :
    Calls Try.prog 68 #[.pointer (some ⟨bo, 0, none⟩), .pointer (some ⟨b5, 0, none⟩)] w fun e w' => e = .returned (.tuple #[]) ∧ LI kT TT s g b5 bo (fun v => #[v]) TO wS (fun _ => False) (i + 1) (tabS s (x, l)).1 (tabS s (x, l)).2 w' := by
  have H0 := Aside0.mk (H.new (below_drew (Below.refl _ _)))
  have HE : Aside0 (tabS s (x, l) = ((tab1 s x).2, l ++ [(tab1 s x).1])) := ⟨rfl⟩
  have hn := H.n
  obtain ⟨v, hv, hR⟩ := H0.out.r
  obtain ⟨A, c, rfl⟩ := Kd.R_slice hR
  have HV := Aside0.mk hv
  have HR := Aside0.mk hR
  clear H hv hR
  go_enter Try.func68, Try.ntmps68
  go_wp2_with fail
  refine start_ (n := 6) (S := fun w' => w'.cell? ⟨bo, 0, none⟩ = some (.slice A l.length c) ∧ w'.cell? ⟨b5, 0, none⟩ = some (.pointer (some ⟨g, 0, none⟩))) (ds := [5]) #[Z,Z,Z,Z,Z,Z] (by kernel_rfl) rfl rfl (⟨bt1 HV.out, bt1 H0.out.p1⟩) (fun hHeld => ?_)
  refine take_ (i := 0) (N := (some 2)) (v := ?_) (a' := ?_) #[Y,Z,Z,Z,Z,Z] rfl rfl (by kernel_rfl) (fun _ _ _ h => h) (Or.inl ⟨by rfl, ?_⟩) hHeld ?_ ?_
  rotate_left
  · intro w' s0
    go_simp
    with_reducible rfl
  rotate_left
  · simp only [Act.put, List.setIfInBounds_toArray, List.set_cons_zero, List.set_cons_succ, i64_w, i32_w]
    rfl
  refine take_ (i := 1) (N := (some 3)) (v := ?_) (a' := ?_) #[Y,Y,Z,Z,Z,Z] rfl rfl (by kernel_rfl) (fun _ _ _ h => h) (Or.inl ⟨by rfl, ?_⟩) hHeld ?_ ?_
  rotate_left
  · intro w' s0
    go_simp
    with_reducible rfl
  rotate_left
  · simp only [Act.put, List.setIfInBounds_toArray, List.set_cons_zero, List.set_cons_succ, i64_w, i32_w]
    rfl
  refine one_ (i := 2) (N := (some 4)) #[Y,Y,Y,Z,Z,Z] rfl rfl (by kernel_rfl) (by decide) (fun K hK => ?_)
  refine goes_ Try.func69 (by kernel_rfl) rfl #[.pointer (some ⟨g, 0, none⟩)] (by rfl) rfl rfl (by (try simp only [List.map_toArray, List.map_cons, List.map_nil]); first | done | rfl) ?_
  refine (table_calls s hs g x _ H0.out.rd).mono ?_
  rintro e w1 ⟨v1, v2, rfl, hM, hr_, hc_⟩
  obtain ⟨u1, u2, e1, r1, r2⟩ := k47_openM hM
  injection e1 with _ e1
  injection e1 with e2 e1
  injection e1 with e3 _
  subst e2
  subst e3
  obtain ⟨Au1, cu1, rfl⟩ := Kd.R_slice r1
  obtain ⟨Au2, cu2, rfl⟩ := Kd.R_slice r2
  have HM := Aside0.mk hM
  refine ⟨_, rfl, ?_⟩
  have H1 := Aside0.mk (H0.out.num hc_ hr_)
  have HV1 := Aside0.mk (hc_.keep HV.out H0.out.n2)
  have HR1 := Aside0.mk (Kd.R_step HR.out (fun k hk hlt => hc_.block k hlt (fun h => by have := H0.out.lg; omega)))
  have HLT : Aside0 (∀ k, (Value.slice A l.length c).ownBlock = some k → k < w.drew.heap.size) := ⟨fun k hk => Kd.R_lt HR.out k hk⟩
  have HSZ : Aside0 (wS.heap.size ≤ w.drew.heap.size) := ⟨H0.out.size⟩
  refine hK.out _ _ ⟨bt1 HV1.out, bt1 H1.out.p1⟩ (fun hHeld => ?_)
  clear hr_ hc_ hM r1 r2
  clear hK K
  refine norm_ (a' := ?_) ?_ ?_
  rotate_left
  · show Act.put _ (some 4) _ = _
    simp only [Act.put, List.setIfInBounds_toArray, List.set_cons_zero, List.set_cons_succ, i64_w, i32_w]
    rfl
  refine one_ (i := 3) (N := (some 5)) #[Y,Y,Y,Y,Z,Z] rfl rfl (by kernel_rfl) (by decide) (fun K hK => ?_)
  refine value_ (w1 := w1.alloc (.cells #[.string (nm1 s x).1, .slice Au1 (tab1 s x).1.f1.length cu1, .slice Au2 (tab1 s x).1.f2.length cu2] TT (0, 0))) (v := .slice (some ⟨w1.heap.size, 0, none⟩) 1 1) (by rfl) rfl (by first | (go_simp; done) | (go_simp; rfl)) ?_
  refine hK.out _ _ ⟨pw_cell_below (below_alloc (Below.refl _ _) _) (bt1 HV1.out), pw_cell_below (below_alloc (Below.refl _ _) _) (bt1 H1.out.p1)⟩ (fun hHeld => ?_)
  clear hK K
  refine norm_ (a' := ?_) ?_ ?_
  rotate_left
  · show Act.put _ (some 5) _ = _
    simp only [Act.put, List.setIfInBounds_toArray, List.set_cons_zero, List.set_cons_succ, i64_w, i32_w]
    rfl
  refine one_ (i := 4) (N := (some 6)) #[Y,Y,Y,Y,Y,Z] rfl rfl (by kernel_rfl) (by decide) (fun K hK => ?_)
  refine Kd.R_append_step kT (w0 := w1) wS.heap.size (by rfl) (.tmp 2) (.tmp 5) TO TT (.agg #[.string ⟨#[]⟩, .slice none 0 0, .slice none 0 0]) 64 rfl Try.underlying49 (by kernel_rfl) rfl (by decide) (by decide) (.slice A l.length c) l (tab1 s x).1 [.string (nm1 s x).1, .slice Au1 (tab1 s x).1.f1.length cu1, .slice Au2 (tab1 s x).1.f2.length cu2] (fun k => wS.heap.size ≤ k ∧ ¬ False) (fun k => w.drew.heap.size ≤ k) rfl rfl (kT.M_lower HSZ.out HM.out) (fun k hk => ⟨⟨Nat.le_trans HSZ.out hk, fun h => h⟩, fun h => by have h4 := HLT.out k h.symm; omega⟩) (fun k hk => ⟨Nat.le_trans H1.out.size hk, fun h => h⟩) HR1.out (Below.refl _ _) H1.out.size (by omega) ?_
  intro v8 w8 hR8 hB8 hG8 hA8
  obtain ⟨A8, c8, rfl⟩ := Kd.R_slice hR8
  rw [List.length_append, List.length_singleton] at hR8 ⊢
  have hv8 := blk_grown HV1.out hG8 (Kd.R_ne HR1.out HV1.out (by decide))
  have hp8 := blk_grown H1.out.p1 hG8 (Kd.R_ne HR1.out H1.out.p1 (by decide))
  have HR8 := Aside0.mk hR8
  have HG8 := Aside0.mk hG8
  have HV8 := Aside0.mk hv8
  have hcv8 := bt1 hv8
  have hf8 := frozen_of_row w8 bo 0 _ _ hv8
  refine hK.out _ _ ⟨hcv8, bt1 hp8⟩ (fun hHeld => ?_)
  clear hR8 hB8 hG8 hA8 hv8 hp8
  clear hK K
  refine norm_ (a' := ?_) ?_ ?_
  rotate_left
  · show Act.put _ (some 6) _ = _
    simp only [Act.put, List.setIfInBounds_toArray, List.set_cons_zero, List.set_cons_succ, i64_w, i32_w]
    rfl
  refine last_ (i := 5) (N := none) #[Y,Y,Y,Y,Y,Y] rfl rfl (by kernel_rfl) (by decide) (fun K hK => ?_)
  refine store_cell_ (by rfl) rfl bo 0 (.slice A8 (l.length + 1) c8) TO _ HV8.out (by first | (go_simp; done) | (go_simp; rfl)) ?_
  intro w9 hs9
  have HS9 := Aside0.mk hs9
  refine hK.out _ _ ?_
  clear hK K hs9
  refine done_ (by kernel_rfl) ?_
  go_wp2_with fail
  go_end0
  refine ⟨rfl, ?_⟩
  rw [HE.out]
  exact H1.out.push (j := 0) HV1.out HR8.out HG8.out (fun k hk => Kd.R_base HR1.out k hk) HS9.out rfl rfl
set_option maxHeartbeats 8000000 in
set_option maxRecDepth 100000 in
theorem take_calls (s : ByteArray) (hs : s.size ≤ 1000000000) (w : World) :
    Calls Try.prog 28 #[.string s] w fun e w' => ∃ v, e = .returned (.tuple #[v, .int .i64 (takeP s).2.1, .int .i64 (takeP s).2.2]) ∧ Kd.N kT TT w' w.heap.size (fun k => w.heap.size ≤ k) v (takeP s).1 ∧ Below w.heap.size w w' := by
  have HE : Aside0 (takeP s = if ((tabs1 s ⟨0, false⟩).1.bad || !checkP (tabs1 s ⟨0, false⟩).2) = true then ([], 0, 20) else ((tabs1 s ⟨0, false⟩).2, ((tabs1 s ⟨0, false⟩).1.at_ : Int), 0)) := ⟨rfl⟩
  go_enter Try.func28, Try.ntmps28
  go_wp2_with (first | ((with_reducible refine gate_dst (N := 9) rfl ?_); refine box_event rfl (N := 9) rfl (cs := #[.string s, .int .i64 0, .bool false]) (t := TR) ?hr ?_; (case hr => first | (go_simp; done) | (go_simp; rfl)); intro g hg_ w1 hx_ hB_; have HX1 := Aside0.mk hx_; have HB1 := Aside0.mk hB_; have HG1 := Aside0.mk hg_; clear hg_ hx_ hB_) | ((with_reducible refine gate_dst (N := 5) rfl ?_); refine alloc_event rfl (N := 5) rfl (run_alloc_R rfl) ?_; intro b5 w2 hg2 hx2 hB2 hz2; have hc2 := bt1 hx2.out; have hf2 := frozen_of_row w2 b5 0 _ _ hx2.out) | ((with_reducible refine gate_ (.store T1 (.tmp 5) (.tmp 9)) rfl ?_); refine cell_store_event rfl b5 0 (.pointer (some ⟨g, 0, none⟩)) T1 _ hx2.out (by first | (go_simp; done) | (go_simp; rfl)) ?_; intro w3 hs3; have HP3 : Aside0 (w3.heap[b5]? = some (.cells #[.pointer (some ⟨g, 0, none⟩)] T1 (0, 0))) := ⟨hs3.at_⟩; have HB3 := Aside0.mk (hs3.below hB2.out (Nat.le_of_eq hg2.out.symm)); have HZ3 : Aside0 (b5 = w1.heap.size ∧ w3.heap.size = w1.heap.size + 1) := ⟨hg2.out, hs3.size.trans hz2.out⟩; clear hs3 hx2 hB2 hz2 hg2 hc2 hf2) | ((with_reducible refine gate_dst (N := 6) rfl ?_); refine alloc_event rfl (N := 6) rfl (run_alloc_O rfl) ?_; intro bo w4 hg4 hx4 hB4 hz4; have hp4 := bt1 (blk_below HP3.out hB4.out)))
  have HP4 := Aside0.mk (blk_below HP3.out hB4.out)
  have HB4 : Aside0 (Below w.heap.size w w4) := ⟨below_step (below_step HB1.out HB3.out) hB4.out⟩
  have HR4 : Aside0 (Rd TR w4 g s ⟨0, false⟩) := ⟨blk_below (blk_below HX1.out HB3.out) hB4.out, Nat.zero_le _⟩
  have HGG : Aside0 (w.heap.size ≤ g ∧ g < b5 ∧ b5 < bo ∧ bo < w4.heap.size) := ⟨by have h1 := HG1.out; have h2 := HZ3.out; have h3 := hg4.out; have h4 := hz4.out; have h5 := (Array.getElem?_eq_some_iff.1 HX1.out).1; omega⟩
  have HX4 := Aside0.mk hx4.out
  clear hg4 hx4 hB4 hz4
  have hnat := num1_range s 8 (by decide) ⟨0, false⟩
  have hI0 : Calls Try.prog 109 #[.pointer (some ⟨g, 0, none⟩), .int .i64 8] w4 fun e w' => e = .returned (.int .i64 (((num1 s 8 ⟨0, false⟩).1.toNat : Nat) : Int)) ∧ LI kT TT s g b5 bo (fun v => #[v]) TO w4 (fun _ => False) 0 (((num1 s 8 ⟨0, false⟩).2, ([] : List Tab))).1 (((num1 s 8 ⟨0, false⟩).2, ([] : List Tab))).2 w' := by
    refine (num_nat s hs g 8 (by decide) ⟨0, false⟩ w4 HR4.out).mono ?_
    rintro e w' ⟨rfl, hr_, hc_⟩
    have h3 := HGG.out
    have I0 : LI kT TT s g b5 bo (fun v => #[v]) TO w4 (fun _ => False) 0 ⟨0, false⟩ [] w4 := ⟨HR4.out, HP4.out, ⟨_, HX4.out, Kd.R_nil _ _ _ _ _⟩, Nat.le_refl _, Chg.refl _ _, by omega, by omega, by omega, by omega, by omega, by omega, fun _ h => h.elim⟩
    exact ⟨rfl, I0.num hc_ hr_⟩
  refine (times_calls s g 8 (.func (.func 68) #[] #[.pointer (some ⟨bo, 0, none⟩), .pointer (some ⟨b5, 0, none⟩)]) (σ := RS × List Tab) (·.1) (tabS s) (fun i p w => LI kT TT s g b5 bo (fun v => #[v]) TO w4 (fun _ => False) i (p).1 (p).2 w) (fun i p w h => h.rd) (num1 s 8 ⟨0, false⟩).1.toNat (by omega) ((num1 s 8 ⟨0, false⟩).2, []) w4 hI0 (fun i p w _ h _ => h.le (Nat.le_succ _)) (fun i p w hi h _ => CallsV.of Try.func68 (by kernel_rfl) rfl (tab_fn s hs g b5 bo w4 i (by omega) p.1 p.2 w h))).mono ?_
  rintro e w5 ⟨rfl, hI⟩
  have hI : LI kT TT s g b5 bo (fun v => #[v]) TO w4 (fun _ => False) (num1 s 8 ⟨0, false⟩).1.toNat (tabs1 s ⟨0, false⟩).1 (tabs1 s ⟨0, false⟩).2 w5 := hI
  have hln := tabs1_len s ⟨0, false⟩
  have hgt := tabs1_GT s ⟨0, false⟩
  obtain ⟨xi, hxi⟩ : ∃ xi, tabs1 s ⟨0, false⟩ = xi := ⟨_, rfl⟩
  rw [hxi] at hI HE hln hgt
  clear hxi hI0 hnat hp4
  obtain ⟨⟨p, b⟩, l⟩ := xi
  have hln : l.length ≤ 8 := hln
  have HGT : Aside0 (∀ t ∈ l, GT t) := ⟨hgt⟩
  have HI := Aside0.mk hI
  obtain ⟨v, hv, hR⟩ := hI.r
  obtain ⟨A, c, rfl⟩ := Kd.R_slice hR
  have HV := Aside0.mk hv
  have HR := Aside0.mk hR
  have HRD : Aside0 (w5.heap[g]? = some (.cells #[.string s, .int .i64 (p : Int), .bool b] TR (0, 0))) := ⟨hI.rd.1⟩
  have HB5 : Aside0 (Below w.heap.size w w5) := ⟨hI.c.below HB4.out (by have h := HB4.out.size; exact h) (fun k hk => by have h := HGG.out; omega)⟩
  have hp5 := bt1 hI.p1
  have hc52 := (bt3 HRD.out).2.2
  have hc50 := bt1 HV.out
  clear hI hv hR hgt
  cases b with
  | true =>
    have HE2 : Aside0 (takeP s = ([], 0, 20)) := ⟨by rw [HE.out, if_pos (by rfl)]⟩
    go_wp2_with fail
    go_ret3
    rw [HE2.out]
    exact ⟨_, rfl, Kd.N_nil _ _ _ _ _, HB5.out⟩
  | false =>
    have hrd := Kd.R_reads' HR.out
    have hcp : l.length ≤ c := hrd.2.1
    have HCC := Aside0.mk hrd.2.2
    clear hrd
    go_wp2_with fail
    refine (check_calls l A c _ HCC.out hcp (by omega) HGT.out).mono ?_
    rintro e w6 ⟨rfl, hb6⟩
    have HB6 := Aside0.mk hb6
    cases h0 : checkP l with
    | false =>
      have HE2 : Aside0 (takeP s = ([], 0, 20)) := ⟨by rw [HE.out, if_pos (by rw [h0]; rfl)]⟩
      rw [chkE_no h0]
      clear hb6
      go_wp2_with fail
      go_ret3
      rw [HE2.out]
      exact ⟨_, rfl, Kd.N_nil _ _ _ _ _, below_step HB5.out HB6.out⟩
    | true =>
      have HE2 : Aside0 (takeP s = (l, (p : Int), 0)) := ⟨by rw [HE.out, if_neg (by rw [h0]; decide)]⟩
      rw [chkE_yes h0]
      have HV6 := Aside0.mk (blk_below HV.out hb6)
      have HP6 := Aside0.mk (blk_below HI.out.p1 hb6)
      have HRD6 := Aside0.mk (blk_below HRD.out hb6)
      clear hb6 h0
      go_wp2_with fail
      refine start_ (n := 8) (S := fun w' => w'.cell? ⟨bo, 0, none⟩ = some (.slice A l.length c) ∧ w'.cell? ⟨b5, 0, none⟩ = some (.pointer (some ⟨g, 0, none⟩)) ∧ w'.cell? ⟨g, 1, none⟩ = some (.int .i64 (p : Int))) (ds := []) #[Z,Z,Z,Z,Z,Z,Z,Z] (by kernel_rfl) rfl rfl (⟨bt1 HV6.out, bt1 HP6.out, (bt3 HRD6.out).2.1⟩) (fun hHeld => ?_)
      refine take_ (i := 0) (N := (some 22)) (v := ?_) (a' := ?_) #[Y,Z,Z,Z,Z,Z,Z,Z] rfl rfl (by kernel_rfl) (fun _ _ _ h => h) (Or.inl ⟨by rfl, ?_⟩) hHeld ?_ ?_
      rotate_left
      · intro w' s0
        go_simp
        with_reducible rfl
      rotate_left
      · simp only [Act.put, List.setIfInBounds_toArray, List.set_cons_zero, List.set_cons_succ, i64_w, i32_w]
        rfl
      refine take_ (i := 1) (N := (some 23)) (v := ?_) (a' := ?_) #[Y,Y,Z,Z,Z,Z,Z,Z] rfl rfl (by kernel_rfl) (fun _ _ _ h => h) (Or.inl ⟨by rfl, ?_⟩) hHeld ?_ ?_
      rotate_left
      · intro w' s0
        go_simp
        with_reducible rfl
      rotate_left
      · simp only [Act.put, List.setIfInBounds_toArray, List.set_cons_zero, List.set_cons_succ, i64_w, i32_w]
        rfl
      refine pure_ (i := 2) (N := (some 24)) (v := ?_) (a' := ?_) #[Y,Y,Y,Z,Z,Z,Z,Z] rfl rfl (by kernel_rfl) (fun _ _ _ h => h) (Or.inl ⟨by rfl, ?_⟩) ?_ ?_
      rotate_left
      · intro w'
        go_simp
        with_reducible rfl
      rotate_left
      · simp only [Act.put, List.setIfInBounds_toArray, List.set_cons_zero, List.set_cons_succ, i64_w, i32_w]
        rfl
      refine pure_ (i := 3) (N := (some 25)) (v := ?_) (a' := ?_) #[Y,Y,Y,Y,Z,Z,Z,Z] rfl rfl (by kernel_rfl) (fun _ _ _ h => h) (Or.inl ⟨by rfl, ?_⟩) ?_ ?_
      rotate_left
      · intro w'
        go_simp
        with_reducible rfl
      rotate_left
      · simp only [Act.put, List.setIfInBounds_toArray, List.set_cons_zero, List.set_cons_succ, i64_w, i32_w]
        rfl
      refine take_ (i := 4) (N := (some 26)) (v := ?_) (a' := ?_) #[Y,Y,Y,Y,Y,Z,Z,Z] rfl rfl (by kernel_rfl) (fun _ _ _ h => h) (Or.inl ⟨by rfl, ?_⟩) hHeld ?_ ?_
      rotate_left
      · intro w' s0
        go_simp
        with_reducible rfl
      rotate_left
      · simp only [Act.put, List.setIfInBounds_toArray, List.set_cons_zero, List.set_cons_succ, i64_w, i32_w]
        rfl
      refine pure_ (i := 5) (N := (some 2)) (v := ?_) (a' := ?_) #[Y,Y,Y,Y,Y,Y,Z,Z] rfl rfl (by kernel_rfl) (fun _ _ _ h => h) (Or.inl ⟨by rfl, ?_⟩) ?_ ?_
      rotate_left
      · intro w'
        go_simp
        with_reducible rfl
      rotate_left
      · simp only [Act.put, List.setIfInBounds_toArray, List.set_cons_zero, List.set_cons_succ, i64_w, i32_w]
        rfl
      refine pure_ (i := 6) (N := (some 3)) (v := ?_) (a' := ?_) #[Y,Y,Y,Y,Y,Y,Y,Z] rfl rfl (by kernel_rfl) (fun _ _ _ h => h) (Or.inl ⟨by rfl, ?_⟩) ?_ ?_
      rotate_left
      · intro w'
        go_simp
        with_reducible rfl
      rotate_left
      · simp only [Act.put, List.setIfInBounds_toArray, List.set_cons_zero, List.set_cons_succ, i64_w, i32_w]
        rfl
      refine pure_ (i := 7) (N := (some 4)) (v := ?_) (a' := ?_) #[Y,Y,Y,Y,Y,Y,Y,Y] rfl rfl (by kernel_rfl) (fun _ _ _ h => h) (Or.inl ⟨by rfl, ?_⟩) ?_ ?_
      rotate_left
      · intro w'
        go_simp
        with_reducible rfl
      rotate_left
      · simp only [Act.put, List.setIfInBounds_toArray, List.set_cons_zero, List.set_cons_succ, i64_w, i32_w]
        rfl
      refine done_ (by kernel_rfl) ?_
      go_wp2_with fail
      go_ret3
      rw [HE2.out]
      exact ⟨_, rfl, Kd.N_lower (Kd.N_mono (Kd.N_drew (Kd.N_below (Kd.R_N HR.out) HB6.out)) (fun k hk => Nat.le_trans HB4.out.size hk.1)) HB4.out.size, below_drew (below_step HB5.out HB6.out)⟩
end Go.Proofs.Ytgjclhhjigflkac.Sc

/- The contract of schema.Take, in the printer's form. -/
namespace Go.Proofs.Ytgjclhhjigflkac.C
open Go Go.RowKit Go.Proofs.Ytgjclhhjigflkac.Sc Go.Proofs.Ytgjclhhjigflkac.Hand Go.Proofs.YtgjclhhjigflkacW.PrintWords Go.Proofs.YtgjclhhjigflkacW.PrintLast Go.Proofs.YtgjclhhjigflkacW.PrintMore
set_option linter.unusedVariables false
def schema_Take.f (k : Nat) (a0 : ByteArray) : Option (List Tab × Int × Int) := if a0.size ≤ 1000000000 then some (takeP a0) else none
theorem schema_Take.mono : ∀ a0 k, LeO (schema_Take.f k a0) (schema_Take.f (k + 1) a0) := fun _ _ => LeO.refl _
theorem schema_Take.calls (k : Nat) (a0 : ByteArray) (r1 : List Tab) (r2 r3 : Int) (w : World) (h : schema_Take.f k a0 = some (r1, r2, r3)) :
    Calls Try.prog 28 #[.string a0] w fun e w' => ∃ v0_ : Value, e = .returned (.tuple #[v0_, .int .i64 r2, .int .i64 r3]) ∧ Kd.N kT TT w' w.heap.size (fun k_ => w.heap.size ≤ k_) v0_ r1 ∧ Below w.heap.size w w' := by
  unfold schema_Take.f at h
  split at h
  case isFalse => cases h
  case isTrue hc =>
    injection h with h
    have hh := take_calls a0 hc w
    rw [h] at hh
    exact hh
end Go.Proofs.Ytgjclhhjigflkac.C
