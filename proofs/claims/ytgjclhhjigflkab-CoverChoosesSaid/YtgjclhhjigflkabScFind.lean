/- The walks of slices.IndexFunc and ContainsFunc: whatever the function value, if it answers. (Written by gensc.py.) -/
import Derived.Test.YtgjclhhjigflkabProg
import Derived.Test.YtgjclhhjigflkabScPlain
import Derived.Outline
namespace Go.Proofs.Ytgjclhhjigflkab.Sc
open Go Go.RowKit Go.Proofs.Ytgjclhhjigflkab.C Go.Proofs.Ytgjclhhjigflkab.MyWords Go.Proofs.Ytgjclhhjigflkab.Hand Go.Proofs.YtgjclhhjigflkabW.PrintWords Go.Proofs.YtgjclhhjigflkabW.PrintLast Go.Proofs.YtgjclhhjigflkabW.PrintMore
set_option linter.unusedVariables false
set_option linter.unusedSimpArgs false
theorem idxF_any {α : Type} (p : α → Bool) (l : List α) : decide (0 ≤ idxF p l 0) = l.any p := by
  rcases idxF_range p l 0 with ⟨h1, h2⟩ | ⟨i, hi, h1, h2, h3⟩
  · rw [h1]
    have : l.any p = false := by simpa using h2
    rw [this]
    rfl
  · have : l.any p = true := List.any_eq_true.2 ⟨l[i], List.getElem_mem hi, h2⟩
    rw [h1, this]
    simp
set_option maxHeartbeats 1000000 in
set_option maxRecDepth 100000 in
theorem index_table (fv : Value) (p : Tab → Bool) (A0 : Option Addr) (c0 : Nat) (l0 : List Tab) (r : Int) (w : World) (hr0 : Kd.C kT w A0 l0.length l0) (hc0 : l0.length ≤ c0) (hl : l0.length ≤ 9223372036854775806)
    (hcl : ∀ (i : Nat) (hi : i < l0.length) (c : List Value) (w1 : World), Below w.heap.size w w1 → c.length = kT.sz → kT.K w1 l0[i] c → CallsV Try.prog fv #[.agg c.toArray] w1 fun e w2 => e = .returned (.bool (p l0[i])) ∧ Below w1.heap.size w1 w2)
    (h : idxF p l0 0 = r) :
    Calls Try.prog 149 #[.slice A0 l0.length c0, fv] w fun e w' => e = .returned (.int .i64 r) ∧ Below w.heap.size w w' := by
  have HR0 := Aside0.mk hr0
  have HC0 := Aside0.mk hc0
  have HCL := Aside0.mk hcl
  have HE : Aside0 (idxF p (l0.drop 0) 0 = r) := ⟨by rw [List.drop_zero]; exact h⟩
  clear hr0 hc0 h hcl
  go_enter Try.func149, Try.ntmps149
  go_wp2
  go_loopw [8] (fun v8 wr => ∃ k : Nat, v8 = .int .i64 (k : Int) ∧ k ≤ l0.length ∧ Aside0 (idxF p (l0.drop k) k = r) ∧ Aside0 (Below w.heap.size w wr)) (fun v8 _ => l0.length - (intOf v8).toNat)
  case atStart => exact ⟨0, rfl, by omega, HE, ⟨Below.refl _ _⟩⟩
  case round =>
    obtain ⟨k, rfl, hk, HF, HB⟩ := hrel
    by_cases hlt : k < l0.length
    ·
      obtain ⟨ad, c, hA, hcl, hK, hcc⟩ := at_cells (Kd.C_below HR0.out HB.out) k hlt
      subst hA
      have HCC := Aside0.mk hcc
      have HL := Aside0.mk hcl
      have HKk := Aside0.mk hK
      have HCW := Aside0.mk (fun w1 hb => HCL.out k hlt c w1 (below_step HB.out hb) hcl (kT.K_below hb hK))
      have hmem := List.getElem_mem hlt
      clear hcc hcl hK
      obtain ⟨x, hx⟩ : ∃ x, l0[k] = x := ⟨_, rfl⟩
      rw [hx] at HCW hmem HKk
      have HCV := Aside0.mk (HCW.out wr (Below.refl _ _))
      have hF2 := HF.out
      rw [idxF_drop p l0 k hlt, hx] at hF2
      have HF2 := Aside0.mk hF2
      clear hF2 hx HCW
      obtain ⟨b, hb⟩ : ∃ b, p x = b := ⟨_, rfl⟩
      rw [hb] at HCV HF2
      clear hb
      cases b with
      | true =>
        go_wp2_with (first | (refine load_event rfl 63 (.tmp 14) rfl (ad.add (k * kT.sz)) ?e1 c HCC.out _ Try.underlying63 rfl (by rw [HL.out]; kernel_rfl) ?_; (case e1 => first | rfl | (go_simp; done) | (go_simp; rfl))) | (refine callsV_event rfl 16 rfl (.tmp 11) [.tmp 15] #[63] rfl fv rfl [.agg c.toArray] rfl ?_; obtain ⟨f, caps, fn, h1, h2, h3, h4, h5⟩ := HCV.out; refine ⟨f, caps, fn, h1, h2, h3, h4, h5.mono ?_⟩; rintro e w2 ⟨rfl, hb2⟩; refine ⟨_, rfl, ?_⟩; have HB2 := Aside0.mk hb2; clear hb2 h1 h2 h3 h4 h5))
        go_ret
        refine ⟨?_, below_step HB.out HB2.out⟩
        have := HF2.out
        rw [← this]
        simp
      | false =>
        go_wp2_with (first | (refine load_event rfl 63 (.tmp 14) rfl (ad.add (k * kT.sz)) ?e1 c HCC.out _ Try.underlying63 rfl (by rw [HL.out]; kernel_rfl) ?_; (case e1 => first | rfl | (go_simp; done) | (go_simp; rfl))) | (refine callsV_event rfl 16 rfl (.tmp 11) [.tmp 15] #[63] rfl fv rfl [.agg c.toArray] rfl ?_; obtain ⟨f, caps, fn, h1, h2, h3, h4, h5⟩ := HCV.out; refine ⟨f, caps, fn, h1, h2, h3, h4, h5.mono ?_⟩; rintro e w2 ⟨rfl, hb2⟩; refine ⟨_, rfl, ?_⟩; have HB2 := Aside0.mk hb2; clear hb2 h1 h2 h3 h4 h5))
        refine ⟨⟨k + 1, by simp, by omega, ⟨?_⟩, ⟨below_step HB.out HB2.out⟩⟩, by simp [intOf]; omega⟩
        have := HF2.out
        simpa using this
    · have hend : r = -1 := by
        have := HF.out
        rw [List.drop_of_length_le (by omega), idxF] at this
        exact this.symm
      subst hend
      go_wp2
      go_ret
      exact ⟨rfl, HB.out⟩
theorem contains_table (fv : Value) (p : Tab → Bool) (A0 : Option Addr) (c0 : Nat) (l0 : List Tab) (w : World) (hr0 : Kd.C kT w A0 l0.length l0) (hc0 : l0.length ≤ c0) (hl : l0.length ≤ 9223372036854775806)
    (hcl : ∀ (i : Nat) (hi : i < l0.length) (c : List Value) (w1 : World), Below w.heap.size w w1 → c.length = kT.sz → kT.K w1 l0[i] c → CallsV Try.prog fv #[.agg c.toArray] w1 fun e w2 => e = .returned (.bool (p l0[i])) ∧ Below w1.heap.size w1 w2) :
    Calls Try.prog 116 #[.slice A0 l0.length c0, fv] w fun e w' => e = .returned (.bool (l0.any p)) ∧ Below w.heap.size w w' := by
  obtain ⟨r, hr⟩ : ∃ r, idxF p l0 0 = r := ⟨_, rfl⟩
  have H := Aside0.mk (index_table fv p A0 c0 l0 r w hr0 hc0 hl hcl hr)
  have ha := idxF_any p l0
  rw [hr] at ha
  have HA := Aside0.mk ha
  clear hr0 hc0 hcl hr ha
  go_enter Try.func116, Try.ntmps116
  go_wp2_with (first | (go_at_call 149; (with_reducible refine H.out.mono ?_); rintro e w1 ⟨rfl, hb⟩; have HB := Aside0.mk hb; clear hb))
  go_ret
  exact ⟨by rw [← HA.out]; rfl, HB.out⟩
set_option maxHeartbeats 1000000 in
set_option maxRecDepth 100000 in
theorem index_col (fv : Value) (p : Col → Bool) (A0 : Option Addr) (c0 : Nat) (l0 : List Col) (r : Int) (w : World) (hr0 : Kd.C kC w A0 l0.length l0) (hc0 : l0.length ≤ c0) (hl : l0.length ≤ 9223372036854775806)
    (hcl : ∀ (i : Nat) (hi : i < l0.length) (c : List Value) (w1 : World), Below w.heap.size w w1 → c.length = kC.sz → kC.K w1 l0[i] c → CallsV Try.prog fv #[.agg c.toArray] w1 fun e w2 => e = .returned (.bool (p l0[i])) ∧ Below w1.heap.size w1 w2)
    (h : idxF p l0 0 = r) :
    Calls Try.prog 174 #[.slice A0 l0.length c0, fv] w fun e w' => e = .returned (.int .i64 r) ∧ Below w.heap.size w w' := by
  have HR0 := Aside0.mk hr0
  have HC0 := Aside0.mk hc0
  have HCL := Aside0.mk hcl
  have HE : Aside0 (idxF p (l0.drop 0) 0 = r) := ⟨by rw [List.drop_zero]; exact h⟩
  clear hr0 hc0 h hcl
  go_enter Try.func174, Try.ntmps174
  go_wp2
  go_loopw [8] (fun v8 wr => ∃ k : Nat, v8 = .int .i64 (k : Int) ∧ k ≤ l0.length ∧ Aside0 (idxF p (l0.drop k) k = r) ∧ Aside0 (Below w.heap.size w wr)) (fun v8 _ => l0.length - (intOf v8).toNat)
  case atStart => exact ⟨0, rfl, by omega, HE, ⟨Below.refl _ _⟩⟩
  case round =>
    obtain ⟨k, rfl, hk, HF, HB⟩ := hrel
    by_cases hlt : k < l0.length
    ·
      obtain ⟨ad, c, hA, hcl, hK, hcc⟩ := at_cells (Kd.C_below HR0.out HB.out) k hlt
      subst hA
      have HCC := Aside0.mk hcc
      have HL := Aside0.mk hcl
      have HKk := Aside0.mk hK
      have HCW := Aside0.mk (fun w1 hb => HCL.out k hlt c w1 (below_step HB.out hb) hcl (kC.K_below hb hK))
      have hmem := List.getElem_mem hlt
      clear hcc hcl hK
      obtain ⟨x, hx⟩ : ∃ x, l0[k] = x := ⟨_, rfl⟩
      rw [hx] at HCW hmem HKk
      have HCV := Aside0.mk (HCW.out wr (Below.refl _ _))
      have hF2 := HF.out
      rw [idxF_drop p l0 k hlt, hx] at hF2
      have HF2 := Aside0.mk hF2
      clear hF2 hx HCW
      obtain ⟨b, hb⟩ : ∃ b, p x = b := ⟨_, rfl⟩
      rw [hb] at HCV HF2
      clear hb
      cases b with
      | true =>
        go_wp2_with (first | (refine load_event rfl 177 (.tmp 14) rfl (ad.add (k * kC.sz)) ?e1 c HCC.out _ Try.underlying177 rfl (by rw [HL.out]; kernel_rfl) ?_; (case e1 => first | rfl | (go_simp; done) | (go_simp; rfl))) | (refine callsV_event rfl 16 rfl (.tmp 11) [.tmp 15] #[177] rfl fv rfl [.agg c.toArray] rfl ?_; obtain ⟨f, caps, fn, h1, h2, h3, h4, h5⟩ := HCV.out; refine ⟨f, caps, fn, h1, h2, h3, h4, h5.mono ?_⟩; rintro e w2 ⟨rfl, hb2⟩; refine ⟨_, rfl, ?_⟩; have HB2 := Aside0.mk hb2; clear hb2 h1 h2 h3 h4 h5))
        go_ret
        refine ⟨?_, below_step HB.out HB2.out⟩
        have := HF2.out
        rw [← this]
        simp
      | false =>
        go_wp2_with (first | (refine load_event rfl 177 (.tmp 14) rfl (ad.add (k * kC.sz)) ?e1 c HCC.out _ Try.underlying177 rfl (by rw [HL.out]; kernel_rfl) ?_; (case e1 => first | rfl | (go_simp; done) | (go_simp; rfl))) | (refine callsV_event rfl 16 rfl (.tmp 11) [.tmp 15] #[177] rfl fv rfl [.agg c.toArray] rfl ?_; obtain ⟨f, caps, fn, h1, h2, h3, h4, h5⟩ := HCV.out; refine ⟨f, caps, fn, h1, h2, h3, h4, h5.mono ?_⟩; rintro e w2 ⟨rfl, hb2⟩; refine ⟨_, rfl, ?_⟩; have HB2 := Aside0.mk hb2; clear hb2 h1 h2 h3 h4 h5))
        refine ⟨⟨k + 1, by simp, by omega, ⟨?_⟩, ⟨below_step HB.out HB2.out⟩⟩, by simp [intOf]; omega⟩
        have := HF2.out
        simpa using this
    · have hend : r = -1 := by
        have := HF.out
        rw [List.drop_of_length_le (by omega), idxF] at this
        exact this.symm
      subst hend
      go_wp2
      go_ret
      exact ⟨rfl, HB.out⟩
theorem contains_col (fv : Value) (p : Col → Bool) (A0 : Option Addr) (c0 : Nat) (l0 : List Col) (w : World) (hr0 : Kd.C kC w A0 l0.length l0) (hc0 : l0.length ≤ c0) (hl : l0.length ≤ 9223372036854775806)
    (hcl : ∀ (i : Nat) (hi : i < l0.length) (c : List Value) (w1 : World), Below w.heap.size w w1 → c.length = kC.sz → kC.K w1 l0[i] c → CallsV Try.prog fv #[.agg c.toArray] w1 fun e w2 => e = .returned (.bool (p l0[i])) ∧ Below w1.heap.size w1 w2) :
    Calls Try.prog 168 #[.slice A0 l0.length c0, fv] w fun e w' => e = .returned (.bool (l0.any p)) ∧ Below w.heap.size w w' := by
  obtain ⟨r, hr⟩ : ∃ r, idxF p l0 0 = r := ⟨_, rfl⟩
  have H := Aside0.mk (index_col fv p A0 c0 l0 r w hr0 hc0 hl hcl hr)
  have ha := idxF_any p l0
  rw [hr] at ha
  have HA := Aside0.mk ha
  clear hr0 hc0 hcl hr ha
  go_enter Try.func168, Try.ntmps168
  go_wp2_with (first | (go_at_call 174; (with_reducible refine H.out.mono ?_); rintro e w1 ⟨rfl, hb⟩; have HB := Aside0.mk hb; clear hb))
  go_ret
  exact ⟨by rw [← HA.out]; rfl, HB.out⟩
set_option maxHeartbeats 1000000 in
set_option maxRecDepth 100000 in
theorem index_proj (fv : Value) (p : Prj → Bool) (A0 : Option Addr) (c0 : Nat) (l0 : List Prj) (r : Int) (w : World) (hr0 : Kd.C kP w A0 l0.length l0) (hc0 : l0.length ≤ c0) (hl : l0.length ≤ 9223372036854775806)
    (hcl : ∀ (i : Nat) (hi : i < l0.length) (c : List Value) (w1 : World), Below w.heap.size w w1 → c.length = kP.sz → kP.K w1 l0[i] c → CallsV Try.prog fv #[.agg c.toArray] w1 fun e w2 => e = .returned (.bool (p l0[i])) ∧ Below w1.heap.size w1 w2)
    (h : idxF p l0 0 = r) :
    Calls Try.prog 123 #[.slice A0 l0.length c0, fv] w fun e w' => e = .returned (.int .i64 r) ∧ Below w.heap.size w w' := by
  have HR0 := Aside0.mk hr0
  have HC0 := Aside0.mk hc0
  have HCL := Aside0.mk hcl
  have HE : Aside0 (idxF p (l0.drop 0) 0 = r) := ⟨by rw [List.drop_zero]; exact h⟩
  clear hr0 hc0 h hcl
  go_enter Try.func123, Try.ntmps123
  go_wp2
  go_loopw [8] (fun v8 wr => ∃ k : Nat, v8 = .int .i64 (k : Int) ∧ k ≤ l0.length ∧ Aside0 (idxF p (l0.drop k) k = r) ∧ Aside0 (Below w.heap.size w wr)) (fun v8 _ => l0.length - (intOf v8).toNat)
  case atStart => exact ⟨0, rfl, by omega, HE, ⟨Below.refl _ _⟩⟩
  case round =>
    obtain ⟨k, rfl, hk, HF, HB⟩ := hrel
    by_cases hlt : k < l0.length
    ·
      obtain ⟨ad, c, hA, hcl, hK, hcc⟩ := at_cells (Kd.C_below HR0.out HB.out) k hlt
      subst hA
      have HCC := Aside0.mk hcc
      have HL := Aside0.mk hcl
      have HKk := Aside0.mk hK
      have HCW := Aside0.mk (fun w1 hb => HCL.out k hlt c w1 (below_step HB.out hb) hcl (kP.K_below hb hK))
      have hmem := List.getElem_mem hlt
      clear hcc hcl hK
      obtain ⟨x, hx⟩ : ∃ x, l0[k] = x := ⟨_, rfl⟩
      rw [hx] at HCW hmem HKk
      have HCV := Aside0.mk (HCW.out wr (Below.refl _ _))
      have hF2 := HF.out
      rw [idxF_drop p l0 k hlt, hx] at hF2
      have HF2 := Aside0.mk hF2
      clear hF2 hx HCW
      obtain ⟨b, hb⟩ : ∃ b, p x = b := ⟨_, rfl⟩
      rw [hb] at HCV HF2
      clear hb
      cases b with
      | true =>
        go_wp2_with (first | (refine load_event rfl 138 (.tmp 14) rfl (ad.add (k * kP.sz)) ?e1 c HCC.out _ Try.underlying138 rfl (by rw [HL.out]; kernel_rfl) ?_; (case e1 => first | rfl | (go_simp; done) | (go_simp; rfl))) | (refine callsV_event rfl 16 rfl (.tmp 11) [.tmp 15] #[138] rfl fv rfl [.agg c.toArray] rfl ?_; obtain ⟨f, caps, fn, h1, h2, h3, h4, h5⟩ := HCV.out; refine ⟨f, caps, fn, h1, h2, h3, h4, h5.mono ?_⟩; rintro e w2 ⟨rfl, hb2⟩; refine ⟨_, rfl, ?_⟩; have HB2 := Aside0.mk hb2; clear hb2 h1 h2 h3 h4 h5))
        go_ret
        refine ⟨?_, below_step HB.out HB2.out⟩
        have := HF2.out
        rw [← this]
        simp
      | false =>
        go_wp2_with (first | (refine load_event rfl 138 (.tmp 14) rfl (ad.add (k * kP.sz)) ?e1 c HCC.out _ Try.underlying138 rfl (by rw [HL.out]; kernel_rfl) ?_; (case e1 => first | rfl | (go_simp; done) | (go_simp; rfl))) | (refine callsV_event rfl 16 rfl (.tmp 11) [.tmp 15] #[138] rfl fv rfl [.agg c.toArray] rfl ?_; obtain ⟨f, caps, fn, h1, h2, h3, h4, h5⟩ := HCV.out; refine ⟨f, caps, fn, h1, h2, h3, h4, h5.mono ?_⟩; rintro e w2 ⟨rfl, hb2⟩; refine ⟨_, rfl, ?_⟩; have HB2 := Aside0.mk hb2; clear hb2 h1 h2 h3 h4 h5))
        refine ⟨⟨k + 1, by simp, by omega, ⟨?_⟩, ⟨below_step HB.out HB2.out⟩⟩, by simp [intOf]; omega⟩
        have := HF2.out
        simpa using this
    · have hend : r = -1 := by
        have := HF.out
        rw [List.drop_of_length_le (by omega), idxF] at this
        exact this.symm
      subst hend
      go_wp2
      go_ret
      exact ⟨rfl, HB.out⟩
theorem contains_proj (fv : Value) (p : Prj → Bool) (A0 : Option Addr) (c0 : Nat) (l0 : List Prj) (w : World) (hr0 : Kd.C kP w A0 l0.length l0) (hc0 : l0.length ≤ c0) (hl : l0.length ≤ 9223372036854775806)
    (hcl : ∀ (i : Nat) (hi : i < l0.length) (c : List Value) (w1 : World), Below w.heap.size w w1 → c.length = kP.sz → kP.K w1 l0[i] c → CallsV Try.prog fv #[.agg c.toArray] w1 fun e w2 => e = .returned (.bool (p l0[i])) ∧ Below w1.heap.size w1 w2) :
    Calls Try.prog 150 #[.slice A0 l0.length c0, fv] w fun e w' => e = .returned (.bool (l0.any p)) ∧ Below w.heap.size w w' := by
  obtain ⟨r, hr⟩ : ∃ r, idxF p l0 0 = r := ⟨_, rfl⟩
  have H := Aside0.mk (index_proj fv p A0 c0 l0 r w hr0 hc0 hl hcl hr)
  have ha := idxF_any p l0
  rw [hr] at ha
  have HA := Aside0.mk ha
  clear hr0 hc0 hcl hr ha
  go_enter Try.func150, Try.ntmps150
  go_wp2_with (first | (go_at_call 123; (with_reducible refine H.out.mono ?_); rintro e w1 ⟨rfl, hb⟩; have HB := Aside0.mk hb; clear hb))
  go_ret
  exact ⟨by rw [← HA.out]; rfl, HB.out⟩
set_option maxHeartbeats 1000000 in
set_option maxRecDepth 100000 in
theorem index_int (fv : Value) (p : Int → Bool) (A0 : Option Addr) (c0 : Nat) (l0 : List Int) (r : Int) (w : World) (hr0 : Kd.C (Kd.int .i64) w A0 l0.length l0) (hc0 : l0.length ≤ c0) (hl : l0.length ≤ 9223372036854775806)
    (hcl : ∀ (i : Nat) (hi : i < l0.length) (w1 : World), Below w.heap.size w w1 → CallsV Try.prog fv #[.int .i64 l0[i]] w1 fun e w2 => e = .returned (.bool (p l0[i])) ∧ Below w1.heap.size w1 w2)
    (h : idxF p l0 0 = r) :
    Calls Try.prog 80 #[.slice A0 l0.length c0, fv] w fun e w' => e = .returned (.int .i64 r) ∧ Below w.heap.size w w' := by
  have HR0 := Aside0.mk hr0
  have HC0 := Aside0.mk hc0
  have HCL := Aside0.mk hcl
  have HE : Aside0 (idxF p (l0.drop 0) 0 = r) := ⟨by rw [List.drop_zero]; exact h⟩
  clear hr0 hc0 h hcl
  go_enter Try.func80, Try.ntmps80
  go_wp2
  go_loopw [8] (fun v8 wr => ∃ k : Nat, v8 = .int .i64 (k : Int) ∧ k ≤ l0.length ∧ Aside0 (idxF p (l0.drop k) k = r) ∧ Aside0 (Below w.heap.size w wr)) (fun v8 _ => l0.length - (intOf v8).toNat)
  case atStart => exact ⟨0, rfl, by omega, HE, ⟨Below.refl _ _⟩⟩
  case round =>
    obtain ⟨k, rfl, hk, HF, HB⟩ := hrel
    by_cases hlt : k < l0.length
    ·
      obtain ⟨ad, hA, hcell⟩ := Kd.at_int (Kd.C_below HR0.out HB.out) (k : Int) (by omega) (by omega)
      subst hA
      have hrd : rd l0 (k : Int) = l0[k] := by
        unfold rd
        rw [Int.toNat_natCast, List.getD_eq_getElem?_getD, List.getElem?_eq_getElem hlt]
        rfl
      rw [hrd, Int.toNat_natCast] at hcell
      have HCW := Aside0.mk (HCL.out k hlt wr HB.out)
      have hmem := List.getElem_mem hlt
      obtain ⟨x, hx⟩ : ∃ x, l0[k] = x := ⟨_, rfl⟩
      rw [hx] at hcell HCW hmem
      have HCV := Aside0.mk HCW.out
      have hF2 := HF.out
      rw [idxF_drop p l0 k hlt, hx] at hF2
      have HF2 := Aside0.mk hF2
      clear hF2 hx HCW
      obtain ⟨b, hb⟩ : ∃ b, p x = b := ⟨_, rfl⟩
      rw [hb] at HCV HF2
      clear hb
      cases b with
      | true =>
        go_wp2_with (first | (refine callsV_event rfl 16 rfl (.tmp 11) [.tmp 15] #[3] rfl fv rfl [.int .i64 x] rfl ?_; obtain ⟨f, caps, fn, h1, h2, h3, h4, h5⟩ := HCV.out; refine ⟨f, caps, fn, h1, h2, h3, h4, h5.mono ?_⟩; rintro e w2 ⟨rfl, hb2⟩; refine ⟨_, rfl, ?_⟩; have HB2 := Aside0.mk hb2; clear hb2 h1 h2 h3 h4 h5))
        go_ret
        refine ⟨?_, below_step HB.out HB2.out⟩
        have := HF2.out
        rw [← this]
        simp
      | false =>
        go_wp2_with (first | (refine callsV_event rfl 16 rfl (.tmp 11) [.tmp 15] #[3] rfl fv rfl [.int .i64 x] rfl ?_; obtain ⟨f, caps, fn, h1, h2, h3, h4, h5⟩ := HCV.out; refine ⟨f, caps, fn, h1, h2, h3, h4, h5.mono ?_⟩; rintro e w2 ⟨rfl, hb2⟩; refine ⟨_, rfl, ?_⟩; have HB2 := Aside0.mk hb2; clear hb2 h1 h2 h3 h4 h5))
        refine ⟨⟨k + 1, by simp, by omega, ⟨?_⟩, ⟨below_step HB.out HB2.out⟩⟩, by simp [intOf]; omega⟩
        have := HF2.out
        simpa using this
    · have hend : r = -1 := by
        have := HF.out
        rw [List.drop_of_length_le (by omega), idxF] at this
        exact this.symm
      subst hend
      go_wp2
      go_ret
      exact ⟨rfl, HB.out⟩
theorem contains_int (fv : Value) (p : Int → Bool) (A0 : Option Addr) (c0 : Nat) (l0 : List Int) (w : World) (hr0 : Kd.C (Kd.int .i64) w A0 l0.length l0) (hc0 : l0.length ≤ c0) (hl : l0.length ≤ 9223372036854775806)
    (hcl : ∀ (i : Nat) (hi : i < l0.length) (w1 : World), Below w.heap.size w w1 → CallsV Try.prog fv #[.int .i64 l0[i]] w1 fun e w2 => e = .returned (.bool (p l0[i])) ∧ Below w1.heap.size w1 w2) :
    Calls Try.prog 121 #[.slice A0 l0.length c0, fv] w fun e w' => e = .returned (.bool (l0.any p)) ∧ Below w.heap.size w w' := by
  obtain ⟨r, hr⟩ : ∃ r, idxF p l0 0 = r := ⟨_, rfl⟩
  have H := Aside0.mk (index_int fv p A0 c0 l0 r w hr0 hc0 hl hcl hr)
  have ha := idxF_any p l0
  rw [hr] at ha
  have HA := Aside0.mk ha
  clear hr0 hc0 hcl hr ha
  go_enter Try.func121, Try.ntmps121
  go_wp2_with (first | (go_at_call 80; (with_reducible refine H.out.mono ?_); rintro e w1 ⟨rfl, hb⟩; have HB := Aside0.mk hb; clear hb))
  go_ret
  exact ⟨by rw [← HA.out]; rfl, HB.out⟩
end Go.Proofs.Ytgjclhhjigflkab.Sc
