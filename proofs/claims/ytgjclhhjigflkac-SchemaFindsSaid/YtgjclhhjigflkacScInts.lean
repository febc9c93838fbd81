import Derived.Test.YtgjclhhjigflkacCx1
import Derived.Test.YtgjclhhjigflkacHand
import Derived.Test.YtgjclhhjigflkacProg
import Derived.Outline
import Derived.Maps.OwnOps
import Derived.Maps.Views
import Derived.Test.YtgjclhhjigflkacMyWords
import Derived.Test.YtgjclhhjigflkacWWords
import Derived.Test.YtgjclhhjigflkacCx13
/- Tables, plain: which names, columns, projections and tables may be. -/
namespace Go.Proofs.Ytgjclhhjigflkac.Sc
open Go Go.RowKit Go.Proofs.Ytgjclhhjigflkac.C Go.Proofs.Ytgjclhhjigflkac.Hand Go.Proofs.YtgjclhhjigflkacW.PrintWords
set_option linter.unusedVariables false
set_option linter.unusedSimpArgs false
abbrev Tab := S47
abbrev Col := S96
abbrev Prj := S52
abbrev kT := k47
abbrev kC := k96
abbrev kP := k52
abbrev TT : Nat := 47
abbrev TC : Nat := 96
abbrev TP : Nat := 52
/-- may a byte stand there in a name? -/
def okc (k : Nat) (c : Int) : Bool := decide (97 ≤ c ∧ c ≤ 122) || (!decide (k = 0) && (decide (c = 95) || decide (48 ≤ c ∧ c ≤ 57)))
def okAll (s : ByteArray) : Bool := (List.range s.size).all fun (i : Nat) => okc i (bt s (i : Int))
def nameP (s : ByteArray) : Bool := okAll s && decide (1 ≤ s.size) && decide (s.size ≤ 16)
def onceP {α : Type} [DecidableEq α] (l : List α) : Bool := decide l.Nodup
def colP (c : Col) : Bool := nameP c.f0 && (decide (c.f1 = 1) || decide (c.f1 = 2))
def colsP (l : List Col) : Bool := l.all colP && decide (1 ≤ l.length) && decide (l.length ≤ 8) && onceP (l.map (·.f0))
def inP (n : Int) (c : Int) : Bool := decide (0 ≤ c ∧ c < n)
def projP (p : Prj) (n : Int) : Bool := p.f1.all (inP n) && nameP p.f0 && decide (1 ≤ p.f1.length) && decide ((p.f1.length : Int) ≤ n) && decide (0 ≤ p.f2) && decide (p.f2 ≤ p.f1.length) && onceP p.f1
def superP (t : Tab) (p : Prj) : Bool := (List.range t.f1.length).all (fun (c : Nat) => decide ((c : Int) ∈ p.f1)) && decide (p.f1.length = t.f1.length)
def mayP (t : Tab) : Bool := t.f2.all (fun p => projP p t.f1.length) && nameP t.f0 && colsP t.f1 && t.f2.any (superP t) && decide (t.f2.length ≤ 6) && onceP (t.f2.map (·.f0))
def checkP (l : List Tab) : Bool := l.all mayP && decide (l.length ≤ 8) && onceP (l.map (·.f0))
theorem nameP_size {s : ByteArray} (h : nameP s = true) : s.size ≤ 16 := by
  unfold nameP at h
  simp only [Bool.and_eq_true, decide_eq_true_eq] at h
  exact h.2
theorem any_not {α : Type} (p : α → Bool) (l : List α) : l.any (fun x => !p x) = !l.all p := by
  induction l with
  | nil => rfl
  | cons x l ih => simp [ih]
end Go.Proofs.Ytgjclhhjigflkac.Sc

/- The walks of slices.IndexFunc and ContainsFunc: whatever the function value, if it answers. (Written by gensc.py.) -/
namespace Go.Proofs.Ytgjclhhjigflkac.Sc
open Go Go.RowKit Go.Proofs.Ytgjclhhjigflkac.C Go.Proofs.Ytgjclhhjigflkac.MyWords Go.Proofs.Ytgjclhhjigflkac.Hand Go.Proofs.YtgjclhhjigflkacW.PrintWords Go.Proofs.YtgjclhhjigflkacW.PrintLast Go.Proofs.YtgjclhhjigflkacW.PrintMore
set_option linter.unusedVariables false
set_option linter.unusedSimpArgs false
theorem idxF_any {α : Type} (p : α → Bool) (l : List α) : decide (0 ≤ idxF p l 0) = l.any p := by
  rcases idxF_range p l 0 with ⟨h1, h2⟩ | ⟨i, hi, h1, h2, h3⟩
  · rw [h1]
    have : l.any p = false := by simpa using h2
    rw [this]
    rfl
  · have : l.any p = true := List.any_eq_true.2 ⟨l[i], List.getElem_mem hi, h2⟩
    rw [h1, this]
    simp
set_option maxHeartbeats 1000000 in
set_option maxRecDepth 100000 in
theorem index_table (fv : Value) (p : Tab → Bool) (A0 : Option Addr) (c0 : Nat) (l0 : List Tab) (r : Int) (w : World) (hr0 : Kd.C kT w A0 l0.length l0) (hc0 : l0.length ≤ c0) (hl : l0.length ≤ 9223372036854775806)
    (hcl : ∀ (i : Nat) (hi : i < l0.length) (c : List Value) (w1 : World), Below w.heap.size w w1 → c.length = kT.sz → kT.K w1 l0[i] c → CallsV Try.prog fv #[.agg c.toArray] w1 fun e w2 => e = .returned (.bool (p l0[i])) ∧ Below w1.heap.size w1 w2)
    (h : idxF p l0 0 = r) :
    Calls Try.prog 73 #[.slice A0 l0.length c0, fv] w fun e w' => e = .returned (.int .i64 r) ∧ Below w.heap.size w w' := by
  have HR0 := Aside0.mk hr0
  have HC0 := Aside0.mk hc0
  have HCL := Aside0.mk hcl
  have HE : Aside0 (idxF p (l0.drop 0) 0 = r) := ⟨by rw [List.drop_zero]; exact h⟩
  clear hr0 hc0 h hcl
  go_enter Try.func73, Try.ntmps73
  go_wp2
  go_loopw [8] (fun v8 wr => ∃ k : Nat, v8 = .int .i64 (k : Int) ∧ k ≤ l0.length ∧ Aside0 (idxF p (l0.drop k) k = r) ∧ Aside0 (Below w.heap.size w wr)) (fun v8 _ => l0.length - (intOf v8).toNat)
  case atStart => exact ⟨0, rfl, by omega, HE, ⟨Below.refl _ _⟩⟩
  case round =>
    obtain ⟨k, rfl, hk, HF, HB⟩ := hrel
    by_cases hlt : k < l0.length
    ·
      obtain ⟨ad, c, hA, hcl, hK, hcc⟩ := at_cells (Kd.C_below HR0.out HB.out) k hlt
      subst hA
      have HCC := Aside0.mk hcc
      have HL := Aside0.mk hcl
      have HKk := Aside0.mk hK
      have HCW := Aside0.mk (fun w1 hb => HCL.out k hlt c w1 (below_step HB.out hb) hcl (kT.K_below hb hK))
      have hmem := List.getElem_mem hlt
      clear hcc hcl hK
      obtain ⟨x, hx⟩ : ∃ x, l0[k] = x := ⟨_, rfl⟩
      rw [hx] at HCW hmem HKk
      have HCV := Aside0.mk (HCW.out wr (Below.refl _ _))
      have hF2 := HF.out
      rw [idxF_drop p l0 k hlt, hx] at hF2
      have HF2 := Aside0.mk hF2
      clear hF2 hx HCW
      obtain ⟨b, hb⟩ : ∃ b, p x = b := ⟨_, rfl⟩
      rw [hb] at HCV HF2
      clear hb
      cases b with
      | true =>
        go_wp2_with (first | (refine load_event rfl 47 (.tmp 14) rfl (ad.add (k * kT.sz)) ?e1 c HCC.out _ Try.underlying47 rfl (by rw [HL.out]; kernel_rfl) ?_; (case e1 => first | rfl | (go_simp; done) | (go_simp; rfl))) | (refine callsV_event rfl 16 rfl (.tmp 11) [.tmp 15] #[47] rfl fv rfl [.agg c.toArray] rfl ?_; obtain ⟨f, caps, fn, h1, h2, h3, h4, h5⟩ := HCV.out; refine ⟨f, caps, fn, h1, h2, h3, h4, h5.mono ?_⟩; rintro e w2 ⟨rfl, hb2⟩; refine ⟨_, rfl, ?_⟩; have HB2 := Aside0.mk hb2; clear hb2 h1 h2 h3 h4 h5))
        go_ret
        refine ⟨?_, below_step HB.out HB2.out⟩
        have := HF2.out
        rw [← this]
        simp
      | false =>
        go_wp2_with (first | (refine load_event rfl 47 (.tmp 14) rfl (ad.add (k * kT.sz)) ?e1 c HCC.out _ Try.underlying47 rfl (by rw [HL.out]; kernel_rfl) ?_; (case e1 => first | rfl | (go_simp; done) | (go_simp; rfl))) | (refine callsV_event rfl 16 rfl (.tmp 11) [.tmp 15] #[47] rfl fv rfl [.agg c.toArray] rfl ?_; obtain ⟨f, caps, fn, h1, h2, h3, h4, h5⟩ := HCV.out; refine ⟨f, caps, fn, h1, h2, h3, h4, h5.mono ?_⟩; rintro e w2 ⟨rfl, hb2⟩; refine ⟨_, rfl, ?_⟩; have HB2 := Aside0.mk hb2; clear hb2 h1 h2 h3 h4 h5))
        refine ⟨⟨k + 1, by simp, by omega, ⟨?_⟩, ⟨below_step HB.out HB2.out⟩⟩, by simp [intOf]; omega⟩
        have := HF2.out
        simpa using this
    · have hend : r = -1 := by
        have := HF.out
        rw [List.drop_of_length_le (by omega), idxF] at this
        exact this.symm
      subst hend
      go_wp2
      go_ret
      exact ⟨rfl, HB.out⟩
theorem contains_table (fv : Value) (p : Tab → Bool) (A0 : Option Addr) (c0 : Nat) (l0 : List Tab) (w : World) (hr0 : Kd.C kT w A0 l0.length l0) (hc0 : l0.length ≤ c0) (hl : l0.length ≤ 9223372036854775806)
    (hcl : ∀ (i : Nat) (hi : i < l0.length) (c : List Value) (w1 : World), Below w.heap.size w w1 → c.length = kT.sz → kT.K w1 l0[i] c → CallsV Try.prog fv #[.agg c.toArray] w1 fun e w2 => e = .returned (.bool (p l0[i])) ∧ Below w1.heap.size w1 w2) :
    Calls Try.prog 83 #[.slice A0 l0.length c0, fv] w fun e w' => e = .returned (.bool (l0.any p)) ∧ Below w.heap.size w w' := by
  obtain ⟨r, hr⟩ : ∃ r, idxF p l0 0 = r := ⟨_, rfl⟩
  have H := Aside0.mk (index_table fv p A0 c0 l0 r w hr0 hc0 hl hcl hr)
  have ha := idxF_any p l0
  rw [hr] at ha
  have HA := Aside0.mk ha
  clear hr0 hc0 hcl hr ha
  go_enter Try.func83, Try.ntmps83
  go_wp2_with (first | (go_at_call 73; (with_reducible refine H.out.mono ?_); rintro e w1 ⟨rfl, hb⟩; have HB := Aside0.mk hb; clear hb))
  go_ret
  exact ⟨by rw [← HA.out]; rfl, HB.out⟩
set_option maxHeartbeats 1000000 in
set_option maxRecDepth 100000 in
theorem index_col (fv : Value) (p : Col → Bool) (A0 : Option Addr) (c0 : Nat) (l0 : List Col) (r : Int) (w : World) (hr0 : Kd.C kC w A0 l0.length l0) (hc0 : l0.length ≤ c0) (hl : l0.length ≤ 9223372036854775806)
    (hcl : ∀ (i : Nat) (hi : i < l0.length) (c : List Value) (w1 : World), Below w.heap.size w w1 → c.length = kC.sz → kC.K w1 l0[i] c → CallsV Try.prog fv #[.agg c.toArray] w1 fun e w2 => e = .returned (.bool (p l0[i])) ∧ Below w1.heap.size w1 w2)
    (h : idxF p l0 0 = r) :
    Calls Try.prog 75 #[.slice A0 l0.length c0, fv] w fun e w' => e = .returned (.int .i64 r) ∧ Below w.heap.size w w' := by
  have HR0 := Aside0.mk hr0
  have HC0 := Aside0.mk hc0
  have HCL := Aside0.mk hcl
  have HE : Aside0 (idxF p (l0.drop 0) 0 = r) := ⟨by rw [List.drop_zero]; exact h⟩
  clear hr0 hc0 h hcl
  go_enter Try.func75, Try.ntmps75
  go_wp2
  go_loopw [8] (fun v8 wr => ∃ k : Nat, v8 = .int .i64 (k : Int) ∧ k ≤ l0.length ∧ Aside0 (idxF p (l0.drop k) k = r) ∧ Aside0 (Below w.heap.size w wr)) (fun v8 _ => l0.length - (intOf v8).toNat)
  case atStart => exact ⟨0, rfl, by omega, HE, ⟨Below.refl _ _⟩⟩
  case round =>
    obtain ⟨k, rfl, hk, HF, HB⟩ := hrel
    by_cases hlt : k < l0.length
    ·
      obtain ⟨ad, c, hA, hcl, hK, hcc⟩ := at_cells (Kd.C_below HR0.out HB.out) k hlt
      subst hA
      have HCC := Aside0.mk hcc
      have HL := Aside0.mk hcl
      have HKk := Aside0.mk hK
      have HCW := Aside0.mk (fun w1 hb => HCL.out k hlt c w1 (below_step HB.out hb) hcl (kC.K_below hb hK))
      have hmem := List.getElem_mem hlt
      clear hcc hcl hK
      obtain ⟨x, hx⟩ : ∃ x, l0[k] = x := ⟨_, rfl⟩
      rw [hx] at HCW hmem HKk
      have HCV := Aside0.mk (HCW.out wr (Below.refl _ _))
      have hF2 := HF.out
      rw [idxF_drop p l0 k hlt, hx] at hF2
      have HF2 := Aside0.mk hF2
      clear hF2 hx HCW
      obtain ⟨b, hb⟩ : ∃ b, p x = b := ⟨_, rfl⟩
      rw [hb] at HCV HF2
      clear hb
      cases b with
      | true =>
        go_wp2_with (first | (refine load_event rfl 96 (.tmp 14) rfl (ad.add (k * kC.sz)) ?e1 c HCC.out _ Try.underlying96 rfl (by rw [HL.out]; kernel_rfl) ?_; (case e1 => first | rfl | (go_simp; done) | (go_simp; rfl))) | (refine callsV_event rfl 16 rfl (.tmp 11) [.tmp 15] #[96] rfl fv rfl [.agg c.toArray] rfl ?_; obtain ⟨f, caps, fn, h1, h2, h3, h4, h5⟩ := HCV.out; refine ⟨f, caps, fn, h1, h2, h3, h4, h5.mono ?_⟩; rintro e w2 ⟨rfl, hb2⟩; refine ⟨_, rfl, ?_⟩; have HB2 := Aside0.mk hb2; clear hb2 h1 h2 h3 h4 h5))
        go_ret
        refine ⟨?_, below_step HB.out HB2.out⟩
        have := HF2.out
        rw [← this]
        simp
      | false =>
        go_wp2_with (first | (refine load_event rfl 96 (.tmp 14) rfl (ad.add (k * kC.sz)) ?e1 c HCC.out _ Try.underlying96 rfl (by rw [HL.out]; kernel_rfl) ?_; (case e1 => first | rfl | (go_simp; done) | (go_simp; rfl))) | (refine callsV_event rfl 16 rfl (.tmp 11) [.tmp 15] #[96] rfl fv rfl [.agg c.toArray] rfl ?_; obtain ⟨f, caps, fn, h1, h2, h3, h4, h5⟩ := HCV.out; refine ⟨f, caps, fn, h1, h2, h3, h4, h5.mono ?_⟩; rintro e w2 ⟨rfl, hb2⟩; refine ⟨_, rfl, ?_⟩; have HB2 := Aside0.mk hb2; clear hb2 h1 h2 h3 h4 h5))
        refine ⟨⟨k + 1, by simp, by omega, ⟨?_⟩, ⟨below_step HB.out HB2.out⟩⟩, by simp [intOf]; omega⟩
        have := HF2.out
        simpa using this
    · have hend : r = -1 := by
        have := HF.out
        rw [List.drop_of_length_le (by omega), idxF] at this
        exact this.symm
      subst hend
      go_wp2
      go_ret
      exact ⟨rfl, HB.out⟩
theorem contains_col (fv : Value) (p : Col → Bool) (A0 : Option Addr) (c0 : Nat) (l0 : List Col) (w : World) (hr0 : Kd.C kC w A0 l0.length l0) (hc0 : l0.length ≤ c0) (hl : l0.length ≤ 9223372036854775806)
    (hcl : ∀ (i : Nat) (hi : i < l0.length) (c : List Value) (w1 : World), Below w.heap.size w w1 → c.length = kC.sz → kC.K w1 l0[i] c → CallsV Try.prog fv #[.agg c.toArray] w1 fun e w2 => e = .returned (.bool (p l0[i])) ∧ Below w1.heap.size w1 w2) :
    Calls Try.prog 131 #[.slice A0 l0.length c0, fv] w fun e w' => e = .returned (.bool (l0.any p)) ∧ Below w.heap.size w w' := by
  obtain ⟨r, hr⟩ : ∃ r, idxF p l0 0 = r := ⟨_, rfl⟩
  have H := Aside0.mk (index_col fv p A0 c0 l0 r w hr0 hc0 hl hcl hr)
  have ha := idxF_any p l0
  rw [hr] at ha
  have HA := Aside0.mk ha
  clear hr0 hc0 hcl hr ha
  go_enter Try.func131, Try.ntmps131
  go_wp2_with (first | (go_at_call 75; (with_reducible refine H.out.mono ?_); rintro e w1 ⟨rfl, hb⟩; have HB := Aside0.mk hb; clear hb))
  go_ret
  exact ⟨by rw [← HA.out]; rfl, HB.out⟩
set_option maxHeartbeats 1000000 in
set_option maxRecDepth 100000 in
theorem index_proj (fv : Value) (p : Prj → Bool) (A0 : Option Addr) (c0 : Nat) (l0 : List Prj) (r : Int) (w : World) (hr0 : Kd.C kP w A0 l0.length l0) (hc0 : l0.length ≤ c0) (hl : l0.length ≤ 9223372036854775806)
    (hcl : ∀ (i : Nat) (hi : i < l0.length) (c : List Value) (w1 : World), Below w.heap.size w w1 → c.length = kP.sz → kP.K w1 l0[i] c → CallsV Try.prog fv #[.agg c.toArray] w1 fun e w2 => e = .returned (.bool (p l0[i])) ∧ Below w1.heap.size w1 w2)
    (h : idxF p l0 0 = r) :
    Calls Try.prog 140 #[.slice A0 l0.length c0, fv] w fun e w' => e = .returned (.int .i64 r) ∧ Below w.heap.size w w' := by
  have HR0 := Aside0.mk hr0
  have HC0 := Aside0.mk hc0
  have HCL := Aside0.mk hcl
  have HE : Aside0 (idxF p (l0.drop 0) 0 = r) := ⟨by rw [List.drop_zero]; exact h⟩
  clear hr0 hc0 h hcl
  go_enter Try.func140, Try.ntmps140
  go_wp2
  go_loopw [8] (fun v8 wr => ∃ k : Nat, v8 = .int .i64 (k : Int) ∧ k ≤ l0.length ∧ Aside0 (idxF p (l0.drop k) k = r) ∧ Aside0 (Below w.heap.size w wr)) (fun v8 _ => l0.length - (intOf v8).toNat)
  case atStart => exact ⟨0, rfl, by omega, HE, ⟨Below.refl _ _⟩⟩
  case round =>
    obtain ⟨k, rfl, hk, HF, HB⟩ := hrel
    by_cases hlt : k < l0.length
    ·
      obtain ⟨ad, c, hA, hcl, hK, hcc⟩ := at_cells (Kd.C_below HR0.out HB.out) k hlt
      subst hA
      have HCC := Aside0.mk hcc
      have HL := Aside0.mk hcl
      have HKk := Aside0.mk hK
      have HCW := Aside0.mk (fun w1 hb => HCL.out k hlt c w1 (below_step HB.out hb) hcl (kP.K_below hb hK))
      have hmem := List.getElem_mem hlt
      clear hcc hcl hK
      obtain ⟨x, hx⟩ : ∃ x, l0[k] = x := ⟨_, rfl⟩
      rw [hx] at HCW hmem HKk
      have HCV := Aside0.mk (HCW.out wr (Below.refl _ _))
      have hF2 := HF.out
      rw [idxF_drop p l0 k hlt, hx] at hF2
      have HF2 := Aside0.mk hF2
      clear hF2 hx HCW
      obtain ⟨b, hb⟩ : ∃ b, p x = b := ⟨_, rfl⟩
      rw [hb] at HCV HF2
      clear hb
      cases b with
      | true =>
        go_wp2_with (first | (refine load_event rfl 52 (.tmp 14) rfl (ad.add (k * kP.sz)) ?e1 c HCC.out _ Try.underlying52 rfl (by rw [HL.out]; kernel_rfl) ?_; (case e1 => first | rfl | (go_simp; done) | (go_simp; rfl))) | (refine callsV_event rfl 16 rfl (.tmp 11) [.tmp 15] #[52] rfl fv rfl [.agg c.toArray] rfl ?_; obtain ⟨f, caps, fn, h1, h2, h3, h4, h5⟩ := HCV.out; refine ⟨f, caps, fn, h1, h2, h3, h4, h5.mono ?_⟩; rintro e w2 ⟨rfl, hb2⟩; refine ⟨_, rfl, ?_⟩; have HB2 := Aside0.mk hb2; clear hb2 h1 h2 h3 h4 h5))
        go_ret
        refine ⟨?_, below_step HB.out HB2.out⟩
        have := HF2.out
        rw [← this]
        simp
      | false =>
        go_wp2_with (first | (refine load_event rfl 52 (.tmp 14) rfl (ad.add (k * kP.sz)) ?e1 c HCC.out _ Try.underlying52 rfl (by rw [HL.out]; kernel_rfl) ?_; (case e1 => first | rfl | (go_simp; done) | (go_simp; rfl))) | (refine callsV_event rfl 16 rfl (.tmp 11) [.tmp 15] #[52] rfl fv rfl [.agg c.toArray] rfl ?_; obtain ⟨f, caps, fn, h1, h2, h3, h4, h5⟩ := HCV.out; refine ⟨f, caps, fn, h1, h2, h3, h4, h5.mono ?_⟩; rintro e w2 ⟨rfl, hb2⟩; refine ⟨_, rfl, ?_⟩; have HB2 := Aside0.mk hb2; clear hb2 h1 h2 h3 h4 h5))
        refine ⟨⟨k + 1, by simp, by omega, ⟨?_⟩, ⟨below_step HB.out HB2.out⟩⟩, by simp [intOf]; omega⟩
        have := HF2.out
        simpa using this
    · have hend : r = -1 := by
        have := HF.out
        rw [List.drop_of_length_le (by omega), idxF] at this
        exact this.symm
      subst hend
      go_wp2
      go_ret
      exact ⟨rfl, HB.out⟩
theorem contains_proj (fv : Value) (p : Prj → Bool) (A0 : Option Addr) (c0 : Nat) (l0 : List Prj) (w : World) (hr0 : Kd.C kP w A0 l0.length l0) (hc0 : l0.length ≤ c0) (hl : l0.length ≤ 9223372036854775806)
    (hcl : ∀ (i : Nat) (hi : i < l0.length) (c : List Value) (w1 : World), Below w.heap.size w w1 → c.length = kP.sz → kP.K w1 l0[i] c → CallsV Try.prog fv #[.agg c.toArray] w1 fun e w2 => e = .returned (.bool (p l0[i])) ∧ Below w1.heap.size w1 w2) :
    Calls Try.prog 123 #[.slice A0 l0.length c0, fv] w fun e w' => e = .returned (.bool (l0.any p)) ∧ Below w.heap.size w w' := by
  obtain ⟨r, hr⟩ : ∃ r, idxF p l0 0 = r := ⟨_, rfl⟩
  have H := Aside0.mk (index_proj fv p A0 c0 l0 r w hr0 hc0 hl hcl hr)
  have ha := idxF_any p l0
  rw [hr] at ha
  have HA := Aside0.mk ha
  clear hr0 hc0 hcl hr ha
  go_enter Try.func123, Try.ntmps123
  go_wp2_with (first | (go_at_call 140; (with_reducible refine H.out.mono ?_); rintro e w1 ⟨rfl, hb⟩; have HB := Aside0.mk hb; clear hb))
  go_ret
  exact ⟨by rw [← HA.out]; rfl, HB.out⟩
set_option maxHeartbeats 1000000 in
set_option maxRecDepth 100000 in
theorem index_int (fv : Value) (p : Int → Bool) (A0 : Option Addr) (c0 : Nat) (l0 : List Int) (r : Int) (w : World) (hr0 : Kd.C (Kd.int .i64) w A0 l0.length l0) (hc0 : l0.length ≤ c0) (hl : l0.length ≤ 9223372036854775806)
    (hcl : ∀ (i : Nat) (hi : i < l0.length) (w1 : World), Below w.heap.size w w1 → CallsV Try.prog fv #[.int .i64 l0[i]] w1 fun e w2 => e = .returned (.bool (p l0[i])) ∧ Below w1.heap.size w1 w2)
    (h : idxF p l0 0 = r) :
    Calls Try.prog 98 #[.slice A0 l0.length c0, fv] w fun e w' => e = .returned (.int .i64 r) ∧ Below w.heap.size w w' := by
  have HR0 := Aside0.mk hr0
  have HC0 := Aside0.mk hc0
  have HCL := Aside0.mk hcl
  have HE : Aside0 (idxF p (l0.drop 0) 0 = r) := ⟨by rw [List.drop_zero]; exact h⟩
  clear hr0 hc0 h hcl
  go_enter Try.func98, Try.ntmps98
  go_wp2
  go_loopw [8] (fun v8 wr => ∃ k : Nat, v8 = .int .i64 (k : Int) ∧ k ≤ l0.length ∧ Aside0 (idxF p (l0.drop k) k = r) ∧ Aside0 (Below w.heap.size w wr)) (fun v8 _ => l0.length - (intOf v8).toNat)
  case atStart => exact ⟨0, rfl, by omega, HE, ⟨Below.refl _ _⟩⟩
  case round =>
    obtain ⟨k, rfl, hk, HF, HB⟩ := hrel
    by_cases hlt : k < l0.length
    ·
      obtain ⟨ad, hA, hcell⟩ := Kd.at_int (Kd.C_below HR0.out HB.out) (k : Int) (by omega) (by omega)
      subst hA
      have hrd : rd l0 (k : Int) = l0[k] := by
        unfold rd
        rw [Int.toNat_natCast, List.getD_eq_getElem?_getD, List.getElem?_eq_getElem hlt]
        rfl
      rw [hrd, Int.toNat_natCast] at hcell
      have HCW := Aside0.mk (HCL.out k hlt wr HB.out)
      have hmem := List.getElem_mem hlt
      obtain ⟨x, hx⟩ : ∃ x, l0[k] = x := ⟨_, rfl⟩
      rw [hx] at hcell HCW hmem
      have HCV := Aside0.mk HCW.out
      have hF2 := HF.out
      rw [idxF_drop p l0 k hlt, hx] at hF2
      have HF2 := Aside0.mk hF2
      clear hF2 hx HCW
      obtain ⟨b, hb⟩ : ∃ b, p x = b := ⟨_, rfl⟩
      rw [hb] at HCV HF2
      clear hb
      cases b with
      | true =>
        go_wp2_with (first | (refine callsV_event rfl 16 rfl (.tmp 11) [.tmp 15] #[3] rfl fv rfl [.int .i64 x] rfl ?_; obtain ⟨f, caps, fn, h1, h2, h3, h4, h5⟩ := HCV.out; refine ⟨f, caps, fn, h1, h2, h3, h4, h5.mono ?_⟩; rintro e w2 ⟨rfl, hb2⟩; refine ⟨_, rfl, ?_⟩; have HB2 := Aside0.mk hb2; clear hb2 h1 h2 h3 h4 h5))
        go_ret
        refine ⟨?_, below_step HB.out HB2.out⟩
        have := HF2.out
        rw [← this]
        simp
      | false =>
        go_wp2_with (first | (refine callsV_event rfl 16 rfl (.tmp 11) [.tmp 15] #[3] rfl fv rfl [.int .i64 x] rfl ?_; obtain ⟨f, caps, fn, h1, h2, h3, h4, h5⟩ := HCV.out; refine ⟨f, caps, fn, h1, h2, h3, h4, h5.mono ?_⟩; rintro e w2 ⟨rfl, hb2⟩; refine ⟨_, rfl, ?_⟩; have HB2 := Aside0.mk hb2; clear hb2 h1 h2 h3 h4 h5))
        refine ⟨⟨k + 1, by simp, by omega, ⟨?_⟩, ⟨below_step HB.out HB2.out⟩⟩, by simp [intOf]; omega⟩
        have := HF2.out
        simpa using this
    · have hend : r = -1 := by
        have := HF.out
        rw [List.drop_of_length_le (by omega), idxF] at this
        exact this.symm
      subst hend
      go_wp2
      go_ret
      exact ⟨rfl, HB.out⟩
theorem contains_int (fv : Value) (p : Int → Bool) (A0 : Option Addr) (c0 : Nat) (l0 : List Int) (w : World) (hr0 : Kd.C (Kd.int .i64) w A0 l0.length l0) (hc0 : l0.length ≤ c0) (hl : l0.length ≤ 9223372036854775806)
    (hcl : ∀ (i : Nat) (hi : i < l0.length) (w1 : World), Below w.heap.size w w1 → CallsV Try.prog fv #[.int .i64 l0[i]] w1 fun e w2 => e = .returned (.bool (p l0[i])) ∧ Below w1.heap.size w1 w2) :
    Calls Try.prog 55 #[.slice A0 l0.length c0, fv] w fun e w' => e = .returned (.bool (l0.any p)) ∧ Below w.heap.size w w' := by
  obtain ⟨r, hr⟩ : ∃ r, idxF p l0 0 = r := ⟨_, rfl⟩
  have H := Aside0.mk (index_int fv p A0 c0 l0 r w hr0 hc0 hl hcl hr)
  have ha := idxF_any p l0
  rw [hr] at ha
  have HA := Aside0.mk ha
  clear hr0 hc0 hcl hr ha
  go_enter Try.func55, Try.ntmps55
  go_wp2_with (first | (go_at_call 98; (with_reducible refine H.out.mono ?_); rintro e w1 ⟨rfl, hb⟩; have HB := Aside0.mk hb; clear hb))
  go_ret
  exact ⟨by rw [← HA.out]; rfl, HB.out⟩
end Go.Proofs.Ytgjclhhjigflkac.Sc

/- A map of truths that the call has made: which keys it holds. -/
namespace Go.Proofs.Ytgjclhhjigflkac.Seen
open Go Go.RowKit Go.Maps Go.Proofs.YtgjclhhjigflkacW.PrintWords
set_option linter.unusedVariables false
set_option linter.unusedSimpArgs false
/-- block b is a map of at most n entries, true at the keys xs, and at no others -/
def Has (P : Program) (kt et : TypeId) (w : World) (b n : Nat) (xs : List Lit) : Prop :=
  ∃ D : DataW Unit, w.ownsMap P kt (plainElem P et) b n D ∧ IsMap D ∧ ∀ kl, (kl ∈ xs → D.atKey kl (.lit (.bool false)) = .lit (.bool true)) ∧ (¬ kl ∈ xs → D.atKey kl (.lit (.bool false)) = .lit (.bool false))
section
variable {P : Program} {kt et : TypeId} {w w1 : World} {b n : Nat} {xs : List Lit}
theorem Has.made (w : World) (P : Program) (kt et : TypeId) : Has P kt et (w.alloc (.map #[] 0)) w.heap.size 0 [] :=
  ⟨.map [], World.ownsMap_made w P kt _, isMap_empty, fun kl => ⟨fun h => by simp at h, fun _ => rfl⟩⟩
theorem Has.kept {row : Option Nat} (h : Has P kt et w b n xs) (hg : w.grownBy w1 row) (hne : some b ≠ row) : Has P kt et w1 b n xs := by
  obtain ⟨D, h1, h2⟩ := h
  exact ⟨D, h1.kept hg hne, h2⟩
theorem Has.below (h : Has P kt et w b n xs) (hb : Below w.heap.size w w1) : Has P kt et w1 b n xs := h.kept (grown_of_below hb none) (by simp)
theorem bool_inv (he : P.underlying et = some .bool) {v : Value} {z : DataW Unit × List MemPlace} (h : plainElem P et v = some z) : ∃ c, v = .bool c ∧ z = (.lit (.bool c), []) := by
  unfold plainElem at h
  rw [he] at h
  cases v <;> simp at h
  exact ⟨_, rfl, h.symm⟩
variable {ops : Array Oper} {rest : List Oper} {o : Oper} {a : Act} {Q : Exit → Act → World → Prop}
theorem lookup_event (hg : o.guard = none) (m x : Operand) (t : TypeId) (hop : o.op = Op.lookup t m x false) (K : Keyed P kt) (ht : P.underlying t = some (.map kt et)) (he : P.underlying et = some .bool)
    (hz : (zeroValue et).run P w = .ok (.bool false) w) (hm : a.eval m = .map (some b)) (H : Has P kt et w b n xs) (key : Value) (kl : Lit) (hx : a.eval x = key) (hkey : keyOf P kt key = some kl)
    (h : ∀ c : Bool, (c = true ↔ kl ∈ xs) → wpList P ops Q rest (a.put o.dst (.bool c)) w) : wpList P ops Q (o :: rest) a w := by
  obtain ⟨D, h1, h2, h3⟩ := H
  refine wpList_plain hg fun K' hK' => ?_
  obtain ⟨v, ps, hrun, hv⟩ := h1.lookup K ht hz (plainElem_bool he false) hkey
  obtain ⟨c, rfl, hc⟩ := bool_inv he hv
  simp only [Prod.mk.injEq] at hc
  unfold Oper.wp
  simp [execOp, hop, hm, hx, hrun, Result.andThen]
  refine hK' _ _ (h c ?_)
  have h4 := h3 kl
  by_cases hin : kl ∈ xs
  · have h5 := hc.1.symm.trans (h4.1 hin)
    simp only [DataW.lit.injEq, Lit.bool.injEq] at h5
    simp [h5, hin]
  · have h5 := hc.1.symm.trans (h4.2 hin)
    simp only [DataW.lit.injEq, Lit.bool.injEq] at h5
    simp [h5, hin]
theorem update_event (hg : o.guard = none) (m x v : Operand) (t : TypeId) (hop : o.op = Op.mapUpdate t m x v) (K : Keyed P kt) (ht : P.underlying t = some (.map kt et)) (he : P.underlying et = some .bool)
    (hm : a.eval m = .map (some b)) (H : Has P kt et w b n xs) (hn : n < maxLen) (key : Value) (kl : Lit) (hx : a.eval x = key) (hv : a.eval v = .bool true) (hkey : keyOf P kt key = some kl)
    (h : ∀ w', Has P kt et w' b (n + 1) (kl :: xs) → w.grownBy w' (some b) → wpList P ops Q rest (a.put o.dst undef) w') : wpList P ops Q (o :: rest) a w := by
  obtain ⟨D, h1, h2, h3⟩ := H
  refine wpList_mapUpdate_own w hg m x v t hop kt et K ht _ b n D hm h1 hn key _ kl hx hv hkey _ [] (plainElem_bool he true) ?_
  intro w' h4 h5
  refine h w' ⟨_, h4, h2.put _ _, fun k => ?_⟩ h5
  by_cases e : k = kl
  · subst e
    have := atKey_put_same h2 (K.key hkey) (.lit (.bool true)) (.lit (.bool false) : DataW Unit)
    simp [this]
  · have h6 := h3 k
    rw [atKey_put_other e]
    simpa [e] using h6
end
end Go.Proofs.Ytgjclhhjigflkac.Seen

/- The walks of schema.twice: are two of some alike? (Written by gensc.py.) -/
namespace Go.Proofs.Ytgjclhhjigflkac.Sc
open Go Go.RowKit Go.Proofs.Ytgjclhhjigflkac.C Go.Proofs.Ytgjclhhjigflkac.MyWords Go.Proofs.Ytgjclhhjigflkac.Hand Go.Proofs.YtgjclhhjigflkacW.PrintWords Go.Proofs.YtgjclhhjigflkacW.PrintLast Go.Proofs.YtgjclhhjigflkacW.PrintMore
set_option linter.unusedVariables false
set_option linter.unusedSimpArgs false
open Go.Maps Go.Proofs.Ytgjclhhjigflkac.Seen
section
variable {P : Program} {ops : Array Oper} {rest : List Oper} {o : Oper} {a : Act} {Q : Exit → Act → World → Prop} {w : World}
theorem make_event (hg : o.guard = none) {t : TypeId} (hop : o.op = .makeMap t none) {kt et : TypeId} (h : ∀ b w1, Has P kt et w1 b 0 [] → Below w.heap.size w w1 → w.heap.size ≤ b → wpList P ops Q rest (a.put o.dst (.map (some b))) w1) : wpList P ops Q (o :: rest) a w := by
  refine Kd.event_run hg (v := .map (some w.heap.size)) (w1 := w.alloc (.map #[] 0)) ?_ (h _ _ (Has.made w P kt et) (below_alloc (Below.refl _ _) _) (Nat.le_refl _))
  unfold execOp
  simp [hop, run_makeMap]
theorem gate_mapUpdate {t : TypeId} {m x v : Operand} (_ho : o.op = .mapUpdate t m x v) (h : wpList P ops Q (o :: rest) a w) : wpList P ops Q (o :: rest) a w := h
end
theorem zero_bool (w : World) : (zeroValue 4).run Try.prog w = .ok (.bool false) w := by kernel_rfl
theorem all_one {cs : List Value} (h : ∀ u ∈ cs, u.oneCell' = true) : cs.toArray.all (·.oneCell') = true := by
  rw [Array.all_eq_true]
  intro i hi
  have hi2 : i < cs.length := by simpa using hi
  have := h cs[i] (List.getElem_mem hi2)
  simpa using this
theorem dup_int (l : List Int) (key : Int → Int) (k : Nat) (hk : k < l.length) (h : key l[k] ∈ (l.take k).map key) : onceP (l.map key) = false := by
  refine decide_eq_false (fun hn => ?_)
  obtain ⟨y, hy, he⟩ := List.mem_map.1 h
  obtain ⟨j, hj, rfl⟩ := List.getElem_of_mem hy
  rw [List.length_take] at hj
  rw [List.getElem_take] at he
  have hp := List.pairwise_iff_getElem.1 hn j k (by rw [List.length_map]; omega) (by rw [List.length_map]; omega) (by omega)
  simp at hp
  exact hp he
theorem lit_inj_int {a b : Int} (h : (Lit.int .i64 (a)) = (Lit.int .i64 (b))) : a = b := by
  injection h with h1 h2
theorem key_int (a : Int) (h : (Lit.int .i64 (a)).wf = true) : keyOf Try.prog 3 (.int .i64 (a)) = some (Lit.int .i64 (a)) := by
  unfold keyOf
  rw [Try.underlying3]
  simp only [mapKey, Try.underlying3]
  simp [h]
set_option maxHeartbeats 2000000 in
set_option maxRecDepth 100000 in
theorem twice_int (fv : Value) (key : Int → Int) (A0 : Option Addr) (c0 : Nat) (l0 : List Int) (w : World) (hr0 : Kd.C (Kd.int .i64) w A0 l0.length l0) (hl : l0.length ≤ 1000000) (hg : ∀ x ∈ l0, (Lit.int .i64 (key x)).wf = true)
    (hcl : ∀ (i : Nat) (hi : i < l0.length) (w1 : World), Below w.heap.size w w1 → CallsV Try.prog fv #[.int .i64 l0[i]] w1 fun e w2 => e = .returned (.int .i64 (key l0[i])) ∧ Below w1.heap.size w1 w2) :
    Calls Try.prog 138 #[.slice A0 l0.length c0, fv] w fun e w' => e = .returned (.bool (!onceP (l0.map key))) ∧ Below w.heap.size w w' := by
  have HR0 := Aside0.mk hr0
  have HCL := Aside0.mk hcl
  have HG := Aside0.mk hg
  have HN0 : Aside0 (((l0.take 0).map key).Nodup) := ⟨by simp⟩
  clear hr0 hcl hg
  go_enter Try.func138, Try.ntmps138
  go_wp2_with (first | ((with_reducible refine gate_dst (N := 8) rfl ?_); refine make_event rfl (t := 195) rfl (kt := 3) (et := 4) ?_; intro bm w1 hh1 hb1 hbm; have HH1 := Aside0.mk hh1; have HB1 := Aside0.mk hb1; have HBM := Aside0.mk hbm; clear hh1 hb1 hbm))
  go_loopw [11] (fun v11 wr => ∃ k : Nat, v11 = .int .i64 (k : Int) ∧ k ≤ l0.length ∧ Aside0 (Has Try.prog 3 4 wr bm k (((l0.take k).map fun x => (Lit.int .i64 (key x))).reverse)) ∧ Aside0 (((l0.take k).map key).Nodup) ∧ Aside0 (Below w.heap.size w wr)) (fun v11 _ => l0.length - (intOf v11).toNat)
  case atStart => exact ⟨0, rfl, by omega, HH1, HN0, HB1⟩
  case round =>
    clear HH1 HN0 HB1
    obtain ⟨k, rfl, hk, HH, HN, HB⟩ := hrel
    by_cases hlt : k < l0.length
    ·
      obtain ⟨ad, hA, hcell⟩ := Kd.at_int (Kd.C_below HR0.out HB.out) (k : Int) (by omega) (by omega)
      subst hA
      have hrd : rd l0 (k : Int) = l0[k] := by
        unfold rd
        rw [Int.toNat_natCast, List.getD_eq_getElem?_getD, List.getElem?_eq_getElem hlt]
        rfl
      rw [hrd, Int.toNat_natCast] at hcell
      have HCW := Aside0.mk (HCL.out k hlt wr HB.out)
      have hmem := List.getElem_mem hlt
      obtain ⟨x, hx⟩ : ∃ x, l0[k] = x := ⟨_, rfl⟩
      rw [hx] at hcell HCW hmem
      have HGX := Aside0.mk (HG.out x hmem)
      have HX := Aside0.mk hx
      have hgoodx := HGX.out
      have hkey : keyOf Try.prog 3 (.int .i64 (key x)) = some (Lit.int .i64 (key x)) := key_int _ hgoodx
      have HKEY := Aside0.mk hkey
      have hmemi : ((Lit.int .i64 (key x)) ∈ ((l0.take k).map fun x => (Lit.int .i64 (key x))).reverse) ↔ key x ∈ (l0.take k).map key := by
        rw [List.mem_reverse, List.mem_map, List.mem_map]
        constructor
        · rintro ⟨y, hy, he⟩
          exact ⟨y, hy, lit_inj_int he⟩
        · rintro ⟨y, hy, he⟩
          exact ⟨y, hy, by rw [he]⟩
      have HMI := Aside0.mk hmemi
      clear hgoodx hkey hmemi hmem hx
      by_cases hin : key x ∈ (l0.take k).map key
      · have HIN := Aside0.mk hin
        clear hin
        go_wp2_with (first | ((with_reducible refine gate_dst (N := 18) rfl ?_); have HCV := Aside0.mk (HCW.out); refine callsV_event rfl 18 rfl (.tmp 16) [.tmp 17] #[3] rfl fv rfl [.int .i64 x] rfl ?_; obtain ⟨f, caps, fn, h1, h2, h3, h4, h5⟩ := HCV.out; refine ⟨f, caps, fn, h1, h2, h3, h4, h5.mono ?_⟩; rintro e w4 ⟨rfl, hb2⟩; refine ⟨_, rfl, ?_⟩; have HB4 := Aside0.mk (hb2); clear HCV hb2 h1 h2 h3 h4 h5) | ((with_reducible refine gate_dst (N := 19) rfl ?_); refine lookup_event (n := k) (xs := ((l0.take k).map fun x => (Lit.int .i64 (key x))).reverse) rfl (.tmp 15) (.tmp 18) 195 rfl (int_keyed Try.underlying3) Try.underlying195 Try.underlying4 (zero_bool _) rfl (HH.out.below HB4.out) (.int .i64 (key x)) _ rfl HKEY.out ?_; intro cb hcb; obtain rfl : cb = true := hcb.2 (HMI.out.2 HIN.out); clear hcb))
        go_ret
        refine ⟨?_, below_step HB.out HB4.out⟩
        have : onceP (l0.map key) = false := dup_int l0 key k hlt (by rw [HX.out]; exact HIN.out)
        rw [this]
        rfl
      · have HIN := Aside0.mk hin
        clear hin
        go_wp2_with (first | ((with_reducible refine gate_dst (N := 18) rfl ?_); have HCV := Aside0.mk (HCW.out); refine callsV_event rfl 18 rfl (.tmp 16) [.tmp 17] #[3] rfl fv rfl [.int .i64 x] rfl ?_; obtain ⟨f, caps, fn, h1, h2, h3, h4, h5⟩ := HCV.out; refine ⟨f, caps, fn, h1, h2, h3, h4, h5.mono ?_⟩; rintro e w4 ⟨rfl, hb2⟩; refine ⟨_, rfl, ?_⟩; have HB4 := Aside0.mk (hb2); clear HCV hb2 h1 h2 h3 h4 h5) | ((with_reducible refine gate_dst (N := 19) rfl ?_); refine lookup_event (n := k) (xs := ((l0.take k).map fun x => (Lit.int .i64 (key x))).reverse) rfl (.tmp 15) (.tmp 18) 195 rfl (int_keyed Try.underlying3) Try.underlying195 Try.underlying4 (zero_bool _) rfl (HH.out.below HB4.out) (.int .i64 (key x)) _ rfl HKEY.out ?_; intro cb hcb; obtain rfl : cb = false := Bool.eq_false_iff.2 (fun h => HIN.out (HMI.out.1 (hcb.1 h))); clear hcb) | ((with_reducible refine gate_dst (N := 23) rfl ?_); have HCV := Aside0.mk (by have := HCL.out k hlt _ (below_step HB.out HB4.out); rwa [HX.out] at this); refine callsV_event rfl 23 rfl (.tmp 21) [.tmp 22] #[3] rfl fv rfl [.int .i64 x] rfl ?_; obtain ⟨f, caps, fn, h1, h2, h3, h4, h5⟩ := HCV.out; refine ⟨f, caps, fn, h1, h2, h3, h4, h5.mono ?_⟩; rintro e w5 ⟨rfl, hb2⟩; refine ⟨_, rfl, ?_⟩; have HB5 := Aside0.mk (below_step HB4.out hb2); clear HCV hb2 h1 h2 h3 h4 h5) | ((with_reducible refine gate_mapUpdate (t := 195) rfl ?_); refine update_event (n := k) (xs := ((l0.take k).map fun x => (Lit.int .i64 (key x))).reverse) rfl (.tmp 20) (.tmp 23) _ 195 rfl (int_keyed Try.underlying3) Try.underlying195 Try.underlying4 rfl (HH.out.below HB5.out) (by unfold maxLen; omega) (.int .i64 (key x)) _ rfl rfl HKEY.out ?_; intro w6 hh6 hg6; have HH6 := Aside0.mk hh6; have HB6 := Aside0.mk ((below_step HB.out HB5.out).grown hg6 (below_step HB.out HB5.out).size (fun k hk => by injection hk with hk; rw [← hk]; exact HBM.out)); clear hh6 hg6))
        have hsn : (l0.take (k + 1)) = l0.take k ++ [x] := by rw [List.take_succ_eq_append_getElem hlt, HX.out]
        refine ⟨⟨k + 1, by simp, by omega, ⟨?_⟩, ⟨?_⟩, HB6⟩, by simp [intOf]; omega⟩
        · rw [hsn, List.map_append, List.reverse_append]
          exact HH6.out
        · rw [hsn, List.map_append, List.nodup_append]
          refine ⟨HN.out, by simp, ?_⟩
          intro a ha b hb
          simp at hb
          subst hb
          intro e
          exact HIN.out (e ▸ ha)
    · obtain rfl : k = l0.length := by omega
      go_wp2_with fail
      go_ret
      refine ⟨?_, HB.out⟩
      have := HN.out
      rw [List.take_length] at this
      have h2 : onceP (l0.map key) = true := decide_eq_true this
      rw [h2]
      rfl
theorem dup_col (l : List Col) (key : Col → ByteArray) (k : Nat) (hk : k < l.length) (h : key l[k] ∈ (l.take k).map key) : onceP (l.map key) = false := by
  refine decide_eq_false (fun hn => ?_)
  obtain ⟨y, hy, he⟩ := List.mem_map.1 h
  obtain ⟨j, hj, rfl⟩ := List.getElem_of_mem hy
  rw [List.length_take] at hj
  rw [List.getElem_take] at he
  have hp := List.pairwise_iff_getElem.1 hn j k (by rw [List.length_map]; omega) (by rw [List.length_map]; omega) (by omega)
  simp at hp
  exact hp he
theorem lit_inj_col {a b : ByteArray} (h : (Lit.string (a).data.toList) = (Lit.string (b).data.toList)) : a = b := by
  injection h with h1
  exact ByteArray.ext (Array.ext' h1)
theorem key_col (a : ByteArray) (h : (a).size ≤ maxLen) : keyOf Try.prog 9 (.string (a)) = some (Lit.string (a).data.toList) := by
  unfold keyOf
  rw [Try.underlying9]
  simp only [mapKey, Try.underlying9]
  simp [h]
set_option maxHeartbeats 2000000 in
set_option maxRecDepth 100000 in
theorem twice_col (fv : Value) (key : Col → ByteArray) (A0 : Option Addr) (c0 : Nat) (l0 : List Col) (w : World) (hr0 : Kd.C kC w A0 l0.length l0) (hl : l0.length ≤ 1000000) (hg : ∀ x ∈ l0, (key x).size ≤ maxLen)
    (hcl : ∀ (i : Nat) (hi : i < l0.length) (c : List Value) (w1 : World), Below w.heap.size w w1 → c.length = kC.sz → kC.K w1 l0[i] c → CallsV Try.prog fv #[.agg c.toArray] w1 fun e w2 => e = .returned (.string (key l0[i])) ∧ Below w1.heap.size w1 w2) :
    Calls Try.prog 133 #[.slice A0 l0.length c0, fv] w fun e w' => e = .returned (.bool (!onceP (l0.map key))) ∧ Below w.heap.size w w' := by
  have HR0 := Aside0.mk hr0
  have HCL := Aside0.mk hcl
  have HG := Aside0.mk hg
  have HN0 : Aside0 (((l0.take 0).map key).Nodup) := ⟨by simp⟩
  clear hr0 hcl hg
  go_enter Try.func133, Try.ntmps133
  go_wp2_with (first | ((with_reducible refine gate_dst (N := 8) rfl ?_); refine make_event rfl (t := 168) rfl (kt := 9) (et := 4) ?_; intro bm w1 hh1 hb1 hbm; have HH1 := Aside0.mk hh1; have HB1 := Aside0.mk hb1; have HBM := Aside0.mk hbm; clear hh1 hb1 hbm))
  go_loopw [11] (fun v11 wr => ∃ k : Nat, v11 = .int .i64 (k : Int) ∧ k ≤ l0.length ∧ Aside0 (Has Try.prog 9 4 wr bm k (((l0.take k).map fun x => (Lit.string (key x).data.toList)).reverse)) ∧ Aside0 (((l0.take k).map key).Nodup) ∧ Aside0 (Below w.heap.size w wr)) (fun v11 _ => l0.length - (intOf v11).toNat)
  case atStart => exact ⟨0, rfl, by omega, HH1, HN0, HB1⟩
  case round =>
    clear HH1 HN0 HB1
    obtain ⟨k, rfl, hk, HH, HN, HB⟩ := hrel
    by_cases hlt : k < l0.length
    ·
      obtain ⟨ad, c, hA, hcl, hK, hcc⟩ := at_cells (Kd.C_below HR0.out HB.out) k hlt
      subst hA
      have HCC := Aside0.mk hcc
      have HL := Aside0.mk hcl
      have HKk := Aside0.mk hK
      have HCW := Aside0.mk (fun w1 hb => HCL.out k hlt c w1 (below_step HB.out hb) hcl (kC.K_below hb hK))
      have hmem := List.getElem_mem hlt
      clear hcc hcl hK
      obtain ⟨x, hx⟩ : ∃ x, l0[k] = x := ⟨_, rfl⟩
      rw [hx] at HCW hmem HKk
      have HGX := Aside0.mk (HG.out x hmem)
      have HX := Aside0.mk hx
      have hgoodx := HGX.out
      have hkey : keyOf Try.prog 9 (.string (key x)) = some (Lit.string (key x).data.toList) := key_col _ hgoodx
      have HKEY := Aside0.mk hkey
      have hmemi : ((Lit.string (key x).data.toList) ∈ ((l0.take k).map fun x => (Lit.string (key x).data.toList)).reverse) ↔ key x ∈ (l0.take k).map key := by
        rw [List.mem_reverse, List.mem_map, List.mem_map]
        constructor
        · rintro ⟨y, hy, he⟩
          exact ⟨y, hy, lit_inj_col he⟩
        · rintro ⟨y, hy, he⟩
          exact ⟨y, hy, by rw [he]⟩
      have HMI := Aside0.mk hmemi
      clear hgoodx hkey hmemi hmem hx
      by_cases hin : key x ∈ (l0.take k).map key
      · have HIN := Aside0.mk hin
        clear hin
        go_wp2_with (first | ((with_reducible refine gate_dst (N := 14) rfl ?_); refine load_event rfl 96 (.tmp 13) rfl (ad.add (k * kC.sz)) ?e1 c HCC.out _ Try.underlying96 rfl (by rw [HL.out]; kernel_rfl) ?_; (case e1 => first | rfl | (go_simp; done) | (go_simp; rfl))) | ((with_reducible refine gate_dst (N := 7) rfl ?_); refine box_event rfl (N := 7) rfl (cs := #[.string ⟨#[]⟩, .int .i64 0, .bool false]) (t := 96) ?hr ?_; (case hr => first | (go_simp; done) | (go_simp; rfl)); intro gb hgb w7 hbx hb7; have HBX := Aside0.mk hbx; have HB7 := Aside0.mk hb7; have HGB := Aside0.mk (show wr.heap.size ≤ gb by rw [hgb]; exact Nat.le_refl _); clear hbx hb7 hgb) | ((with_reducible refine gate_ (.store 96 (.tmp 7) (.tmp 14)) rfl ?_); refine row_store_event rfl 96 (.tmp 7) (.tmp 14) rfl gb c.toArray rfl rfl 96 _ HBX.out (by rw [List.size_toArray, HL.out]; kernel_rfl) ((show (#[.string ⟨#[]⟩, .int .i64 0, .bool false] : Array Value).size = kC.sz from rfl).trans ((List.size_toArray ..).trans HL.out).symm) (all_one (kC.K_one HKk.out)) ?_; intro w8 hrs; have HR8 := Aside0.mk hrs.at_; have HB8 := Aside0.mk (hrs.below HB7.out HGB.out); clear hrs HBX HB7) | ((with_reducible refine gate_dst (N := 17) rfl ?_); refine wpList_load_row rfl 96 (.tmp 7) rfl gb rfl 96 c.toArray (0, 0) _ HR8.out Try.underlying96 rfl (by rw [List.size_toArray, HL.out]; kernel_rfl) ?_) | ((with_reducible refine gate_dst (N := 18) rfl ?_); have HCV := Aside0.mk (HCW.out _ HB8.out); refine callsV_event rfl 18 rfl (.tmp 16) [.tmp 17] #[96] rfl fv rfl [.agg c.toArray] rfl ?_; obtain ⟨f, caps, fn, h1, h2, h3, h4, h5⟩ := HCV.out; refine ⟨f, caps, fn, h1, h2, h3, h4, h5.mono ?_⟩; rintro e w4 ⟨rfl, hb2⟩; refine ⟨_, rfl, ?_⟩; have HB4 := Aside0.mk (below_step HB8.out hb2); have HR4 := Aside0.mk (blk_below HR8.out hb2); clear HCV hb2 h1 h2 h3 h4 h5) | ((with_reducible refine gate_dst (N := 19) rfl ?_); refine lookup_event (n := k) (xs := ((l0.take k).map fun x => (Lit.string (key x).data.toList)).reverse) rfl (.tmp 15) (.tmp 18) 168 rfl (string_keyed Try.underlying9) Try.underlying168 Try.underlying4 (zero_bool _) rfl (HH.out.below HB4.out) (.string (key x)) _ rfl HKEY.out ?_; intro cb hcb; obtain rfl : cb = true := hcb.2 (HMI.out.2 HIN.out); clear hcb))
        go_ret
        refine ⟨?_, below_step HB.out HB4.out⟩
        have : onceP (l0.map key) = false := dup_col l0 key k hlt (by rw [HX.out]; exact HIN.out)
        rw [this]
        rfl
      · have HIN := Aside0.mk hin
        clear hin
        go_wp2_with (first | ((with_reducible refine gate_dst (N := 14) rfl ?_); refine load_event rfl 96 (.tmp 13) rfl (ad.add (k * kC.sz)) ?e1 c HCC.out _ Try.underlying96 rfl (by rw [HL.out]; kernel_rfl) ?_; (case e1 => first | rfl | (go_simp; done) | (go_simp; rfl))) | ((with_reducible refine gate_dst (N := 7) rfl ?_); refine box_event rfl (N := 7) rfl (cs := #[.string ⟨#[]⟩, .int .i64 0, .bool false]) (t := 96) ?hr ?_; (case hr => first | (go_simp; done) | (go_simp; rfl)); intro gb hgb w7 hbx hb7; have HBX := Aside0.mk hbx; have HB7 := Aside0.mk hb7; have HGB := Aside0.mk (show wr.heap.size ≤ gb by rw [hgb]; exact Nat.le_refl _); clear hbx hb7 hgb) | ((with_reducible refine gate_ (.store 96 (.tmp 7) (.tmp 14)) rfl ?_); refine row_store_event rfl 96 (.tmp 7) (.tmp 14) rfl gb c.toArray rfl rfl 96 _ HBX.out (by rw [List.size_toArray, HL.out]; kernel_rfl) ((show (#[.string ⟨#[]⟩, .int .i64 0, .bool false] : Array Value).size = kC.sz from rfl).trans ((List.size_toArray ..).trans HL.out).symm) (all_one (kC.K_one HKk.out)) ?_; intro w8 hrs; have HR8 := Aside0.mk hrs.at_; have HB8 := Aside0.mk (hrs.below HB7.out HGB.out); clear hrs HBX HB7) | ((with_reducible refine gate_dst (N := 17) rfl ?_); refine wpList_load_row rfl 96 (.tmp 7) rfl gb rfl 96 c.toArray (0, 0) _ HR8.out Try.underlying96 rfl (by rw [List.size_toArray, HL.out]; kernel_rfl) ?_) | ((with_reducible refine gate_dst (N := 18) rfl ?_); have HCV := Aside0.mk (HCW.out _ HB8.out); refine callsV_event rfl 18 rfl (.tmp 16) [.tmp 17] #[96] rfl fv rfl [.agg c.toArray] rfl ?_; obtain ⟨f, caps, fn, h1, h2, h3, h4, h5⟩ := HCV.out; refine ⟨f, caps, fn, h1, h2, h3, h4, h5.mono ?_⟩; rintro e w4 ⟨rfl, hb2⟩; refine ⟨_, rfl, ?_⟩; have HB4 := Aside0.mk (below_step HB8.out hb2); have HR4 := Aside0.mk (blk_below HR8.out hb2); clear HCV hb2 h1 h2 h3 h4 h5) | ((with_reducible refine gate_dst (N := 19) rfl ?_); refine lookup_event (n := k) (xs := ((l0.take k).map fun x => (Lit.string (key x).data.toList)).reverse) rfl (.tmp 15) (.tmp 18) 168 rfl (string_keyed Try.underlying9) Try.underlying168 Try.underlying4 (zero_bool _) rfl (HH.out.below HB4.out) (.string (key x)) _ rfl HKEY.out ?_; intro cb hcb; obtain rfl : cb = false := Bool.eq_false_iff.2 (fun h => HIN.out (HMI.out.1 (hcb.1 h))); clear hcb) | ((with_reducible refine gate_dst (N := 22) rfl ?_); refine wpList_load_row rfl 96 (.tmp 7) rfl gb rfl 96 c.toArray (0, 0) _ HR4.out Try.underlying96 rfl (by rw [List.size_toArray, HL.out]; kernel_rfl) ?_) | ((with_reducible refine gate_dst (N := 23) rfl ?_); have HCV := Aside0.mk (HCW.out _ HB4.out); refine callsV_event rfl 23 rfl (.tmp 21) [.tmp 22] #[96] rfl fv rfl [.agg c.toArray] rfl ?_; obtain ⟨f, caps, fn, h1, h2, h3, h4, h5⟩ := HCV.out; refine ⟨f, caps, fn, h1, h2, h3, h4, h5.mono ?_⟩; rintro e w5 ⟨rfl, hb2⟩; refine ⟨_, rfl, ?_⟩; have HB5 := Aside0.mk (below_step HB4.out hb2); clear HCV hb2 h1 h2 h3 h4 h5) | ((with_reducible refine gate_mapUpdate (t := 168) rfl ?_); refine update_event (n := k) (xs := ((l0.take k).map fun x => (Lit.string (key x).data.toList)).reverse) rfl (.tmp 20) (.tmp 23) _ 168 rfl (string_keyed Try.underlying9) Try.underlying168 Try.underlying4 rfl (HH.out.below HB5.out) (by unfold maxLen; omega) (.string (key x)) _ rfl rfl HKEY.out ?_; intro w6 hh6 hg6; have HH6 := Aside0.mk hh6; have HB6 := Aside0.mk ((below_step HB.out HB5.out).grown hg6 (below_step HB.out HB5.out).size (fun k hk => by injection hk with hk; rw [← hk]; exact HBM.out)); clear hh6 hg6))
        have hsn : (l0.take (k + 1)) = l0.take k ++ [x] := by rw [List.take_succ_eq_append_getElem hlt, HX.out]
        refine ⟨⟨k + 1, by simp, by omega, ⟨?_⟩, ⟨?_⟩, HB6⟩, by simp [intOf]; omega⟩
        · rw [hsn, List.map_append, List.reverse_append]
          exact HH6.out
        · rw [hsn, List.map_append, List.nodup_append]
          refine ⟨HN.out, by simp, ?_⟩
          intro a ha b hb
          simp at hb
          subst hb
          intro e
          exact HIN.out (e ▸ ha)
    · obtain rfl : k = l0.length := by omega
      go_wp2_with fail
      go_ret
      refine ⟨?_, HB.out⟩
      have := HN.out
      rw [List.take_length] at this
      have h2 : onceP (l0.map key) = true := decide_eq_true this
      rw [h2]
      rfl
theorem dup_proj (l : List Prj) (key : Prj → ByteArray) (k : Nat) (hk : k < l.length) (h : key l[k] ∈ (l.take k).map key) : onceP (l.map key) = false := by
  refine decide_eq_false (fun hn => ?_)
  obtain ⟨y, hy, he⟩ := List.mem_map.1 h
  obtain ⟨j, hj, rfl⟩ := List.getElem_of_mem hy
  rw [List.length_take] at hj
  rw [List.getElem_take] at he
  have hp := List.pairwise_iff_getElem.1 hn j k (by rw [List.length_map]; omega) (by rw [List.length_map]; omega) (by omega)
  simp at hp
  exact hp he
theorem lit_inj_proj {a b : ByteArray} (h : (Lit.string (a).data.toList) = (Lit.string (b).data.toList)) : a = b := by
  injection h with h1
  exact ByteArray.ext (Array.ext' h1)
theorem key_proj (a : ByteArray) (h : (a).size ≤ maxLen) : keyOf Try.prog 9 (.string (a)) = some (Lit.string (a).data.toList) := by
  unfold keyOf
  rw [Try.underlying9]
  simp only [mapKey, Try.underlying9]
  simp [h]
set_option maxHeartbeats 2000000 in
set_option maxRecDepth 100000 in
theorem twice_proj (fv : Value) (key : Prj → ByteArray) (A0 : Option Addr) (c0 : Nat) (l0 : List Prj) (w : World) (hr0 : Kd.C kP w A0 l0.length l0) (hl : l0.length ≤ 1000000) (hg : ∀ x ∈ l0, (key x).size ≤ maxLen)
    (hcl : ∀ (i : Nat) (hi : i < l0.length) (c : List Value) (w1 : World), Below w.heap.size w w1 → c.length = kP.sz → kP.K w1 l0[i] c → CallsV Try.prog fv #[.agg c.toArray] w1 fun e w2 => e = .returned (.string (key l0[i])) ∧ Below w1.heap.size w1 w2) :
    Calls Try.prog 125 #[.slice A0 l0.length c0, fv] w fun e w' => e = .returned (.bool (!onceP (l0.map key))) ∧ Below w.heap.size w w' := by
  have HR0 := Aside0.mk hr0
  have HCL := Aside0.mk hcl
  have HG := Aside0.mk hg
  have HN0 : Aside0 (((l0.take 0).map key).Nodup) := ⟨by simp⟩
  clear hr0 hcl hg
  go_enter Try.func125, Try.ntmps125
  go_wp2_with (first | ((with_reducible refine gate_dst (N := 8) rfl ?_); refine make_event rfl (t := 168) rfl (kt := 9) (et := 4) ?_; intro bm w1 hh1 hb1 hbm; have HH1 := Aside0.mk hh1; have HB1 := Aside0.mk hb1; have HBM := Aside0.mk hbm; clear hh1 hb1 hbm))
  go_loopw [11] (fun v11 wr => ∃ k : Nat, v11 = .int .i64 (k : Int) ∧ k ≤ l0.length ∧ Aside0 (Has Try.prog 9 4 wr bm k (((l0.take k).map fun x => (Lit.string (key x).data.toList)).reverse)) ∧ Aside0 (((l0.take k).map key).Nodup) ∧ Aside0 (Below w.heap.size w wr)) (fun v11 _ => l0.length - (intOf v11).toNat)
  case atStart => exact ⟨0, rfl, by omega, HH1, HN0, HB1⟩
  case round =>
    clear HH1 HN0 HB1
    obtain ⟨k, rfl, hk, HH, HN, HB⟩ := hrel
    by_cases hlt : k < l0.length
    ·
      obtain ⟨ad, c, hA, hcl, hK, hcc⟩ := at_cells (Kd.C_below HR0.out HB.out) k hlt
      subst hA
      have HCC := Aside0.mk hcc
      have HL := Aside0.mk hcl
      have HKk := Aside0.mk hK
      have HCW := Aside0.mk (fun w1 hb => HCL.out k hlt c w1 (below_step HB.out hb) hcl (kP.K_below hb hK))
      have hmem := List.getElem_mem hlt
      clear hcc hcl hK
      obtain ⟨x, hx⟩ : ∃ x, l0[k] = x := ⟨_, rfl⟩
      rw [hx] at HCW hmem HKk
      have HGX := Aside0.mk (HG.out x hmem)
      have HX := Aside0.mk hx
      have hgoodx := HGX.out
      have hkey : keyOf Try.prog 9 (.string (key x)) = some (Lit.string (key x).data.toList) := key_proj _ hgoodx
      have HKEY := Aside0.mk hkey
      have hmemi : ((Lit.string (key x).data.toList) ∈ ((l0.take k).map fun x => (Lit.string (key x).data.toList)).reverse) ↔ key x ∈ (l0.take k).map key := by
        rw [List.mem_reverse, List.mem_map, List.mem_map]
        constructor
        · rintro ⟨y, hy, he⟩
          exact ⟨y, hy, lit_inj_proj he⟩
        · rintro ⟨y, hy, he⟩
          exact ⟨y, hy, by rw [he]⟩
      have HMI := Aside0.mk hmemi
      clear hgoodx hkey hmemi hmem hx
      by_cases hin : key x ∈ (l0.take k).map key
      · have HIN := Aside0.mk hin
        clear hin
        go_wp2_with (first | ((with_reducible refine gate_dst (N := 14) rfl ?_); refine load_event rfl 52 (.tmp 13) rfl (ad.add (k * kP.sz)) ?e1 c HCC.out _ Try.underlying52 rfl (by rw [HL.out]; kernel_rfl) ?_; (case e1 => first | rfl | (go_simp; done) | (go_simp; rfl))) | ((with_reducible refine gate_dst (N := 7) rfl ?_); refine box_event rfl (N := 7) rfl (cs := #[.string ⟨#[]⟩, .slice none 0 0, .int .i64 0]) (t := 52) ?hr ?_; (case hr => first | (go_simp; done) | (go_simp; rfl)); intro gb hgb w7 hbx hb7; have HBX := Aside0.mk hbx; have HB7 := Aside0.mk hb7; have HGB := Aside0.mk (show wr.heap.size ≤ gb by rw [hgb]; exact Nat.le_refl _); clear hbx hb7 hgb) | ((with_reducible refine gate_ (.store 52 (.tmp 7) (.tmp 14)) rfl ?_); refine row_store_event rfl 52 (.tmp 7) (.tmp 14) rfl gb c.toArray rfl rfl 52 _ HBX.out (by rw [List.size_toArray, HL.out]; kernel_rfl) ((show (#[.string ⟨#[]⟩, .slice none 0 0, .int .i64 0] : Array Value).size = kP.sz from rfl).trans ((List.size_toArray ..).trans HL.out).symm) (all_one (kP.K_one HKk.out)) ?_; intro w8 hrs; have HR8 := Aside0.mk hrs.at_; have HB8 := Aside0.mk (hrs.below HB7.out HGB.out); clear hrs HBX HB7) | ((with_reducible refine gate_dst (N := 17) rfl ?_); refine wpList_load_row rfl 52 (.tmp 7) rfl gb rfl 52 c.toArray (0, 0) _ HR8.out Try.underlying52 rfl (by rw [List.size_toArray, HL.out]; kernel_rfl) ?_) | ((with_reducible refine gate_dst (N := 18) rfl ?_); have HCV := Aside0.mk (HCW.out _ HB8.out); refine callsV_event rfl 18 rfl (.tmp 16) [.tmp 17] #[52] rfl fv rfl [.agg c.toArray] rfl ?_; obtain ⟨f, caps, fn, h1, h2, h3, h4, h5⟩ := HCV.out; refine ⟨f, caps, fn, h1, h2, h3, h4, h5.mono ?_⟩; rintro e w4 ⟨rfl, hb2⟩; refine ⟨_, rfl, ?_⟩; have HB4 := Aside0.mk (below_step HB8.out hb2); have HR4 := Aside0.mk (blk_below HR8.out hb2); clear HCV hb2 h1 h2 h3 h4 h5) | ((with_reducible refine gate_dst (N := 19) rfl ?_); refine lookup_event (n := k) (xs := ((l0.take k).map fun x => (Lit.string (key x).data.toList)).reverse) rfl (.tmp 15) (.tmp 18) 168 rfl (string_keyed Try.underlying9) Try.underlying168 Try.underlying4 (zero_bool _) rfl (HH.out.below HB4.out) (.string (key x)) _ rfl HKEY.out ?_; intro cb hcb; obtain rfl : cb = true := hcb.2 (HMI.out.2 HIN.out); clear hcb))
        go_ret
        refine ⟨?_, below_step HB.out HB4.out⟩
        have : onceP (l0.map key) = false := dup_proj l0 key k hlt (by rw [HX.out]; exact HIN.out)
        rw [this]
        rfl
      · have HIN := Aside0.mk hin
        clear hin
        go_wp2_with (first | ((with_reducible refine gate_dst (N := 14) rfl ?_); refine load_event rfl 52 (.tmp 13) rfl (ad.add (k * kP.sz)) ?e1 c HCC.out _ Try.underlying52 rfl (by rw [HL.out]; kernel_rfl) ?_; (case e1 => first | rfl | (go_simp; done) | (go_simp; rfl))) | ((with_reducible refine gate_dst (N := 7) rfl ?_); refine box_event rfl (N := 7) rfl (cs := #[.string ⟨#[]⟩, .slice none 0 0, .int .i64 0]) (t := 52) ?hr ?_; (case hr => first | (go_simp; done) | (go_simp; rfl)); intro gb hgb w7 hbx hb7; have HBX := Aside0.mk hbx; have HB7 := Aside0.mk hb7; have HGB := Aside0.mk (show wr.heap.size ≤ gb by rw [hgb]; exact Nat.le_refl _); clear hbx hb7 hgb) | ((with_reducible refine gate_ (.store 52 (.tmp 7) (.tmp 14)) rfl ?_); refine row_store_event rfl 52 (.tmp 7) (.tmp 14) rfl gb c.toArray rfl rfl 52 _ HBX.out (by rw [List.size_toArray, HL.out]; kernel_rfl) ((show (#[.string ⟨#[]⟩, .slice none 0 0, .int .i64 0] : Array Value).size = kP.sz from rfl).trans ((List.size_toArray ..).trans HL.out).symm) (all_one (kP.K_one HKk.out)) ?_; intro w8 hrs; have HR8 := Aside0.mk hrs.at_; have HB8 := Aside0.mk (hrs.below HB7.out HGB.out); clear hrs HBX HB7) | ((with_reducible refine gate_dst (N := 17) rfl ?_); refine wpList_load_row rfl 52 (.tmp 7) rfl gb rfl 52 c.toArray (0, 0) _ HR8.out Try.underlying52 rfl (by rw [List.size_toArray, HL.out]; kernel_rfl) ?_) | ((with_reducible refine gate_dst (N := 18) rfl ?_); have HCV := Aside0.mk (HCW.out _ HB8.out); refine callsV_event rfl 18 rfl (.tmp 16) [.tmp 17] #[52] rfl fv rfl [.agg c.toArray] rfl ?_; obtain ⟨f, caps, fn, h1, h2, h3, h4, h5⟩ := HCV.out; refine ⟨f, caps, fn, h1, h2, h3, h4, h5.mono ?_⟩; rintro e w4 ⟨rfl, hb2⟩; refine ⟨_, rfl, ?_⟩; have HB4 := Aside0.mk (below_step HB8.out hb2); have HR4 := Aside0.mk (blk_below HR8.out hb2); clear HCV hb2 h1 h2 h3 h4 h5) | ((with_reducible refine gate_dst (N := 19) rfl ?_); refine lookup_event (n := k) (xs := ((l0.take k).map fun x => (Lit.string (key x).data.toList)).reverse) rfl (.tmp 15) (.tmp 18) 168 rfl (string_keyed Try.underlying9) Try.underlying168 Try.underlying4 (zero_bool _) rfl (HH.out.below HB4.out) (.string (key x)) _ rfl HKEY.out ?_; intro cb hcb; obtain rfl : cb = false := Bool.eq_false_iff.2 (fun h => HIN.out (HMI.out.1 (hcb.1 h))); clear hcb) | ((with_reducible refine gate_dst (N := 22) rfl ?_); refine wpList_load_row rfl 52 (.tmp 7) rfl gb rfl 52 c.toArray (0, 0) _ HR4.out Try.underlying52 rfl (by rw [List.size_toArray, HL.out]; kernel_rfl) ?_) | ((with_reducible refine gate_dst (N := 23) rfl ?_); have HCV := Aside0.mk (HCW.out _ HB4.out); refine callsV_event rfl 23 rfl (.tmp 21) [.tmp 22] #[52] rfl fv rfl [.agg c.toArray] rfl ?_; obtain ⟨f, caps, fn, h1, h2, h3, h4, h5⟩ := HCV.out; refine ⟨f, caps, fn, h1, h2, h3, h4, h5.mono ?_⟩; rintro e w5 ⟨rfl, hb2⟩; refine ⟨_, rfl, ?_⟩; have HB5 := Aside0.mk (below_step HB4.out hb2); clear HCV hb2 h1 h2 h3 h4 h5) | ((with_reducible refine gate_mapUpdate (t := 168) rfl ?_); refine update_event (n := k) (xs := ((l0.take k).map fun x => (Lit.string (key x).data.toList)).reverse) rfl (.tmp 20) (.tmp 23) _ 168 rfl (string_keyed Try.underlying9) Try.underlying168 Try.underlying4 rfl (HH.out.below HB5.out) (by unfold maxLen; omega) (.string (key x)) _ rfl rfl HKEY.out ?_; intro w6 hh6 hg6; have HH6 := Aside0.mk hh6; have HB6 := Aside0.mk ((below_step HB.out HB5.out).grown hg6 (below_step HB.out HB5.out).size (fun k hk => by injection hk with hk; rw [← hk]; exact HBM.out)); clear hh6 hg6))
        have hsn : (l0.take (k + 1)) = l0.take k ++ [x] := by rw [List.take_succ_eq_append_getElem hlt, HX.out]
        refine ⟨⟨k + 1, by simp, by omega, ⟨?_⟩, ⟨?_⟩, HB6⟩, by simp [intOf]; omega⟩
        · rw [hsn, List.map_append, List.reverse_append]
          exact HH6.out
        · rw [hsn, List.map_append, List.nodup_append]
          refine ⟨HN.out, by simp, ?_⟩
          intro a ha b hb
          simp at hb
          subst hb
          intro e
          exact HIN.out (e ▸ ha)
    · obtain rfl : k = l0.length := by omega
      go_wp2_with fail
      go_ret
      refine ⟨?_, HB.out⟩
      have := HN.out
      rw [List.take_length] at this
      have h2 : onceP (l0.map key) = true := decide_eq_true this
      rw [h2]
      rfl
theorem dup_table (l : List Tab) (key : Tab → ByteArray) (k : Nat) (hk : k < l.length) (h : key l[k] ∈ (l.take k).map key) : onceP (l.map key) = false := by
  refine decide_eq_false (fun hn => ?_)
  obtain ⟨y, hy, he⟩ := List.mem_map.1 h
  obtain ⟨j, hj, rfl⟩ := List.getElem_of_mem hy
  rw [List.length_take] at hj
  rw [List.getElem_take] at he
  have hp := List.pairwise_iff_getElem.1 hn j k (by rw [List.length_map]; omega) (by rw [List.length_map]; omega) (by omega)
  simp at hp
  exact hp he
theorem lit_inj_table {a b : ByteArray} (h : (Lit.string (a).data.toList) = (Lit.string (b).data.toList)) : a = b := by
  injection h with h1
  exact ByteArray.ext (Array.ext' h1)
theorem key_table (a : ByteArray) (h : (a).size ≤ maxLen) : keyOf Try.prog 9 (.string (a)) = some (Lit.string (a).data.toList) := by
  unfold keyOf
  rw [Try.underlying9]
  simp only [mapKey, Try.underlying9]
  simp [h]
set_option maxHeartbeats 2000000 in
set_option maxRecDepth 100000 in
theorem twice_table (fv : Value) (key : Tab → ByteArray) (A0 : Option Addr) (c0 : Nat) (l0 : List Tab) (w : World) (hr0 : Kd.C kT w A0 l0.length l0) (hl : l0.length ≤ 1000000) (hg : ∀ x ∈ l0, (key x).size ≤ maxLen)
    (hcl : ∀ (i : Nat) (hi : i < l0.length) (c : List Value) (w1 : World), Below w.heap.size w w1 → c.length = kT.sz → kT.K w1 l0[i] c → CallsV Try.prog fv #[.agg c.toArray] w1 fun e w2 => e = .returned (.string (key l0[i])) ∧ Below w1.heap.size w1 w2) :
    Calls Try.prog 86 #[.slice A0 l0.length c0, fv] w fun e w' => e = .returned (.bool (!onceP (l0.map key))) ∧ Below w.heap.size w w' := by
  have HR0 := Aside0.mk hr0
  have HCL := Aside0.mk hcl
  have HG := Aside0.mk hg
  have HN0 : Aside0 (((l0.take 0).map key).Nodup) := ⟨by simp⟩
  clear hr0 hcl hg
  go_enter Try.func86, Try.ntmps86
  go_wp2_with (first | ((with_reducible refine gate_dst (N := 8) rfl ?_); refine make_event rfl (t := 168) rfl (kt := 9) (et := 4) ?_; intro bm w1 hh1 hb1 hbm; have HH1 := Aside0.mk hh1; have HB1 := Aside0.mk hb1; have HBM := Aside0.mk hbm; clear hh1 hb1 hbm))
  go_loopw [11] (fun v11 wr => ∃ k : Nat, v11 = .int .i64 (k : Int) ∧ k ≤ l0.length ∧ Aside0 (Has Try.prog 9 4 wr bm k (((l0.take k).map fun x => (Lit.string (key x).data.toList)).reverse)) ∧ Aside0 (((l0.take k).map key).Nodup) ∧ Aside0 (Below w.heap.size w wr)) (fun v11 _ => l0.length - (intOf v11).toNat)
  case atStart => exact ⟨0, rfl, by omega, HH1, HN0, HB1⟩
  case round =>
    clear HH1 HN0 HB1
    obtain ⟨k, rfl, hk, HH, HN, HB⟩ := hrel
    by_cases hlt : k < l0.length
    ·
      obtain ⟨ad, c, hA, hcl, hK, hcc⟩ := at_cells (Kd.C_below HR0.out HB.out) k hlt
      subst hA
      have HCC := Aside0.mk hcc
      have HL := Aside0.mk hcl
      have HKk := Aside0.mk hK
      have HCW := Aside0.mk (fun w1 hb => HCL.out k hlt c w1 (below_step HB.out hb) hcl (kT.K_below hb hK))
      have hmem := List.getElem_mem hlt
      clear hcc hcl hK
      obtain ⟨x, hx⟩ : ∃ x, l0[k] = x := ⟨_, rfl⟩
      rw [hx] at HCW hmem HKk
      have HGX := Aside0.mk (HG.out x hmem)
      have HX := Aside0.mk hx
      have hgoodx := HGX.out
      have hkey : keyOf Try.prog 9 (.string (key x)) = some (Lit.string (key x).data.toList) := key_table _ hgoodx
      have HKEY := Aside0.mk hkey
      have hmemi : ((Lit.string (key x).data.toList) ∈ ((l0.take k).map fun x => (Lit.string (key x).data.toList)).reverse) ↔ key x ∈ (l0.take k).map key := by
        rw [List.mem_reverse, List.mem_map, List.mem_map]
        constructor
        · rintro ⟨y, hy, he⟩
          exact ⟨y, hy, lit_inj_table he⟩
        · rintro ⟨y, hy, he⟩
          exact ⟨y, hy, by rw [he]⟩
      have HMI := Aside0.mk hmemi
      clear hgoodx hkey hmemi hmem hx
      by_cases hin : key x ∈ (l0.take k).map key
      · have HIN := Aside0.mk hin
        clear hin
        go_wp2_with (first | ((with_reducible refine gate_dst (N := 14) rfl ?_); refine load_event rfl 47 (.tmp 13) rfl (ad.add (k * kT.sz)) ?e1 c HCC.out _ Try.underlying47 rfl (by rw [HL.out]; kernel_rfl) ?_; (case e1 => first | rfl | (go_simp; done) | (go_simp; rfl))) | ((with_reducible refine gate_dst (N := 7) rfl ?_); refine box_event rfl (N := 7) rfl (cs := #[.string ⟨#[]⟩, .slice none 0 0, .slice none 0 0]) (t := 47) ?hr ?_; (case hr => first | (go_simp; done) | (go_simp; rfl)); intro gb hgb w7 hbx hb7; have HBX := Aside0.mk hbx; have HB7 := Aside0.mk hb7; have HGB := Aside0.mk (show wr.heap.size ≤ gb by rw [hgb]; exact Nat.le_refl _); clear hbx hb7 hgb) | ((with_reducible refine gate_ (.store 47 (.tmp 7) (.tmp 14)) rfl ?_); refine row_store_event rfl 47 (.tmp 7) (.tmp 14) rfl gb c.toArray rfl rfl 47 _ HBX.out (by rw [List.size_toArray, HL.out]; kernel_rfl) ((show (#[.string ⟨#[]⟩, .slice none 0 0, .slice none 0 0] : Array Value).size = kT.sz from rfl).trans ((List.size_toArray ..).trans HL.out).symm) (all_one (kT.K_one HKk.out)) ?_; intro w8 hrs; have HR8 := Aside0.mk hrs.at_; have HB8 := Aside0.mk (hrs.below HB7.out HGB.out); clear hrs HBX HB7) | ((with_reducible refine gate_dst (N := 17) rfl ?_); refine wpList_load_row rfl 47 (.tmp 7) rfl gb rfl 47 c.toArray (0, 0) _ HR8.out Try.underlying47 rfl (by rw [List.size_toArray, HL.out]; kernel_rfl) ?_) | ((with_reducible refine gate_dst (N := 18) rfl ?_); have HCV := Aside0.mk (HCW.out _ HB8.out); refine callsV_event rfl 18 rfl (.tmp 16) [.tmp 17] #[47] rfl fv rfl [.agg c.toArray] rfl ?_; obtain ⟨f, caps, fn, h1, h2, h3, h4, h5⟩ := HCV.out; refine ⟨f, caps, fn, h1, h2, h3, h4, h5.mono ?_⟩; rintro e w4 ⟨rfl, hb2⟩; refine ⟨_, rfl, ?_⟩; have HB4 := Aside0.mk (below_step HB8.out hb2); have HR4 := Aside0.mk (blk_below HR8.out hb2); clear HCV hb2 h1 h2 h3 h4 h5) | ((with_reducible refine gate_dst (N := 19) rfl ?_); refine lookup_event (n := k) (xs := ((l0.take k).map fun x => (Lit.string (key x).data.toList)).reverse) rfl (.tmp 15) (.tmp 18) 168 rfl (string_keyed Try.underlying9) Try.underlying168 Try.underlying4 (zero_bool _) rfl (HH.out.below HB4.out) (.string (key x)) _ rfl HKEY.out ?_; intro cb hcb; obtain rfl : cb = true := hcb.2 (HMI.out.2 HIN.out); clear hcb))
        go_ret
        refine ⟨?_, below_step HB.out HB4.out⟩
        have : onceP (l0.map key) = false := dup_table l0 key k hlt (by rw [HX.out]; exact HIN.out)
        rw [this]
        rfl
      · have HIN := Aside0.mk hin
        clear hin
        go_wp2_with (first | ((with_reducible refine gate_dst (N := 14) rfl ?_); refine load_event rfl 47 (.tmp 13) rfl (ad.add (k * kT.sz)) ?e1 c HCC.out _ Try.underlying47 rfl (by rw [HL.out]; kernel_rfl) ?_; (case e1 => first | rfl | (go_simp; done) | (go_simp; rfl))) | ((with_reducible refine gate_dst (N := 7) rfl ?_); refine box_event rfl (N := 7) rfl (cs := #[.string ⟨#[]⟩, .slice none 0 0, .slice none 0 0]) (t := 47) ?hr ?_; (case hr => first | (go_simp; done) | (go_simp; rfl)); intro gb hgb w7 hbx hb7; have HBX := Aside0.mk hbx; have HB7 := Aside0.mk hb7; have HGB := Aside0.mk (show wr.heap.size ≤ gb by rw [hgb]; exact Nat.le_refl _); clear hbx hb7 hgb) | ((with_reducible refine gate_ (.store 47 (.tmp 7) (.tmp 14)) rfl ?_); refine row_store_event rfl 47 (.tmp 7) (.tmp 14) rfl gb c.toArray rfl rfl 47 _ HBX.out (by rw [List.size_toArray, HL.out]; kernel_rfl) ((show (#[.string ⟨#[]⟩, .slice none 0 0, .slice none 0 0] : Array Value).size = kT.sz from rfl).trans ((List.size_toArray ..).trans HL.out).symm) (all_one (kT.K_one HKk.out)) ?_; intro w8 hrs; have HR8 := Aside0.mk hrs.at_; have HB8 := Aside0.mk (hrs.below HB7.out HGB.out); clear hrs HBX HB7) | ((with_reducible refine gate_dst (N := 17) rfl ?_); refine wpList_load_row rfl 47 (.tmp 7) rfl gb rfl 47 c.toArray (0, 0) _ HR8.out Try.underlying47 rfl (by rw [List.size_toArray, HL.out]; kernel_rfl) ?_) | ((with_reducible refine gate_dst (N := 18) rfl ?_); have HCV := Aside0.mk (HCW.out _ HB8.out); refine callsV_event rfl 18 rfl (.tmp 16) [.tmp 17] #[47] rfl fv rfl [.agg c.toArray] rfl ?_; obtain ⟨f, caps, fn, h1, h2, h3, h4, h5⟩ := HCV.out; refine ⟨f, caps, fn, h1, h2, h3, h4, h5.mono ?_⟩; rintro e w4 ⟨rfl, hb2⟩; refine ⟨_, rfl, ?_⟩; have HB4 := Aside0.mk (below_step HB8.out hb2); have HR4 := Aside0.mk (blk_below HR8.out hb2); clear HCV hb2 h1 h2 h3 h4 h5) | ((with_reducible refine gate_dst (N := 19) rfl ?_); refine lookup_event (n := k) (xs := ((l0.take k).map fun x => (Lit.string (key x).data.toList)).reverse) rfl (.tmp 15) (.tmp 18) 168 rfl (string_keyed Try.underlying9) Try.underlying168 Try.underlying4 (zero_bool _) rfl (HH.out.below HB4.out) (.string (key x)) _ rfl HKEY.out ?_; intro cb hcb; obtain rfl : cb = false := Bool.eq_false_iff.2 (fun h => HIN.out (HMI.out.1 (hcb.1 h))); clear hcb) | ((with_reducible refine gate_dst (N := 22) rfl ?_); refine wpList_load_row rfl 47 (.tmp 7) rfl gb rfl 47 c.toArray (0, 0) _ HR4.out Try.underlying47 rfl (by rw [List.size_toArray, HL.out]; kernel_rfl) ?_) | ((with_reducible refine gate_dst (N := 23) rfl ?_); have HCV := Aside0.mk (HCW.out _ HB4.out); refine callsV_event rfl 23 rfl (.tmp 21) [.tmp 22] #[47] rfl fv rfl [.agg c.toArray] rfl ?_; obtain ⟨f, caps, fn, h1, h2, h3, h4, h5⟩ := HCV.out; refine ⟨f, caps, fn, h1, h2, h3, h4, h5.mono ?_⟩; rintro e w5 ⟨rfl, hb2⟩; refine ⟨_, rfl, ?_⟩; have HB5 := Aside0.mk (below_step HB4.out hb2); clear HCV hb2 h1 h2 h3 h4 h5) | ((with_reducible refine gate_mapUpdate (t := 168) rfl ?_); refine update_event (n := k) (xs := ((l0.take k).map fun x => (Lit.string (key x).data.toList)).reverse) rfl (.tmp 20) (.tmp 23) _ 168 rfl (string_keyed Try.underlying9) Try.underlying168 Try.underlying4 rfl (HH.out.below HB5.out) (by unfold maxLen; omega) (.string (key x)) _ rfl rfl HKEY.out ?_; intro w6 hh6 hg6; have HH6 := Aside0.mk hh6; have HB6 := Aside0.mk ((below_step HB.out HB5.out).grown hg6 (below_step HB.out HB5.out).size (fun k hk => by injection hk with hk; rw [← hk]; exact HBM.out)); clear hh6 hg6))
        have hsn : (l0.take (k + 1)) = l0.take k ++ [x] := by rw [List.take_succ_eq_append_getElem hlt, HX.out]
        refine ⟨⟨k + 1, by simp, by omega, ⟨?_⟩, ⟨?_⟩, HB6⟩, by simp [intOf]; omega⟩
        · rw [hsn, List.map_append, List.reverse_append]
          exact HH6.out
        · rw [hsn, List.map_append, List.nodup_append]
          refine ⟨HN.out, by simp, ?_⟩
          intro a ha b hb
          simp at hb
          subst hb
          intro e
          exact HIN.out (e ▸ ha)
    · obtain rfl : k = l0.length := by omega
      go_wp2_with fail
      go_ret
      refine ⟨?_, HB.out⟩
      have := HN.out
      rw [List.take_length] at this
      have h2 : onceP (l0.map key) = true := decide_eq_true this
      rw [h2]
      rfl
end Go.Proofs.Ytgjclhhjigflkac.Sc

/- The walk of schema.name: may a text be a name? -/
namespace Go.Proofs.Ytgjclhhjigflkac.Sc
open Go Go.RowKit Go.Proofs.Ytgjclhhjigflkac.C Go.Proofs.Ytgjclhhjigflkac.MyWords Go.Proofs.Ytgjclhhjigflkac.Hand Go.Proofs.YtgjclhhjigflkacW.PrintWords Go.Proofs.YtgjclhhjigflkacW.PrintLast Go.Proofs.YtgjclhhjigflkacW.PrintMore
set_option linter.unusedVariables false
set_option linter.unusedSimpArgs false
section
variable {P : Program} {ops : Array Oper} {rest : List Oper} {o : Oper} {a : Act} {Q : Exit → Act → World → Prop} {W : World}
/-- a text as bytes -/
theorem bytes_event (hg : o.guard = none) (src dst e : TypeId) (x : Operand) (hop : o.op = .convert src dst x) {u : TypeDesc} (hs : P.underlying src = some u) (hd : P.underlying dst = some (.slice e)) (he : P.underlying e = some (.int .u8)) (s : ByteArray) (hx : a.eval x = .string s) (hsz : s.size ≤ 9223372036854775807)
    (h : ∀ b cap w1, ReadsInt w1 .u8 (some ⟨b, 0, none⟩) s.size (bytesOf s) → Below W.heap.size W w1 → wpList P ops Q rest (a.put o.dst (.slice (some ⟨b, 0, none⟩) s.size cap)) w1) : wpList P ops Q (o :: rest) a W := by
  refine Kd.event_run hg (v := .slice (some ⟨W.heap.size, 0, none⟩) s.size (grownCap W s.size 0 e)) (w1 := Lib.bytesWorld W e s) ?_ (h _ _ _ (bytes_reads W e s hsz) (bytes_below (Below.refl _ _) (Nat.le_refl _) e s))
  unfold execOp
  simp [hop, hx, print_bytes src dst e hs hd he s W]
end
theorem okAll_of (s : ByteArray) (h : ∀ i, i < s.size → okc i (bt s (i : Int)) = true) : okAll s = true := by
  unfold okAll
  rw [List.all_eq_true]
  intro i hi
  exact h i (List.mem_range.1 hi)
theorem okAll_not (s : ByteArray) (i : Nat) (hi : i < s.size) (h : okc i (bt s (i : Int)) = false) : okAll s = false := by
  unfold okAll
  rw [List.all_eq_false]
  exact ⟨i, List.mem_range.2 hi, by rw [h]; decide⟩
set_option maxHeartbeats 2000000 in
set_option maxRecDepth 100000 in
theorem name_calls (s : ByteArray) (w : World) (hs : s.size ≤ 9223372036854775807) : Calls Try.prog 99 #[.string s] w fun e w' => e = .returned (.bool (nameP s)) ∧ Below w.heap.size w w' := by
  go_enter Try.func99, Try.ntmps99
  go_wp2_with (first | ((with_reducible refine gate_dst (N := 7) rfl ?_); refine bytes_event rfl 9 106 5 (.tmp 6) rfl Try.underlying9 Try.underlying106 Try.underlying5 s rfl hs ?_; intro b cap w1 hr1 hb1; have HR := Aside0.mk hr1; have HB := Aside0.mk hb1; clear hr1 hb1))
  go_loop [9] (fun v9 => ∃ k : Nat, v9 = .int .i64 (k : Int) ∧ k ≤ s.size ∧ Aside0 (∀ i, i < k → okc i (bt s (i : Int)) = true)) (fun v9 => s.size - (intOf v9).toNat)
  case atStart => exact ⟨0, rfl, Nat.zero_le _, ⟨fun i hi => absurd hi (by omega)⟩⟩
  case round =>
    obtain ⟨k, rfl, hk, HOK⟩ := hrel
    by_cases hlt : k < s.size
    · obtain ⟨ad, hA, hcell⟩ := HR.out.at_ (k : Int) (by omega) (by omega)
      injection hA with hA
      subst hA
      rw [rd_bytesOf, Int.toNat_natCast, add_plain] at hcell
      have hrg := bt_range s (k : Int)
      obtain ⟨c, hc⟩ : ∃ c, bt s (k : Int) = c := ⟨_, rfl⟩
      rw [hc] at hcell hrg
      have HC := Aside0.mk hc
      have HRG := Aside0.mk hrg
      clear hc hrg
      cases hok : okc k c with
      | true =>
        have hstep : Aside0 (∀ i, i < k + 1 → okc i (bt s (i : Int)) = true) := ⟨fun i hi => by
          by_cases e : i = k
          · subst e; rw [HC.out]; exact hok
          · exact HOK.out i (by omega)⟩
        have hcs : (97 ≤ c ∧ c ≤ 122) ∨ ((¬ (97 ≤ c ∧ c ≤ 122)) ∧ 0 < k ∧ (c = 95 ∨ (c ≠ 95 ∧ 48 ≤ c ∧ c ≤ 57))) := by
          unfold okc at hok
          by_cases h1 : 97 ≤ c ∧ c ≤ 122
          · exact .inl h1
          · refine .inr ⟨h1, ?_⟩
            rw [decide_eq_false h1] at hok
            simp at hok
            refine ⟨by omega, ?_⟩
            rcases hok.2 with h | h
            · exact .inl h
            · exact .inr ⟨by omega, h.1, h.2⟩
        clear hok
        rcases hcs with ⟨h1, h2⟩ | ⟨h1, h2, h3⟩
        · go_wp2
          exact ⟨⟨k + 1, by simp, by omega, hstep⟩, by simp [intOf]; omega⟩
        · have h0 : ((k : Int) == 0) = false := by simp; omega
          have hl : ¬ 97 ≤ c ∨ (97 ≤ c ∧ ¬ c ≤ 122) := by omega
          clear h1
          rcases h3 with rfl | ⟨h4, h5, h6⟩
          · go_wp2
            all_goals exact ⟨⟨k + 1, by simp, by omega, hstep⟩, by simp [intOf]; omega⟩
          · have h7 : ¬ 97 ≤ c := by omega
            have h8 : (c != 95) = true := by simp [h4]
            have h9 : ¬ c < 48 := by omega
            have h10 : ¬ 57 < c := by omega
            have g7 : decide (97 ≤ c) = false := decide_eq_false h7
            have g9 : decide (c < 48) = false := decide_eq_false h9
            have g10 : decide (57 < c) = false := decide_eq_false h10
            clear hl h4
            go_wp2
            all_goals exact ⟨⟨k + 1, by simp, by omega, hstep⟩, by simp [intOf]; omega⟩
      | false =>
        have hfin : Aside0 (nameP s = false) := ⟨by
          unfold nameP
          rw [okAll_not s k hlt (by rw [HC.out]; exact hok)]
          rfl⟩
        have hcs : ¬ (97 ≤ c ∧ c ≤ 122) ∧ (k = 0 ∨ (0 < k ∧ c ≠ 95 ∧ (c < 48 ∨ 57 < c))) := by
          unfold okc at hok
          simp at hok
          refine ⟨by omega, ?_⟩
          by_cases hk0 : k = 0
          · exact .inl hk0
          · have h2 := hok.2 (by omega)
            refine .inr ⟨by omega, h2.1, ?_⟩
            by_cases h3 : c < 48
            · exact .inl h3
            · exact .inr (by have := h2.2; omega)
        clear hok
        obtain ⟨h1, h2⟩ := hcs
        have hl : (¬ 97 ≤ c) ∨ (97 ≤ c ∧ ¬ c ≤ 122) := by omega
        clear h1
        rcases h2 with rfl | ⟨h3, h4, h5⟩
        · rcases hl with h6 | ⟨h6, h7⟩
          · have g6 : decide (97 ≤ c) = false := decide_eq_false h6
            go_wp2
            go_ret
            exact ⟨by rw [hfin.out]; rfl, HB.out⟩
          · have g7 : decide (c ≤ 122) = false := decide_eq_false h7
            go_wp2
            go_ret
            exact ⟨by rw [hfin.out]; rfl, HB.out⟩
        · have h0 : ((k : Int) == 0) = false := by simp; omega
          have h8 : (c != 95) = true := by simp [h4]
          clear h4
          rcases hl with h6 | ⟨h6, h7⟩
          · have g6 : decide (97 ≤ c) = false := decide_eq_false h6
            rcases h5 with h9 | h9
            · go_wp2
              go_ret
              exact ⟨by rw [hfin.out]; rfl, HB.out⟩
            · have g9 : decide (c < 48) = false := decide_eq_false (by omega)
              go_wp2
              go_ret
              exact ⟨by rw [hfin.out]; rfl, HB.out⟩
          · have g7 : decide (c ≤ 122) = false := decide_eq_false h7
            have g9 : decide (c < 48) = false := decide_eq_false (by omega)
            have g10 : decide (57 < c) = true := decide_eq_true (by omega)
            go_wp2
            go_ret
            exact ⟨by rw [hfin.out]; rfl, HB.out⟩
    · obtain rfl : k = s.size := by omega
      have hall := okAll_of s HOK.out
      have hfin : Aside0 (nameP s = (decide (1 ≤ s.size) && decide (s.size ≤ 16))) := ⟨by unfold nameP; rw [hall]; simp⟩
      clear hall
      by_cases h1 : 1 ≤ s.size
      · by_cases h2 : s.size ≤ 16
        · go_wp2
          go_ret
          exact ⟨by rw [hfin.out, decide_eq_true h1, decide_eq_true h2]; first | rfl | (simp; done) | (simp; omega), HB.out⟩
        · have g2 : decide (s.size ≤ 16) = false := decide_eq_false h2
          have g3 : decide ((s.size : Int) ≤ 16) = false := decide_eq_false (by omega)
          go_wp2
          go_ret
          exact ⟨by rw [hfin.out, g2, decide_eq_true h1]; rfl, HB.out⟩
      · have h0 : s.size = 0 := by omega
        have g1 : decide (1 ≤ s.size) = false := decide_eq_false h1
        have g3 : decide (1 ≤ (s.size : Int)) = false := decide_eq_false (by omega)
        have g4 : decide (0 < s.size) = false := decide_eq_false (by omega)
        clear h0
        go_wp2
        go_ret
        exact ⟨by rw [hfin.out, g1]; rfl, HB.out⟩
end Go.Proofs.Ytgjclhhjigflkac.Sc

/- Small words for 'Ev': a test that is decided, whatever the rounds. No Go here. -/
namespace Go.Proofs.Ytgjclhhjigflkac.EvW
open Go.Proofs.YtgjclhhjigflkacW.PrintWords
theorem ev_pos {α : Type} {c : Prop} [Decidable c] {g f : Nat → Option α} {r : α} (h : c) (k : Ev g r) : Ev (fun n => if c then g n else f n) r :=
  Ev.congr (fun _ => if_pos h) k
theorem ev_neg {α : Type} {c : Prop} [Decidable c] {g f : Nat → Option α} {r : α} (h : ¬ c) (k : Ev f r) : Ev (fun n => if c then g n else f n) r :=
  Ev.congr (fun _ => if_neg h) k
end Go.Proofs.Ytgjclhhjigflkac.EvW

/- slices.Index and Contains over whole numbers: what the printed ones come to. -/
namespace Go.Proofs.Ytgjclhhjigflkac.Sc
open Go Go.RowKit Go.Proofs.Ytgjclhhjigflkac.C Go.Proofs.Ytgjclhhjigflkac.Hand Go.Proofs.Ytgjclhhjigflkac.EvW Go.Proofs.YtgjclhhjigflkacW.PrintWords
set_option linter.unusedVariables false
set_option linter.unusedSimpArgs false
theorem w64 (i : Nat) (h : i ≤ 100000000) : wrap64 ((i : Int) + 1) = ((i + 1 : Nat) : Int) := by unfold wrap64; omega
theorem rd_at (l : List Int) (i : Nat) (h : i < l.length) : rd l (i : Int) = l[i] := by
  unfold rd
  rw [Int.toNat_natCast, List.getD_eq_getElem?_getD, List.getElem?_eq_getElem h]
  rfl
def idxI (l : List Int) (x : Int) : Int := idxF (fun y => decide (x = y)) l 0
theorem idx_l0 (l : List Int) (hl : l.length ≤ 1000000) (x : Int) : ∀ (d i : Nat), i + d = l.length → Ev (fun k => slices_Index_int_int.l0 k l x (l.length : Int) (i : Int)) (idxF (fun y => decide (x = y)) (l.drop i) i) := by
  intro d
  induction d with
  | zero =>
    intro i hi
    refine Ev.step (f := fun _ => some (-1)) (fun k => ?_) ?_
    · rw [slices_Index_int_int.l0, if_neg (by omega)]
    · rw [List.drop_of_length_le (by omega)]
      exact Ev.now _
  | succ d ih =>
    intro i hi
    have hlt : i < l.length := by omega
    rw [idxF_drop _ l i hlt]
    by_cases he : x = l[i]
    · rw [if_pos (by simpa using he)]
      refine Ev.step (f := fun _ => some (i : Int)) (fun k => ?_) (Ev.now _)
      rw [slices_Index_int_int.l0, if_pos (by omega), if_pos (by omega), if_pos (by omega), rd_at l i hlt, if_pos he]
    · rw [if_neg (by simpa using he)]
      refine Ev.step (f := fun k => slices_Index_int_int.l0 k l x (l.length : Int) ((i + 1 : Nat) : Int)) (fun k => ?_) (ih (i + 1) (by omega))
      rw [slices_Index_int_int.l0, if_pos (by omega), if_pos (by omega), if_pos (by omega), rd_at l i hlt, if_neg he, w64 i (by omega)]
theorem idx_ev (l : List Int) (hl : l.length ≤ 1000000) (x : Int) : Ev (fun k => slices_Index_int_int.f k l x) (idxI l x) := by
  have := idx_l0 l hl x l.length 0 (Nat.zero_add _)
  rw [List.drop_zero] at this
  exact this
theorem idxI_has (l : List Int) (x : Int) : decide (idxI l x ≥ 0) = decide (x ∈ l) := by
  unfold idxI
  rcases idxF_range (fun y => decide (x = y)) l 0 with ⟨h1, h2⟩ | ⟨i, hi, h1, h2, h3⟩
  · rw [h1]
    have : ¬ x ∈ l := fun h => by have := h2 x h; simp at this
    rw [decide_eq_false this]
    rfl
  · rw [h1]
    have : x ∈ l := by
      have h4 : x = l[i] := by simpa using h2
      rw [h4]
      exact List.getElem_mem hi
    rw [decide_eq_true this, decide_eq_true (by omega)]
theorem has_ev (l : List Int) (hl : l.length ≤ 1000000) (x : Int) : Ev (fun k => slices_Contains_int_int.f k l x) (decide (x ∈ l)) := by
  unfold slices_Contains_int_int.f
  rw [← idxI_has]
  exact Ev.bind (idx_ev l hl x) (Ev.now _)
end Go.Proofs.Ytgjclhhjigflkac.Sc
