/- The walks of slices.IndexFunc and ContainsFunc over whole numbers: whatever the function value, if it answers. -/
import Derived.Test.YtgjclhhjigflkacProg
import Derived.Test.YtgjclhhjigflkacHand
namespace Go.Proofs.Ytgjclhhjigflkac.M
open Go Go.RowKit Go.Proofs.Ytgjclhhjigflkac.MyWords Go.Proofs.Ytgjclhhjigflkac.Hand Go.Proofs.YtgjclhhjigflkacW.PrintWords Go.Proofs.YtgjclhhjigflkacW.PrintLast Go.Proofs.YtgjclhhjigflkacW.PrintMore
set_option linter.unusedVariables false
set_option linter.unusedSimpArgs false
set_option maxHeartbeats 1000000 in
set_option maxRecDepth 100000 in
theorem index_int (fv : Value) (p : Int → Bool) (A0 : Option Addr) (c0 : Nat) (l0 : List Int) (r : Int) (w : World) (hr0 : Kd.C (Kd.int .i64) w A0 l0.length l0) (hc0 : l0.length ≤ c0) (hl : l0.length ≤ 9223372036854775806)
    (hcl : ∀ (x : Int), x ∈ l0 → ∀ (w1 : World), Below w.heap.size w w1 → CallsV Try.prog fv #[.int .i64 x] w1 fun e w2 => e = .returned (.bool (p x)) ∧ Below w1.heap.size w1 w2)
    (h : idxF p l0 0 = r) :
    Calls Try.prog 98 #[.slice A0 l0.length c0, fv] w fun e w' => e = .returned (.int .i64 r) ∧ Below w.heap.size w w' := by
  have HR0 := Aside0.mk hr0
  have HC0 := Aside0.mk hc0
  have HCL := Aside0.mk hcl
  have HE : Aside0 (idxF p (l0.drop 0) 0 = r) := ⟨by rw [List.drop_zero]; exact h⟩
  clear hr0 hc0 h hcl
  go_enter Try.func98, Try.ntmps98
  go_wp2
  go_loopw [8] (fun v8 wr => ∃ k : Nat, v8 = .int .i64 (k : Int) ∧ k ≤ l0.length ∧ Aside0 (idxF p (l0.drop k) k = r) ∧ Aside0 (Below w.heap.size w wr)) (fun v8 _ => l0.length - (intOf v8).toNat)
  case atStart => exact ⟨0, rfl, by omega, HE, ⟨Below.refl _ _⟩⟩
  case round =>
    obtain ⟨k, rfl, hk, HF, HB⟩ := hrel
    by_cases hlt : k < l0.length
    · obtain ⟨ad, hA, hcell⟩ := Kd.at_int (Kd.C_below HR0.out HB.out) (k : Int) (by omega) (by omega)
      subst hA
      have hrd : rd l0 (k : Int) = l0[k] := by
        unfold rd
        rw [Int.toNat_natCast, List.getD_eq_getElem?_getD, List.getElem?_eq_getElem hlt]
        rfl
      rw [hrd, Int.toNat_natCast] at hcell
      obtain ⟨x, hx⟩ : ∃ x, l0[k] = x := ⟨_, rfl⟩
      have hm : x ∈ l0 := by rw [← hx]; exact List.getElem_mem hlt
      rw [hx] at hcell
      have hF2 := HF.out
      rw [idxF_drop p l0 k hlt, hx] at hF2
      have HF2 := Aside0.mk hF2
      have HCW := Aside0.mk (HCL.out x hm wr HB.out)
      clear hF2 hrd hx hm
      obtain ⟨b, hb⟩ : ∃ b, p x = b := ⟨_, rfl⟩
      rw [hb] at HCW HF2
      clear hb
      cases b with
      | true =>
        go_wp2_with (first | (refine callsV_event rfl 16 rfl (.tmp 11) [.tmp 15] #[3] rfl fv rfl [.int .i64 x] rfl ?_; obtain ⟨f, caps, fn, h1, h2, h3, h4, h5⟩ := HCW.out; refine ⟨f, caps, fn, h1, h2, h3, h4, h5.mono ?_⟩; rintro e w2 ⟨rfl, hb2⟩; refine ⟨_, rfl, ?_⟩; have HB2 := Aside0.mk hb2; clear hb2 h1 h2 h3 h4 h5))
        go_ret
        refine ⟨?_, below_step HB.out HB2.out⟩
        have := HF2.out
        rw [← this]
        simp
      | false =>
        go_wp2_with (first | (refine callsV_event rfl 16 rfl (.tmp 11) [.tmp 15] #[3] rfl fv rfl [.int .i64 x] rfl ?_; obtain ⟨f, caps, fn, h1, h2, h3, h4, h5⟩ := HCW.out; refine ⟨f, caps, fn, h1, h2, h3, h4, h5.mono ?_⟩; rintro e w2 ⟨rfl, hb2⟩; refine ⟨_, rfl, ?_⟩; have HB2 := Aside0.mk hb2; clear hb2 h1 h2 h3 h4 h5))
        refine ⟨⟨k + 1, by simp, by omega, ⟨?_⟩, ⟨below_step HB.out HB2.out⟩⟩, by simp [intOf]; omega⟩
        have := HF2.out
        simpa using this
    · have hend : r = -1 := by
        have := HF.out
        rw [List.drop_of_length_le (by omega), idxF] at this
        exact this.symm
      subst hend
      go_wp2
      go_ret
      exact ⟨rfl, HB.out⟩
theorem idxF_any {α : Type} (p : α → Bool) (l : List α) : decide (0 ≤ idxF p l 0) = l.any p := by
  rcases idxF_range p l 0 with ⟨h1, h2⟩ | ⟨i, hi, h1, h2, h3⟩
  · rw [h1]
    have : l.any p = false := by simpa using h2
    rw [this]
    rfl
  · have : l.any p = true := List.any_eq_true.2 ⟨l[i], List.getElem_mem hi, h2⟩
    rw [h1, this]
    simp
theorem contains_int (fv : Value) (p : Int → Bool) (A0 : Option Addr) (c0 : Nat) (l0 : List Int) (w : World) (hr0 : Kd.C (Kd.int .i64) w A0 l0.length l0) (hc0 : l0.length ≤ c0) (hl : l0.length ≤ 9223372036854775806)
    (hcl : ∀ (x : Int), x ∈ l0 → ∀ (w1 : World), Below w.heap.size w w1 → CallsV Try.prog fv #[.int .i64 x] w1 fun e w2 => e = .returned (.bool (p x)) ∧ Below w1.heap.size w1 w2) :
    Calls Try.prog 55 #[.slice A0 l0.length c0, fv] w fun e w' => e = .returned (.bool (l0.any p)) ∧ Below w.heap.size w w' := by
  obtain ⟨r, hr⟩ : ∃ r, idxF p l0 0 = r := ⟨_, rfl⟩
  have H := Aside0.mk (index_int fv p A0 c0 l0 r w hr0 hc0 hl hcl hr)
  have ha := idxF_any p l0
  rw [hr] at ha
  have HA := Aside0.mk ha
  clear hr0 hc0 hcl hr ha
  go_enter Try.func55, Try.ntmps55
  go_wp2_with (first | (go_at_call 98; (with_reducible refine H.out.mono ?_); rintro e w1 ⟨rfl, hb⟩; have HB := Aside0.mk hb; clear hb))
  go_ret
  exact ⟨by rw [← HA.out]; rfl, HB.out⟩
/-- is one of them below nought -/
def contains_neg.f (l0 : List Int) : Option Bool := if l0.length ≤ 9223372036854775806 then some (l0.any fun x => decide (x < 0)) else none
theorem neg_calls (x : Int) (w : World) : Calls Try.prog 56 #[.int .i64 x] w fun e w' => e = .returned (.bool (decide (x < 0))) ∧ Below w.heap.size w w' := by
  go_enter Try.func56, Try.ntmps56
  go_wp2
  go_ret
  exact ⟨rfl, Below.refl _ _⟩
theorem contains_neg.calls (A0 : Option Addr) (c0 : Nat) (l0 : List Int) (r : Bool) (w : World) (hr0 : Kd.C (Kd.int .i64) w A0 l0.length l0) (hc0 : l0.length ≤ c0) (h : contains_neg.f l0 = some r) :
    Calls Try.prog 55 #[.slice A0 l0.length c0, .func (.func 56) #[] #[]] w fun e w' => e = .returned (.bool r) ∧ Below w.heap.size w w' := by
  unfold contains_neg.f at h
  split at h
  · rename_i hl
    rw [← Option.some.inj h]
    exact contains_int _ (fun x => decide (x < 0)) A0 c0 l0 w hr0 hc0 hl (fun x _ w1 _ => CallsV.of Try.func56 (by kernel_rfl) rfl (neg_calls x w1))
  · cases h
end Go.Proofs.Ytgjclhhjigflkac.M
