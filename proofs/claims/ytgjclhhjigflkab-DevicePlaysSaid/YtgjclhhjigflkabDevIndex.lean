/- The walk of slices.IndexFunc over peristyle/device.write: whatever the function value, if it answers. -/
import Derived.Test.YtgjclhhjigflkabDevEv
import Derived.Test.YtgjclhhjigflkabHand
namespace Go.Proofs.Ytgjclhhjigflkab.Dev
open Go Go.RowKit Go.Proofs.Ytgjclhhjigflkab.MyWords Go.Proofs.Ytgjclhhjigflkab.Hand Go.Proofs.YtgjclhhjigflkabW.PrintWords Go.Proofs.YtgjclhhjigflkabW.PrintLast Go.Proofs.YtgjclhhjigflkabW.PrintMore
set_option linter.unusedVariables false
set_option linter.unusedSimpArgs false
set_option maxHeartbeats 1000000 in
set_option maxRecDepth 100000 in
theorem index_wr (fv : Value) (p : Wr → Bool) (A0 : Option Addr) (c0 : Nat) (l0 : List Wr) (r : Int) (w : World) (hr0 : Kd.C kW w A0 l0.length l0) (hc0 : l0.length ≤ c0) (hl : l0.length ≤ 9223372036854775806)
    (hcl : ∀ (i : Nat) (hi : i < l0.length) (c : List Value) (w1 : World), Below w.heap.size w w1 → c.length = kW.sz → kW.K w1 l0[i] c → CallsV Try.prog fv #[.agg c.toArray] w1 fun e w2 => e = .returned (.bool (p l0[i])) ∧ Below w1.heap.size w1 w2)
    (h : idxF p l0 0 = r) :
    Calls Try.prog 113 #[.slice A0 l0.length c0, fv] w fun e w' => e = .returned (.int .i64 r) ∧ Below w.heap.size w w' := by
  have HR0 := Aside0.mk hr0
  have HC0 := Aside0.mk hc0
  have HCL := Aside0.mk hcl
  have HE : Aside0 (idxF p (l0.drop 0) 0 = r) := ⟨by rw [List.drop_zero]; exact h⟩
  clear hr0 hc0 h hcl
  go_enter Try.func113, Try.ntmps113
  go_wp2
  go_loopw [8] (fun v8 wr => ∃ k : Nat, v8 = .int .i64 (k : Int) ∧ k ≤ l0.length ∧ Aside0 (idxF p (l0.drop k) k = r) ∧ Aside0 (Below w.heap.size w wr)) (fun v8 _ => l0.length - (intOf v8).toNat)
  case atStart => exact ⟨0, rfl, by omega, HE, ⟨Below.refl _ _⟩⟩
  case round =>
    obtain ⟨k, rfl, hk, HF, HB⟩ := hrel
    by_cases hlt : k < l0.length
    · obtain ⟨ad, c, hA, hcl, hK, hcc⟩ := at_cells (Kd.C_below HR0.out HB.out) k hlt
      subst hA
      have HCC := Aside0.mk hcc
      have HK := Aside0.mk hK
      have HL := Aside0.mk hcl
      have hF2 := HF.out
      rw [idxF_drop p l0 k hlt] at hF2
      have HF2 := Aside0.mk hF2
      have HCW := Aside0.mk (HCL.out k hlt c wr HB.out hcl hK)
      clear hcc hK hcl hF2
      obtain ⟨b, hb⟩ : ∃ b, p l0[k] = b := ⟨_, rfl⟩
      rw [hb] at HCW HF2
      clear hb
      cases b with
      | true =>
        go_wp2_with (first | (refine load_event rfl 113 (.tmp 14) rfl (ad.add (k * kW.sz)) ?e1 c HCC.out _ Try.underlying113 rfl (by rw [HL.out]; kernel_rfl) ?_; (case e1 => first | rfl | (go_simp; done) | (go_simp; rfl))) | (refine callsV_event rfl 16 rfl (.tmp 11) [.tmp 15] #[113] rfl fv rfl [.agg c.toArray] rfl ?_; obtain ⟨f, caps, fn, h1, h2, h3, h4, h5⟩ := HCW.out; refine ⟨f, caps, fn, h1, h2, h3, h4, h5.mono ?_⟩; rintro e w2 ⟨rfl, hb2⟩; refine ⟨_, rfl, ?_⟩; have HB2 := Aside0.mk hb2; clear hb2 h1 h2 h3 h4 h5))
        go_ret
        refine ⟨?_, below_step HB.out HB2.out⟩
        have := HF2.out
        rw [← this]
        simp
      | false =>
        go_wp2_with (first | (refine load_event rfl 113 (.tmp 14) rfl (ad.add (k * kW.sz)) ?e1 c HCC.out _ Try.underlying113 rfl (by rw [HL.out]; kernel_rfl) ?_; (case e1 => first | rfl | (go_simp; done) | (go_simp; rfl))) | (refine callsV_event rfl 16 rfl (.tmp 11) [.tmp 15] #[113] rfl fv rfl [.agg c.toArray] rfl ?_; obtain ⟨f, caps, fn, h1, h2, h3, h4, h5⟩ := HCW.out; refine ⟨f, caps, fn, h1, h2, h3, h4, h5.mono ?_⟩; rintro e w2 ⟨rfl, hb2⟩; refine ⟨_, rfl, ?_⟩; have HB2 := Aside0.mk hb2; clear hb2 h1 h2 h3 h4 h5))
        refine ⟨⟨k + 1, by simp, by omega, ⟨?_⟩, ⟨below_step HB.out HB2.out⟩⟩, by simp [intOf]; omega⟩
        have := HF2.out
        simpa using this
    · have hend : r = -1 := by
        have := HF.out
        rw [List.drop_of_length_le (by omega), idxF] at this
        exact this.symm
      subst hend
      go_wp2
      go_ret
      exact ⟨rfl, HB.out⟩
end Go.Proofs.Ytgjclhhjigflkab.Dev
