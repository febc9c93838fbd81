-- written by mkprint.py, a program of this session, over the kit's printer
import Derived.Test.YtgjclhhjigflkabRows
import Derived.Test.YtgjclhhjigflkabCx7
import Derived.Test.YtgjclhhjigflkabPureCoverChooses
import Derived.WalkKit
import Derived.ProofKit
import Derived.OpenShut
import Derived.ShutString
import Derived.ChangeOld
import Derived.Below
import Derived.SizedLaws
import Derived.ChangeSlices
import Derived.Test.YtgjclhhjigflkabMyOpen
namespace Go.Proofs.Ytgjclhhjigflkab.coverChooses
open Go.ChangeShapes Go.WideShapes Go.ChangeAt Go.RowKit
open Go.ChangeMaps (open_string shut_string)
set_option linter.unusedVariables false
theorem own : ownKnob Try.prog.godebug = none := by kernel_rfl
theorem laidOut : laidOutB Try.prog = true := by kernel_rfl
set_option maxRecDepth 100000 in
theorem lifted (os : Os) (started : os.Started) (H : Type) (enc : TypeId × Value → H) :
    ReturnsInHanded {} Try.checked os 7 .any (Rows.coverChoosesSpec.pre6 enc Try.prog Try.f7 Rows.coverChoosesRow.domain false) (Rows.coverChoosesSpec.post enc Try.prog Try.f7 false true false false) := by
  refine returnsInHanded_of_change_sized (C := Try.checked) own started (by kernel_rfl) Try.func7
    (ChangeSpec.witness6 (enc := enc) (C := Try.checked) false ⟨#[], #[.agg #[.string ByteArray.empty, .slice none 0 0, .slice none 0 0], .agg #[.slice none 0 0, .slice none 0 0], .slice none 0 0], []⟩ 8 (by kernel_rfl) (by kernel_rfl) (by kernel_rfl) (by kernel_rfl)) ?_
  intro W base args ds gs before hval0 hW hcnd hsz0 _
  have hsz : (DataW.weightsEach Try.prog (Try.f7.params.toList ++ Rows.coverChoosesSpec.plain.varTypes Try.prog) (ds ++ gs)).all (· ≤ reachBytes) = true := hsz0
  have hval : ∀ (j : Nat) t v, Try.f7.params[j]? = some t → args[j]? = some v → Value.okWide Try.prog W .any base t v := hval0
  have hW' := hW
  obtain ⟨p, q, hA0, hV, rfl, hfz, hnd⟩ := hW
  have hA : DataW.TrodAll enc Try.prog W 0 (fun _ => true) true Try.f7.params.toList args.toList ds p := hA0
  rw [Try.params7] at hA hval hsz
  obtain ⟨v0, vs0, d0, ds0, p0, q0, hargs, rfl, rfl, h0, r0⟩ := trodAll_cons hA
  obtain ⟨v1, vs1, d1, ds1, p1, q1, rfl, rfl, rfl, h1, r1⟩ := trodAll_cons r0
  obtain ⟨v2, vs2, d2, ds2, p2, q2, rfl, rfl, rfl, h2, r2⟩ := trodAll_cons r1
  obtain ⟨rfl, rfl, rfl⟩ := trodAll_nil r2
  obtain rfl : args = #[v0, v1, v2] := by cases args; simp_all
  obtain ⟨rfl, rfl⟩ := trodVars_none hV
  have k0 := h0
  have lt0 : ∀ x ∈ p0, x.block < W.heap.size := by obtain ⟨m, hm⟩ := k0; exact DataW.trod_lt m _ _ _ hm
  obtain ⟨⟨a0_0, ⟨l0_1, l0_2⟩⟩, _, ⟨_, _, rfl, rfl, ⟨_, _, rfl, ⟨A0_1, c0_1, rfl, q_0_1, r_0_1⟩, ⟨A0_2, c0_2, rfl, q_0_2, r_0_2⟩⟩⟩, rfl, ⟨w0_0, ⟨⟨m_0_1, g_0_1⟩, ⟨m_0_2, g_0_2⟩⟩⟩⟩ := MyOpen.open_agg Try.underlying63 (MyOpen.o_struct Try.underlying63 (by kernel_rfl) (MyOpen.of_cons rfl (by kernel_rfl) (MyOpen.o_string Try.underlying9) (MyOpen.of_cons rfl (by kernel_rfl) (MyOpen.o_slice Try.underlying60 (by kernel_rfl) (show MyOpen.Opens Try.prog 177 C.k177 _ from MyOpen.o_iso (fun x => (⟨x.1, x.2.1, x.2.2⟩ : C.S177)) (fun _ => rfl) (MyOpen.o_struct Try.underlying177 (by kernel_rfl) (MyOpen.of_cons rfl (by kernel_rfl) (MyOpen.o_string Try.underlying9) (MyOpen.of_cons rfl (by kernel_rfl) (MyOpen.o_int Try.underlying3) (MyOpen.of_one rfl (by kernel_rfl) (MyOpen.o_bool Try.underlying4))))))) (MyOpen.of_one rfl (by kernel_rfl) (MyOpen.o_slice Try.underlying61 (by kernel_rfl) (show MyOpen.Opens Try.prog 138 C.k138 _ from MyOpen.o_iso (fun x => (⟨x.1, x.2.1, x.2.2⟩ : C.S138)) (fun _ => rfl) (MyOpen.o_struct Try.underlying138 (by kernel_rfl) (MyOpen.of_cons rfl (by kernel_rfl) (MyOpen.o_string Try.underlying9) (MyOpen.of_cons rfl (by kernel_rfl) (MyOpen.o_slice Try.underlying33 (by kernel_rfl) (MyOpen.o_int Try.underlying3)) (MyOpen.of_one rfl (by kernel_rfl) (MyOpen.o_int Try.underlying3))))))))))) (hval 0 63 v0 rfl rfl) h0
  have k1 := h1
  have lt1 : ∀ x ∈ p1, x.block < W.heap.size := by obtain ⟨m, hm⟩ := k1; exact DataW.trod_lt m _ _ _ hm
  obtain ⟨⟨l1_0, l1_1⟩, _, ⟨_, _, rfl, ⟨A1_0, c1_0, rfl, q_1_0, r_1_0⟩, ⟨A1_1, c1_1, rfl, q_1_1, r_1_1⟩⟩, rfl, ⟨⟨m_1_0, g_1_0⟩, ⟨m_1_1, g_1_1⟩⟩⟩ := MyOpen.open_agg Try.underlying65 (MyOpen.o_struct Try.underlying65 (by kernel_rfl) (MyOpen.of_cons rfl (by kernel_rfl) (MyOpen.o_slice Try.underlying33 (by kernel_rfl) (MyOpen.o_int Try.underlying3)) (MyOpen.of_one rfl (by kernel_rfl) (MyOpen.o_slice Try.underlying33 (by kernel_rfl) (MyOpen.o_int Try.underlying3))))) (hval 1 65 v1 rfl rfl) h1
  obtain ⟨a2, len2, cap2, rfl⟩ := okWide_slice Try.underlying41 (hval 2 41 v2 rfl rfl)
  have k2 := h2
  have lt2 : ∀ x ∈ p2, x.block < W.heap.size := by obtain ⟨m, hm⟩ := k2; exact DataW.trod_lt m _ _ _ hm
  obtain ⟨l2, rfl, r_2, q_2, m_2, g_2⟩ := MyOpen.open_row (MyOpen.o_slice Try.underlying41 (by kernel_rfl) (MyOpen.o_string Try.underlying9)) h2
  clear hA0 hval0 hsz0 hsz
  refine (C.peristylelaw32_CoverChooses.walk Pure.CoverChooses a0_0 A0_1 c0_1 l0_1 A0_2 c0_2 l0_2 A1_0 c1_0 l1_0 A1_1 c1_1 l1_1 a2 cap2 l2 W w0_0 r_0_1 q_0_1 m_0_1 g_0_1 r_0_2 q_0_2 m_0_2 g_0_2 r_1_0 q_1_0 m_1_0 g_1_0 r_1_1 q_1_1 m_1_1 g_1_1 r_2 q_2 m_2 g_2).mono fun e W' ⟨he, bel⟩ => ?_
  subst he
  exact ⟨_, rfl, _, _, _, [], _, [], hW', trodAll_mk1 (shut_bool Try.underlying4 _), (trodAll_cons_mk (Below.trod laidOut (by kernel_rfl) (of_decide_eq_true (by kernel_rfl)) k0 bel lt0) (trodAll_cons_mk (Below.trod laidOut (by kernel_rfl) (of_decide_eq_true (by kernel_rfl)) k1 bel lt1) (trodAll_cons_mk (Below.trod laidOut (by kernel_rfl) (of_decide_eq_true (by kernel_rfl)) k2 bel lt2) trodAll_mk0))), rfl, bel.frame _, fun h => by cases h⟩
theorem over : Rows.coverChoosesRow.holds Try.pinned (OpenSpec.ofChange Rows.coverChoosesSpec) :=
  OpenClaim.holds_of_wide 7 Try.f7 rfl rfl rfl rfl rfl rfl rfl ⟨rfl, rfl, rfl, rfl, rfl⟩ rfl rfl rfl rfl rfl (by kernel_rfl) Try.func7 (by kernel_rfl)
    (of_decide_eq_true (by kernel_rfl)) (by unfold Func.isWrapper; first | (rw [if_pos (by decide +kernel)]; kernel_rfl) | (rw [if_neg (by decide +kernel)]; exact ⟨rfl, rfl⟩))
    (fun os started H enc _ => lifted os started H enc)
theorem proved : Rows.CoverChoosesSaid := over
#print axioms proved
end Go.Proofs.Ytgjclhhjigflkab.coverChooses
namespace Go.Proofs.Ytgjclhhjigflkab
/-- The row, under a short name, for the claim. -/
theorem coverChooses_holds : Rows.CoverChoosesSaid := coverChooses.proved
end Go.Proofs.Ytgjclhhjigflkab
