-- written by mkprint.py, a program of this session, over the kit's printer
import Derived.Test.YtgjclhhjigflkacRows
import Derived.Test.YtgjclhhjigflkacCx10
import Derived.Test.YtgjclhhjigflkacPureSchemaFinds
import Derived.WalkKit
import Derived.ProofKit
import Derived.OpenShut
import Derived.ShutString
import Derived.ChangeOld
import Derived.Below
import Derived.SizedLaws
import Derived.ChangeSlices
import Derived.Test.YtgjclhhjigflkacMyOpen
namespace Go.Proofs.Ytgjclhhjigflkac.schemaFinds
open Go.ChangeShapes Go.WideShapes Go.ChangeAt Go.RowKit
open Go.ChangeMaps (open_string shut_string)
set_option linter.unusedVariables false
theorem own : ownKnob Try.prog.godebug = none := by kernel_rfl
theorem laidOut : laidOutB Try.prog = true := by kernel_rfl
set_option maxRecDepth 100000 in
theorem lifted (os : Os) (started : os.Started) (H : Type) (enc : TypeId × Value → H) :
    ReturnsInHanded {} Try.checked os 6 .any (Rows.schemaFindsSpec.pre6 enc Try.prog Try.f6 Rows.schemaFindsRow.domain false) (Rows.schemaFindsSpec.post enc Try.prog Try.f6 false true false false) := by
  refine returnsInHanded_of_change_sized (C := Try.checked) own started (by kernel_rfl) Try.func6
    (ChangeSpec.witness6 (enc := enc) (C := Try.checked) false ⟨#[], #[.slice none 0 0, .string ByteArray.empty, .agg #[.string ByteArray.empty, .slice none 0 0, .int .i64 0]], []⟩ 8 (by kernel_rfl) (by kernel_rfl) (by kernel_rfl) (by kernel_rfl)) ?_
  intro W base args ds gs before hval0 hW hcnd hsz0 _
  have hsz : (DataW.weightsEach Try.prog (Try.f6.params.toList ++ Rows.schemaFindsSpec.plain.varTypes Try.prog) (ds ++ gs)).all (· ≤ reachBytes) = true := hsz0
  have hval : ∀ (j : Nat) t v, Try.f6.params[j]? = some t → args[j]? = some v → Value.okWide Try.prog W .any base t v := hval0
  have hW' := hW
  obtain ⟨p, q, hA0, hV, rfl, hfz, hnd⟩ := hW
  have hA : DataW.TrodAll enc Try.prog W 0 (fun _ => true) true Try.f6.params.toList args.toList ds p := hA0
  rw [Try.params6] at hA hval hsz
  obtain ⟨v0, vs0, d0, ds0, p0, q0, hargs, rfl, rfl, h0, r0⟩ := trodAll_cons hA
  obtain ⟨v1, vs1, d1, ds1, p1, q1, rfl, rfl, rfl, h1, r1⟩ := trodAll_cons r0
  obtain ⟨v2, vs2, d2, ds2, p2, q2, rfl, rfl, rfl, h2, r2⟩ := trodAll_cons r1
  obtain ⟨rfl, rfl, rfl⟩ := trodAll_nil r2
  obtain rfl : args = #[v0, v1, v2] := by cases args; simp_all
  obtain ⟨rfl, rfl⟩ := trodVars_none hV
  obtain ⟨a0, len0, cap0, rfl⟩ := okWide_slice Try.underlying49 (hval 0 49 v0 rfl rfl)
  have k0 := h0
  have lt0 : ∀ x ∈ p0, x.block < W.heap.size := by obtain ⟨m, hm⟩ := k0; exact DataW.trod_lt m _ _ _ hm
  obtain ⟨l0, rfl, r_0, q_0, m_0, g_0⟩ := MyOpen.open_row (MyOpen.o_slice Try.underlying49 (by kernel_rfl) (show MyOpen.Opens Try.prog 47 C.k47 _ from MyOpen.o_iso (fun x => (⟨x.1, x.2.1, x.2.2⟩ : C.S47)) (fun _ => rfl) (MyOpen.o_struct Try.underlying47 (by kernel_rfl) (MyOpen.of_cons rfl (by kernel_rfl) (MyOpen.o_string Try.underlying9) (MyOpen.of_cons rfl (by kernel_rfl) (MyOpen.o_slice Try.underlying44 (by kernel_rfl) (show MyOpen.Opens Try.prog 96 C.k96 _ from MyOpen.o_iso (fun x => (⟨x.1, x.2.1, x.2.2⟩ : C.S96)) (fun _ => rfl) (MyOpen.o_struct Try.underlying96 (by kernel_rfl) (MyOpen.of_cons rfl (by kernel_rfl) (MyOpen.o_string Try.underlying9) (MyOpen.of_cons rfl (by kernel_rfl) (MyOpen.o_int Try.underlying3) (MyOpen.of_one rfl (by kernel_rfl) (MyOpen.o_bool Try.underlying4))))))) (MyOpen.of_one rfl (by kernel_rfl) (MyOpen.o_slice Try.underlying45 (by kernel_rfl) (show MyOpen.Opens Try.prog 52 C.k52 _ from MyOpen.o_iso (fun x => (⟨x.1, x.2.1, x.2.2⟩ : C.S52)) (fun _ => rfl) (MyOpen.o_struct Try.underlying52 (by kernel_rfl) (MyOpen.of_cons rfl (by kernel_rfl) (MyOpen.o_string Try.underlying9) (MyOpen.of_cons rfl (by kernel_rfl) (MyOpen.o_slice Try.underlying43 (by kernel_rfl) (MyOpen.o_int Try.underlying3)) (MyOpen.of_one rfl (by kernel_rfl) (MyOpen.o_int Try.underlying3))))))))))))) h0
  obtain ⟨a1, rfl, rfl, rfl, y1⟩ := open_string Try.underlying9 (hval 1 9 v1 rfl rfl) h1
  have w1 : a1.size ≤ 140737488351232 := by
    have z := sized_string hsz (j := 1) (t := 9) rfl rfl
    rw [Array.length_toList] at z
    exact z
  have k2 := h2
  have lt2 : ∀ x ∈ p2, x.block < W.heap.size := by obtain ⟨m, hm⟩ := k2; exact DataW.trod_lt m _ _ _ hm
  obtain ⟨⟨a2_0, ⟨l2_1, a2_2⟩⟩, _, ⟨_, _, rfl, rfl, ⟨_, _, rfl, ⟨A2_1, c2_1, rfl, q_2_1, r_2_1⟩, rfl⟩⟩, rfl, ⟨w2_0, ⟨⟨m_2_1, g_2_1⟩, w2_2⟩⟩⟩ := MyOpen.open_agg Try.underlying52 (MyOpen.o_struct Try.underlying52 (by kernel_rfl) (MyOpen.of_cons rfl (by kernel_rfl) (MyOpen.o_string Try.underlying9) (MyOpen.of_cons rfl (by kernel_rfl) (MyOpen.o_slice Try.underlying43 (by kernel_rfl) (MyOpen.o_int Try.underlying3)) (MyOpen.of_one rfl (by kernel_rfl) (MyOpen.o_int Try.underlying3))))) (hval 2 52 v2 rfl rfl) h2
  clear hA0 hval0 hsz0 hsz
  refine (C.peristylelaw25_SchemaFinds.walk Pure.SchemaFinds a0 cap0 l0 a1 a2_0 A2_1 c2_1 l2_1 a2_2 W r_0 q_0 m_0 g_0 w1 w2_0 r_2_1 q_2_1 m_2_1 g_2_1 w2_2).mono fun e W' ⟨he, bel⟩ => ?_
  subst he
  exact ⟨_, rfl, _, _, _, [], _, [], hW', trodAll_mk1 (shut_bool Try.underlying4 _), (trodAll_cons_mk (Below.trod laidOut (by kernel_rfl) (of_decide_eq_true (by kernel_rfl)) k0 bel lt0) (trodAll_cons_mk (shut_string Try.underlying9 y1) (trodAll_cons_mk (Below.trod laidOut (by kernel_rfl) (of_decide_eq_true (by kernel_rfl)) k2 bel lt2) trodAll_mk0))), rfl, bel.frame _, fun h => by cases h⟩
theorem over : Rows.schemaFindsRow.holds Try.pinned (OpenSpec.ofChange Rows.schemaFindsSpec) :=
  OpenClaim.holds_of_wide 6 Try.f6 rfl rfl rfl rfl rfl rfl rfl ⟨rfl, rfl, rfl, rfl, rfl⟩ rfl rfl rfl rfl rfl (by kernel_rfl) Try.func6 (by kernel_rfl)
    (of_decide_eq_true (by kernel_rfl)) (by unfold Func.isWrapper; first | (rw [if_pos (by decide +kernel)]; kernel_rfl) | (rw [if_neg (by decide +kernel)]; exact ⟨rfl, rfl⟩))
    (fun os started H enc _ => lifted os started H enc)
theorem proved : Rows.SchemaFindsSaid := over
#print axioms proved
end Go.Proofs.Ytgjclhhjigflkac.schemaFinds
namespace Go.Proofs.Ytgjclhhjigflkac
/-- The row, under a short name, for the claim. -/
theorem schemaFinds_holds : Rows.SchemaFindsSaid := schemaFinds.proved
end Go.Proofs.Ytgjclhhjigflkac
