-- written by mkprint.py, a program of this session, over the kit's printer
import Derived.Test.YtgjclhhjigflkacRows
import Derived.Test.YtgjclhhjigflkacMx10
import Derived.Test.YtgjclhhjigflkacPureMoverKeeps
import Derived.WalkKit
import Derived.ProofKit
import Derived.OpenShut
import Derived.ShutString
import Derived.ChangeOld
import Derived.Below
import Derived.SizedLaws
import Derived.Test.YtgjclhhjigflkacWSized
import Derived.Test.YtgjclhhjigflkacMyOpen
namespace Go.Proofs.Ytgjclhhjigflkac.moverKeeps
open Go.ChangeShapes Go.WideShapes Go.ChangeAt Go.RowKit
open Go.ChangeMaps (open_string shut_string)
set_option linter.unusedVariables false
theorem own : ownKnob Try.prog.godebug = none := by kernel_rfl
theorem laidOut : laidOutB Try.prog = true := by kernel_rfl
def IsRow (k : IntKind) (w : World) (a : Option Addr) (len cap : Nat) (zs : List Int) : Prop :=
  (a = none ∧ len = 0 ∧ cap = 0 ∧ zs = []) ∨
  ∃ x, a = some x ∧ len ≤ cap ∧ cap ≤ maxLen ∧ zs.length = cap ∧ (∀ i, i < zs.length → w.cell? (x.add i) = some (.int k (zs.getD i 0))) ∧ ∀ n ∈ zs, (Lit.int k n).wf = true
set_option maxRecDepth 100000 in
theorem lifted (os : Os) (started : os.Started) (H : Type) (enc : TypeId × Value → H) :
    ReturnsInHanded {} Try.checked os 3 .any (Rows.moverKeepsSpec.pre6 enc Try.prog Try.f3 Rows.moverKeepsRow.domain false) (Rows.moverKeepsSpec.post enc Try.prog Try.f3 false true false false) := by
  refine returnsInHanded_of_change_sized (C := Try.checked) own started (by kernel_rfl) Try.func3
    (ChangeSpec.witness6 (enc := enc) (C := Try.checked) false ⟨#[], #[.slice none 0 0, .slice none 0 0, .int .i64 0], []⟩ 8 (by kernel_rfl) (by kernel_rfl) (by kernel_rfl) (by kernel_rfl)) ?_
  intro W base args ds gs before hval0 hW hcnd hsz0 _
  have hsz : (DataW.weightsEach Try.prog (Try.f3.params.toList ++ Rows.moverKeepsSpec.plain.varTypes Try.prog) (ds ++ gs)).all (· ≤ reachBytes) = true := hsz0
  have hval : ∀ (j : Nat) t v, Try.f3.params[j]? = some t → args[j]? = some v → Value.okWide Try.prog W .any base t v := hval0
  have hW' := hW
  obtain ⟨p, q, hA0, hV, rfl, hfz, hnd⟩ := hW
  have hA : DataW.TrodAll enc Try.prog W 0 (fun _ => true) true Try.f3.params.toList args.toList ds p := hA0
  rw [Try.params3] at hA hval hsz
  obtain ⟨v0, vs0, d0, ds0, p0, q0, hargs, rfl, rfl, h0, r0⟩ := trodAll_cons hA
  obtain ⟨v1, vs1, d1, ds1, p1, q1, rfl, rfl, rfl, h1, r1⟩ := trodAll_cons r0
  obtain ⟨v2, vs2, d2, ds2, p2, q2, rfl, rfl, rfl, h2, r2⟩ := trodAll_cons r1
  obtain ⟨rfl, rfl, rfl⟩ := trodAll_nil r2
  obtain rfl : args = #[v0, v1, v2] := by cases args; simp_all
  obtain ⟨rfl, rfl⟩ := trodVars_none hV
  obtain ⟨a0, len0, cap0, rfl⟩ := okWide_slice Try.underlying22 (hval 0 22 v0 rfl rfl)
  have k0 := h0
  have lt0 : ∀ x ∈ p0, x.block < W.heap.size := by obtain ⟨m, hm⟩ := k0; exact DataW.trod_lt m _ _ _ hm
  obtain ⟨l0, rfl, r_0, q_0, m_0, g_0⟩ := MyOpen.open_row (MyOpen.o_slice Try.underlying22 (by kernel_rfl) (show MyOpen.Opens Try.prog 28 M.k28 _ from MyOpen.o_iso (fun x => (⟨x.1, x.2.1, x.2.2⟩ : M.S28)) (fun _ => rfl) (MyOpen.o_struct Try.underlying28 (by kernel_rfl) (MyOpen.of_cons rfl (by kernel_rfl) (MyOpen.o_slice Try.underlying26 (by kernel_rfl) (show MyOpen.Opens Try.prog 98 M.k98 _ from MyOpen.o_iso (fun x => (⟨x.1, x.2.1, x.2.2⟩ : M.S98)) (fun _ => rfl) (MyOpen.o_struct Try.underlying98 (by kernel_rfl) (MyOpen.of_cons rfl (by kernel_rfl) (MyOpen.o_int Try.underlying3) (MyOpen.of_cons rfl (by kernel_rfl) (MyOpen.o_int Try.underlying3) (MyOpen.of_one rfl (by kernel_rfl) (MyOpen.o_string Try.underlying9))))))) (MyOpen.of_cons rfl (by kernel_rfl) (MyOpen.o_int Try.underlying3) (MyOpen.of_one rfl (by kernel_rfl) (MyOpen.o_int Try.underlying3))))))) h0
  obtain ⟨a1, len1, cap1, rfl⟩ := okWide_slice Try.underlying22 (hval 1 22 v1 rfl rfl)
  have k1 := h1
  have lt1 : ∀ x ∈ p1, x.block < W.heap.size := by obtain ⟨m, hm⟩ := k1; exact DataW.trod_lt m _ _ _ hm
  obtain ⟨l1, rfl, r_1, q_1, m_1, g_1⟩ := MyOpen.open_row (MyOpen.o_slice Try.underlying22 (by kernel_rfl) (show MyOpen.Opens Try.prog 28 M.k28 _ from MyOpen.o_iso (fun x => (⟨x.1, x.2.1, x.2.2⟩ : M.S28)) (fun _ => rfl) (MyOpen.o_struct Try.underlying28 (by kernel_rfl) (MyOpen.of_cons rfl (by kernel_rfl) (MyOpen.o_slice Try.underlying26 (by kernel_rfl) (show MyOpen.Opens Try.prog 98 M.k98 _ from MyOpen.o_iso (fun x => (⟨x.1, x.2.1, x.2.2⟩ : M.S98)) (fun _ => rfl) (MyOpen.o_struct Try.underlying98 (by kernel_rfl) (MyOpen.of_cons rfl (by kernel_rfl) (MyOpen.o_int Try.underlying3) (MyOpen.of_cons rfl (by kernel_rfl) (MyOpen.o_int Try.underlying3) (MyOpen.of_one rfl (by kernel_rfl) (MyOpen.o_string Try.underlying9))))))) (MyOpen.of_cons rfl (by kernel_rfl) (MyOpen.o_int Try.underlying3) (MyOpen.of_one rfl (by kernel_rfl) (MyOpen.o_int Try.underlying3))))))) h1
  obtain ⟨a2, rfl, rfl, rfl, w2⟩ := open_int Try.underlying3 (hval 2 3 v2 rfl rfl) h2
  clear hA0 hval0 hsz0 hsz
  refine (M.peristylelaw27_MoverKeeps.walk Pure.MoverKeeps a0 cap0 l0 a1 cap1 l1 a2 W r_0 q_0 m_0 g_0 r_1 q_1 m_1 g_1 w2).mono fun e W' ⟨he, bel⟩ => ?_
  subst he
  exact ⟨_, rfl, _, _, _, [], _, [], hW', trodAll_mk1 (shut_bool Try.underlying4 _), (trodAll_cons_mk (Below.trod laidOut (by kernel_rfl) (of_decide_eq_true (by kernel_rfl)) k0 bel lt0) (trodAll_cons_mk (Below.trod laidOut (by kernel_rfl) (of_decide_eq_true (by kernel_rfl)) k1 bel lt1) (trodAll_cons_mk (shut_int Try.underlying3 w2) trodAll_mk0))), rfl, bel.frame _, fun h => by cases h⟩
theorem over : Rows.moverKeepsRow.holds Try.pinned (OpenSpec.ofChange Rows.moverKeepsSpec) :=
  OpenClaim.holds_of_wide 3 Try.f3 rfl rfl rfl rfl rfl rfl rfl ⟨rfl, rfl, rfl, rfl, rfl⟩ rfl rfl rfl rfl rfl (by kernel_rfl) Try.func3 (by kernel_rfl)
    (of_decide_eq_true (by kernel_rfl)) (by unfold Func.isWrapper; first | (rw [if_pos (by decide +kernel)]; kernel_rfl) | (rw [if_neg (by decide +kernel)]; exact ⟨rfl, rfl⟩))
    (fun os started H enc _ => lifted os started H enc)
theorem proved : Rows.MoverKeepsSaid := over
#print axioms proved
end Go.Proofs.Ytgjclhhjigflkac.moverKeeps
namespace Go.Proofs.Ytgjclhhjigflkac
/-- The row, under a short name, for the claim. -/
theorem moverKeeps_holds : Rows.MoverKeepsSaid := moverKeeps.proved
end Go.Proofs.Ytgjclhhjigflkac
