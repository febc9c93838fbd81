-- written by mkprint.py, a program of this session, over the kit's printer
import Derived.Test.YtgjclhhjigflkacRows
import Derived.Test.YtgjclhhjigflkacMx9
import Derived.Test.YtgjclhhjigflkacPureMoverProjects
import Derived.WalkKit
import Derived.ProofKit
import Derived.OpenShut
import Derived.ShutString
import Derived.ChangeOld
import Derived.Below
import Derived.SizedLaws
import Derived.Test.YtgjclhhjigflkacWSized
import Derived.Test.YtgjclhhjigflkacMyOpen
namespace Go.Proofs.Ytgjclhhjigflkac.moverProjects
open Go.ChangeShapes Go.WideShapes Go.ChangeAt Go.RowKit
open Go.ChangeMaps (open_string shut_string)
set_option linter.unusedVariables false
theorem own : ownKnob Try.prog.godebug = none := by kernel_rfl
theorem laidOut : laidOutB Try.prog = true := by kernel_rfl
def IsRow (k : IntKind) (w : World) (a : Option Addr) (len cap : Nat) (zs : List Int) : Prop :=
  (a = none ∧ len = 0 ∧ cap = 0 ∧ zs = []) ∨
  ∃ x, a = some x ∧ len ≤ cap ∧ cap ≤ maxLen ∧ zs.length = cap ∧ (∀ i, i < zs.length → w.cell? (x.add i) = some (.int k (zs.getD i 0))) ∧ ∀ n ∈ zs, (Lit.int k n).wf = true
set_option maxRecDepth 100000 in
theorem lifted (os : Os) (started : os.Started) (H : Type) (enc : TypeId × Value → H) :
    ReturnsInHanded {} Try.checked os 4 .any (Rows.moverProjectsSpec.pre6 enc Try.prog Try.f4 Rows.moverProjectsRow.domain false) (Rows.moverProjectsSpec.post enc Try.prog Try.f4 false true false false) := by
  refine returnsInHanded_of_change_sized (C := Try.checked) own started (by kernel_rfl) Try.func4
    (ChangeSpec.witness6 (enc := enc) (C := Try.checked) false ⟨#[], #[.slice none 0 0, .slice none 0 0, .agg #[.string ByteArray.empty, .slice none 0 0, .slice none 0 0]], []⟩ 8 (by kernel_rfl) (by kernel_rfl) (by kernel_rfl) (by kernel_rfl)) ?_
  intro W base args ds gs before hval0 hW hcnd hsz0 _
  have hsz : (DataW.weightsEach Try.prog (Try.f4.params.toList ++ Rows.moverProjectsSpec.plain.varTypes Try.prog) (ds ++ gs)).all (· ≤ reachBytes) = true := hsz0
  have hval : ∀ (j : Nat) t v, Try.f4.params[j]? = some t → args[j]? = some v → Value.okWide Try.prog W .any base t v := hval0
  have hW' := hW
  obtain ⟨p, q, hA0, hV, rfl, hfz, hnd⟩ := hW
  have hA : DataW.TrodAll enc Try.prog W 0 (fun _ => true) true Try.f4.params.toList args.toList ds p := hA0
  rw [Try.params4] at hA hval hsz
  obtain ⟨v0, vs0, d0, ds0, p0, q0, hargs, rfl, rfl, h0, r0⟩ := trodAll_cons hA
  obtain ⟨v1, vs1, d1, ds1, p1, q1, rfl, rfl, rfl, h1, r1⟩ := trodAll_cons r0
  obtain ⟨v2, vs2, d2, ds2, p2, q2, rfl, rfl, rfl, h2, r2⟩ := trodAll_cons r1
  obtain ⟨rfl, rfl, rfl⟩ := trodAll_nil r2
  obtain rfl : args = #[v0, v1, v2] := by cases args; simp_all
  obtain ⟨rfl, rfl⟩ := trodVars_none hV
  obtain ⟨a0, len0, cap0, rfl⟩ := okWide_slice Try.underlying31 (hval 0 31 v0 rfl rfl)
  have k0 := h0
  have lt0 : ∀ x ∈ p0, x.block < W.heap.size := by obtain ⟨m, hm⟩ := k0; exact DataW.trod_lt m _ _ _ hm
  obtain ⟨l0, rfl, r_0, q_0, m_0, g_0⟩ := MyOpen.open_row (MyOpen.o_slice Try.underlying31 (by kernel_rfl) (MyOpen.o_slice Try.underlying26 (by kernel_rfl) (show MyOpen.Opens Try.prog 98 M.k98 _ from MyOpen.o_iso (fun x => (⟨x.1, x.2.1, x.2.2⟩ : M.S98)) (fun _ => rfl) (MyOpen.o_struct Try.underlying98 (by kernel_rfl) (MyOpen.of_cons rfl (by kernel_rfl) (MyOpen.o_int Try.underlying3) (MyOpen.of_cons rfl (by kernel_rfl) (MyOpen.o_int Try.underlying3) (MyOpen.of_one rfl (by kernel_rfl) (MyOpen.o_string Try.underlying9)))))))) h0
  obtain ⟨a1, len1, cap1, rfl⟩ := okWide_slice Try.underlying43 (hval 1 43 v1 rfl rfl)
  have k1 := h1
  have lt1 : ∀ x ∈ p1, x.block < W.heap.size := by obtain ⟨m, hm⟩ := k1; exact DataW.trod_lt m _ _ _ hm
  obtain ⟨z1, w1⟩ : ∃ zs, IsRow .i64 W a1 len1 cap1 zs := by
    obtain ⟨fuel, hf⟩ := h1
    rcases open_ints Try.underlying43 Try.underlying3 (by kernel_rfl) hf with ⟨hcs, _⟩ | ⟨x, l, c, zs, hcs, _, hl, hm, hz, _, hcell, hwz⟩
    · simp [Value.cells] at hcs
      obtain ⟨rfl, rfl, rfl⟩ := hcs
      exact ⟨[], .inl ⟨rfl, rfl, rfl, rfl⟩⟩
    · simp [Value.cells] at hcs
      obtain ⟨rfl, rfl, rfl⟩ := hcs
      exact ⟨zs, .inr ⟨_, rfl, hl, hm, by simpa using hz, hcell, hwz⟩⟩
  have y1 : len1 * 8 ≤ 140737488351232 := Go.Proofs.YtgjclhhjigflkacW.PrintWords.sized_ints hsz (j := 1) (t := 43) rfl rfl Try.underlying43 Try.underlying3 (by kernel_rfl) (by kernel_rfl) h1
  have k2 := h2
  have lt2 : ∀ x ∈ p2, x.block < W.heap.size := by obtain ⟨m, hm⟩ := k2; exact DataW.trod_lt m _ _ _ hm
  obtain ⟨⟨a2_0, ⟨l2_1, l2_2⟩⟩, _, ⟨_, _, rfl, rfl, ⟨_, _, rfl, ⟨A2_1, c2_1, rfl, q_2_1, r_2_1⟩, ⟨A2_2, c2_2, rfl, q_2_2, r_2_2⟩⟩⟩, rfl, ⟨w2_0, ⟨⟨m_2_1, g_2_1⟩, ⟨m_2_2, g_2_2⟩⟩⟩⟩ := MyOpen.open_agg Try.underlying47 (MyOpen.o_struct Try.underlying47 (by kernel_rfl) (MyOpen.of_cons rfl (by kernel_rfl) (MyOpen.o_string Try.underlying9) (MyOpen.of_cons rfl (by kernel_rfl) (MyOpen.o_slice Try.underlying44 (by kernel_rfl) (show MyOpen.Opens Try.prog 96 M.k96 _ from MyOpen.o_iso (fun x => (⟨x.1, x.2.1, x.2.2⟩ : M.S96)) (fun _ => rfl) (MyOpen.o_struct Try.underlying96 (by kernel_rfl) (MyOpen.of_cons rfl (by kernel_rfl) (MyOpen.o_string Try.underlying9) (MyOpen.of_cons rfl (by kernel_rfl) (MyOpen.o_int Try.underlying3) (MyOpen.of_one rfl (by kernel_rfl) (MyOpen.o_bool Try.underlying4))))))) (MyOpen.of_one rfl (by kernel_rfl) (MyOpen.o_slice Try.underlying45 (by kernel_rfl) (show MyOpen.Opens Try.prog 52 M.k52 _ from MyOpen.o_iso (fun x => (⟨x.1, x.2.1, x.2.2⟩ : M.S52)) (fun _ => rfl) (MyOpen.o_struct Try.underlying52 (by kernel_rfl) (MyOpen.of_cons rfl (by kernel_rfl) (MyOpen.o_string Try.underlying9) (MyOpen.of_cons rfl (by kernel_rfl) (MyOpen.o_slice Try.underlying43 (by kernel_rfl) (MyOpen.o_int Try.underlying3)) (MyOpen.of_one rfl (by kernel_rfl) (MyOpen.o_int Try.underlying3))))))))))) (hval 2 47 v2 rfl rfl) h2
  clear hA0 hval0 hsz0 hsz
  refine (M.peristylelaw27_MoverProjects.walk Pure.MoverProjects a0 cap0 l0 a1 len1 cap1 z1 a2_0 A2_1 c2_1 l2_1 A2_2 c2_2 l2_2 W r_0 q_0 m_0 g_0 w1 y1 w2_0 r_2_1 q_2_1 m_2_1 g_2_1 r_2_2 q_2_2 m_2_2 g_2_2).mono fun e W' ⟨he, bel⟩ => ?_
  subst he
  exact ⟨_, rfl, _, _, _, [], _, [], hW', trodAll_mk1 (shut_bool Try.underlying4 _), (trodAll_cons_mk (Below.trod laidOut (by kernel_rfl) (of_decide_eq_true (by kernel_rfl)) k0 bel lt0) (trodAll_cons_mk (Below.trod laidOut (by kernel_rfl) (of_decide_eq_true (by kernel_rfl)) k1 bel lt1) (trodAll_cons_mk (Below.trod laidOut (by kernel_rfl) (of_decide_eq_true (by kernel_rfl)) k2 bel lt2) trodAll_mk0))), rfl, bel.frame _, fun h => by cases h⟩
theorem over : Rows.moverProjectsRow.holds Try.pinned (OpenSpec.ofChange Rows.moverProjectsSpec) :=
  OpenClaim.holds_of_wide 4 Try.f4 rfl rfl rfl rfl rfl rfl rfl ⟨rfl, rfl, rfl, rfl, rfl⟩ rfl rfl rfl rfl rfl (by kernel_rfl) Try.func4 (by kernel_rfl)
    (of_decide_eq_true (by kernel_rfl)) (by unfold Func.isWrapper; first | (rw [if_pos (by decide +kernel)]; kernel_rfl) | (rw [if_neg (by decide +kernel)]; exact ⟨rfl, rfl⟩))
    (fun os started H enc _ => lifted os started H enc)
theorem proved : Rows.MoverProjectsSaid := over
#print axioms proved
end Go.Proofs.Ytgjclhhjigflkac.moverProjects
namespace Go.Proofs.Ytgjclhhjigflkac
/-- The row, under a short name, for the claim. -/
theorem moverProjects_holds : Rows.MoverProjectsSaid := moverProjects.proved
end Go.Proofs.Ytgjclhhjigflkac
