/- A row of the call's own, whose tail is cleared. -/
import Derived.Test.YtgjclhhjigflkabHand
namespace Go.Proofs.Ytgjclhhjigflkab.Hand
open Go Go.RowKit Go.Proofs.YtgjclhhjigflkabW.PrintWords Go.Proofs.YtgjclhhjigflkabW.PrintLast Go.Proofs.YtgjclhhjigflkabW.PrintMore
set_option linter.unusedVariables false
set_option linter.unusedSimpArgs false
section
variable {α : Type} {d : Kd α} {e base n cap g : Nat} {ok : Nat → Prop} {W : World} {xs : List α}
/-- an element's cells, and what they lead to -/
theorem row_at (h : Kd.N d e W base ok (.slice (some ⟨g, 0, none⟩) n cap) xs) (i : Nat) (hi : i < xs.length) : ∃ c, c.length = d.sz ∧ (∀ j u, c[j]? = some u → W.cell? ⟨g, i * d.sz + j, none⟩ = some u) ∧ Kd.FK d W (fun k => ok k ∧ k ≠ g) xs[i] c := by
  obtain ⟨hown, rows, hl, hR, hf⟩ := h
  have hir : i < rows.length := by omega
  obtain ⟨ad, c, hA, hcl, hK, hcc⟩ := at_cells (Kd.R_reads' hR).2.2 i hir
  injection hA with hA
  subst hA
  have hc : c = rows[i]'hir := hK.1
  subst hc
  refine ⟨rows[i], hcl, fun j u hu => ?_, ?_⟩
  · have := hcc j u hu
    rw [add_plain] at this
    rw [← this]
    congr 1
    unfold Addr.add
    split <;> simp_all <;> rfl
  · refine Kd.FK_mono (hf i xs[i] rows[i] (List.getElem?_eq_getElem hi) (List.getElem?_eq_getElem hir)) (fun k hk => ⟨hk.1, fun he => hk.2 ?_⟩)
    rw [he]
    simp [Value.ownBlock]
/-- a row's block -/
theorem row_block (h : Kd.N d e W base ok (.slice (some ⟨g, 0, none⟩) n cap) xs) : ∃ cur : Array Value, W.heap[g]? = some (.cells cur e (0, 0)) ∧ cur.size = cap * d.sz := by
  obtain ⟨hown, rows, hl, hR, hf⟩ := h
  obtain ⟨h0, inner, ho, hr⟩ := hR
  rcases ho.2 with ⟨he, _⟩ | ⟨g', cap', cur, he, hb, hh, hnc, hcm, hcs, ht⟩
  · cases he
  · injection he with h1 h2 h3
    injection h1 with h1
    injection h1 with h1 _ _
    subst h1 h3
    exact ⟨cur, hh, hcs⟩
/-- cells behind the first i elements are written: the first i are as they were -/
theorem N_tail {w0 : World} (h : Kd.N d e W base ok (.slice (some ⟨g, 0, none⟩) n cap) xs) (i : Nat) (hi : i ≤ xs.length) (vs : List Value) (hv : i * d.sz + vs.length ≤ cap * d.sz) (hB : Below base w0 W) (hbg : base ≤ g) :
    Kd.N d e (W.setCells g (i * d.sz) vs) base ok (.slice (some ⟨g, 0, none⟩) i cap) (xs.take i) ∧ Below base w0 (W.setCells g (i * d.sz) vs) ∧ W.grownBy (W.setCells g (i * d.sz) vs) (some g) := by
  have hn := (Kd.N_reads' h).1
  have h2 := Kd.N_take h hi
  obtain ⟨s1, s2, s3, s4⟩ := setCells_same g vs (i * d.sz) W
  have hg : W.grownBy (W.setCells g (i * d.sz) vs) (some g) := ⟨s1, s2, s3, by omega, fun k hk hne => setCells_far vs _ k (fun hkg => hne (by rw [hkg]))⟩
  refine ⟨?_, ?_, hg⟩
  · obtain ⟨hown, rows, hl, hR, hf⟩ := h2
    have hgo : (Value.slice (some ⟨g, 0, none⟩) i cap).ownBlock = some g := by simp [Value.ownBlock]
    refine ⟨hown, rows, hl, ?_, fun j x c hx hc => ?_⟩
    · obtain ⟨h0, inner, ho, hr⟩ := hR
      refine ⟨h0, inner, ?_, hr⟩
      obtain ⟨hil, ho⟩ := ho
      refine ⟨hil, ?_⟩
      rcases ho with ⟨he, _⟩ | ⟨g', cap', cur, he, hb, hh, hnc, hcm, hcs, ht⟩
      · cases he
      · injection he with h1 h2 h3
        injection h1 with h1
        injection h1 with h1 _ _
        subst h1 h3
        have hcs' : cur.size = cap * d.sz := hcs
        obtain ⟨cur', r1, r2, r3⟩ := setCells_row vs (i * d.sz) W cur hh (by omega)
        have hlr : rows.length = i := h2.symm
        refine .inr ⟨g, cap, cur', by rw [hlr], hb, r1, hnc, hcm, by rw [r2, hcs], ?_⟩
        have ht' : cur.toList.take (rows.length * d.sz) = inner := ht
        show cur'.toList.take (rows.length * d.sz) = inner
        rw [← ht', hlr, r3, List.append_assoc, List.take_append_of_le_length (by rw [List.length_take, Array.length_toList]; omega), List.take_take, Nat.min_self]
    · exact Kd.FK_step (hf j x c hx hc) (fun k hk hlt => hg.block k hlt (fun he => hk.2 (by rw [hgo]; exact he)))
  · exact hB.grown hg (by have := Kd.N_lt h g (by simp [Value.ownBlock]); omega) (fun k hk => by injection hk with hk; omega)
end
section
variable {P : Program} {ops : Array Oper} {rest : List Oper} {o : Oper} {a : Act} {Q : Exit → Act → World → Prop}
theorem clear_event {W : World} (hgd : o.guard = none) (x : Operand) (t e : TypeId) (ho : o.op = .call { callee := .builtin .clear, args := #[x], argTypes := #[t] }) (g off m c : Nat) (hx : a.eval x = .slice (some ⟨g, off, none⟩) m c)
    (ht : P.underlying t = some (.slice e)) (z : Value) (hz : (zeroValue e).run P W = .ok z W) (h1 : ∀ u ∈ z.cells.toList, u.oneCell' = true) (hzs : 0 < z.cells.size) (cur : Array Value) (te : TypeId) (hh : W.heap[g]? = some (.cells cur te (0, 0))) (hm : 0 < m) (hfit : off + m * z.cells.size ≤ cur.size)
    (h : ∀ vs, vs.length = m * z.cells.size → wpList P ops Q rest (a.put o.dst (.tuple #[])) (W.setCells g off vs)) : wpList P ops Q (o :: rest) a W := by
  obtain ⟨vs, hvs⟩ : ∃ vs, vs = (Builtin.zeroCells z.cells m).toList := ⟨_, rfl⟩
  have hl : vs.length = m * z.cells.size := by rw [hvs]; simp [Builtin.zeroCells]
  have hone : ∀ u ∈ vs, u.oneCell' = true := by
    intro u hu
    rw [hvs] at hu
    simp only [Builtin.zeroCells, Array.toList_map, List.mem_map] at hu
    obtain ⟨i, _, rfl⟩ := hu
    have hlt : i % z.cells.size < z.cells.size := Nat.mod_lt _ hzs
    rw [getElem!_pos z.cells _ hlt]
    exact h1 _ (by simp)
  have hst := run_storeCells_cells (P := P) g off vs 0 W (fun j hj => by rw [cell_of_row W g _ cur te (0, 0) hh]; simp; omega) (fun j _ => blk_frozen hh _) hone
  simp only [Nat.add_zero] at hst
  refine wpList_plain hgd fun K hK => ?_
  have hm0 : ∃ m', m = m' + 1 := ⟨m - 1, by omega⟩
  obtain ⟨m', rfl⟩ := hm0
  have hrun : (Builtin.clear_ #[t] o.type #[.slice (some ⟨g, off, none⟩) (m' + 1) c]).run P W = .ok (.tuple #[]) (W.setCells g off vs) := by
    simp [Builtin.clear_, run_underlying ht, hz, Result.andThen, ← hvs, hst]
  unfold Oper.wp execOp
  simp only [ho, resolve, invoke, builtin, Sem.run_bind, Sem.run_pure, Result.andThen_ok, List.map_toArray, List.map_cons, List.map_nil, hx, hrun]
  exact hK _ _ (h vs hl)
end
end Go.Proofs.Ytgjclhhjigflkab.Hand
