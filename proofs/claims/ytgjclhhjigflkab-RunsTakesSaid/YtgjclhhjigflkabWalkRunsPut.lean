/- The walk of runs.Put: runs gathered in a strings.Builder. -/
import Derived.Test.YtgjclhhjigflkabMx2
import Derived.Test.YtgjclhhjigflkabBld
namespace Go.Proofs.Ytgjclhhjigflkab.M
open Go.RowKit Go.Proofs.Ytgjclhhjigflkab.MyWords Go.Proofs.YtgjclhhjigflkabW.PrintWords Go.Proofs.YtgjclhhjigflkabW.PrintLast Go.Proofs.YtgjclhhjigflkabW.PrintMore
set_option linter.unusedVariables false
set_option linter.unusedSimpArgs false
def rput (r : S86) : List UInt8 := (vputB r.f0).data.toList ++ (vputB r.f2).data.toList
def rputs (l : List S86) : List UInt8 := l.flatMap rput
theorem rputs_snoc (l : List S86) (r : S86) : rputs (l ++ [r]) = rputs l ++ rput r := by simp [rputs]
theorem rputs_cons (l : List S86) (r : S86) : rputs (r :: l) = rput r ++ rputs l := by simp [rputs]
theorem rputs_length (l : List S86) : (rputs l).length ≤ 20 * l.length := by
  induction l with
  | nil => simp [rputs]
  | cons r l ih =>
    rw [rputs_cons, List.length_append, rput, List.length_append, data_length, data_length, List.length_cons]
    have h1 := vputB_size r.f0
    have h2 := vputB_size r.f2
    omega
def runs_Put.f (k : Nat) (l0 : List S86) : Option (ByteArray × Int) := (runs_count.f k l0).bind fun c => if c.2 = true then (if l0.length ≤ 1000000 then some (⟨(rputs l0).toArray⟩, 0) else none) else some (⟨#[]⟩, 1)
theorem runs_Put.mono : ∀ l0 k, LeO (runs_Put.f k l0) (runs_Put.f (k + 1) l0) := by
  intro l0 k
  unfold runs_Put.f
  intro r h
  obtain ⟨c, hc, h⟩ := Option.bind_eq_some_iff.1 h
  rw [runs_count.mono _ _ _ hc]
  exact h
theorem take_rdT (l : List S86) (k : Nat) (h : k < l.length) : l.take (k + 1) = l.take k ++ [rd_T86 l (k : Int)] := by
  rw [List.take_succ_eq_append_getElem h]
  simp [rd_T86, List.getD_eq_getElem?_getD, List.getElem?_eq_getElem h]
set_option maxHeartbeats 4000000 in
set_option maxRecDepth 100000 in
theorem runs_Put.calls (k : Nat) (A0 : Option Addr) (c0 : Nat) (l0 : List S86) (r1 : ByteArray) (r2 : Int) (w : World) (hr0 : Kd.C k86 w A0 l0.length l0) (hc0 : l0.length ≤ c0) (h : runs_Put.f k l0 = some (r1, r2)) :
    Calls Try.prog 46 #[.slice A0 l0.length c0] w fun e w' => e = .returned (.tuple #[.string r1, .int .i64 r2]) ∧ Below w.heap.size w w' := by
  unfold runs_Put.f at h
  obtain ⟨⟨n, ok⟩, hcount, h⟩ := Option.bind_eq_some_iff.1 h
  have HCN := Aside0.mk hcount
  clear hcount
  have HR0 := Aside0.mk hr0
  have HC0 := Aside0.mk hc0
  clear hr0 hc0
  cases ok with
  | false =>
    have h2 : (⟨#[]⟩, 1) = (r1, r2) := Option.some.inj h
    have HE := Aside0.mk h2
    clear h h2
    go_enter Try.func46, Try.ntmps46
    go_wp2_with (first | (go_at_call 88; (with_reducible refine (runs_count.calls k _ _ l0 n false _ HR0.out HC0.out HCN.out).mono ?_); rintro e w1 ⟨rfl, hb1⟩; have HB1 := Aside0.mk hb1; clear hb1))
    go_ret2
    refine ⟨?_, HB1.out⟩
    have h2 := HE.out
    simp only [Prod.mk.injEq] at h2
    rw [← h2.1, ← h2.2]
    rfl
  | true =>
    by_cases hl : l0.length ≤ 1000000
    · have h3 : (if l0.length ≤ 1000000 then some (⟨(rputs l0).toArray⟩, 0) else none) = some (r1, r2) := h
      rw [if_pos hl] at h3
      have HE := Aside0.mk (Option.some.inj h3)
      clear h h3
      go_enter Try.func46, Try.ntmps46
      go_wp2_with (first | (go_at_call 88; (with_reducible refine (runs_count.calls k _ _ l0 n true _ HR0.out HC0.out HCN.out).mono ?_); rintro e w1 ⟨rfl, hb1⟩; have HB1 := Aside0.mk hb1; clear hb1))
      have hs1 := HB1.out.size
      go_loopw [18] (fun v18 wr => ∃ k : Nat, v18 = .int .i64 (k : Int) ∧ k ≤ l0.length ∧ Aside0 (Bld w1.heap.size w1.heap.size (Lib.byteCells (rputs (l0.take k))) wr) ∧ Aside0 (Below w1.heap.size w1 wr)) (fun v18 _ => l0.length - (intOf v18).toNat)
      case atStart => exact ⟨0, rfl, by omega, ⟨bld_new w1⟩, ⟨(Below.refl _ _).alloc (Nat.le_refl _) _⟩⟩
      case round =>
        obtain ⟨j, rfl, hk, HD, HB⟩ := hrel
        by_cases hlt : j < l0.length
        · obtain ⟨ad, hA, hx0, hx1, hx2⟩ := at_T86 (Kd.C_below HR0.out (below_step HB1.out HB.out)) (j : Int) (by omega) (by omega)
          subst hA
          obtain ⟨x, hx⟩ : ∃ x, rd_T86 l0 (j : Int) = x := ⟨_, rfl⟩
          rw [hx] at hx0 hx1 hx2
          rw [Int.toNat_natCast] at hx0 hx1 hx2
          have HX := Aside0.mk hx
          clear hx
          have hlen := rputs_length (l0.take j)
          have hlen2 : (l0.take j).length ≤ j := List.length_take_le _ _
          have hp := vputB_size x.f0
          have hp2 := vputB_size x.f2
          have hsz := HB.out.size
          go_wp2_with (first | ((with_reducible refine gate_dst (N := 8) rfl ?_); refine box_event ?hg (N := 8) ?hd (cs := #[.int .i64 0, .int .i64 0, .int .i64 0]) (t := 86) ?hr ?_; (case hd => rfl); (case hg => rfl); (case hr => first | (go_simp; done) | (go_simp; rfl)); intro gb hg w7 hbox hb; have HBX := Aside0.mk hb; have BK := Aside0.mk hbox; have HGB := Aside0.mk hg; clear hb hbox hg; have hcz0 : w7.cell? ⟨gb, 0, none⟩ = some (.int .i64 0) := (blk_cell BK.out 0).trans rfl; have hcz1 : w7.cell? ⟨gb, 1, none⟩ = some (.int .i64 0) := (blk_cell BK.out 1).trans rfl; have hcz2 : w7.cell? ⟨gb, 2, none⟩ = some (.int .i64 0) := (blk_cell BK.out 2).trans rfl; have hfz0 := blk_frozen BK.out 0; have hfz1 := blk_frozen BK.out 1; have hfz2 := blk_frozen BK.out 2))
          obtain ⟨W8, hW8⟩ : ∃ W8, W8 = ((w7.setCell ⟨gb, 0, none⟩ (.int .i64 x.f0)).setCell ⟨gb, 1, none⟩ (.int .i64 x.f1)).setCell ⟨gb, 2, none⟩ (.int .i64 x.f2) := ⟨_, rfl⟩
          have hle : wr.heap.size ≤ gb := by have := HGB.out; omega
          have hB8 : Below wr.heap.size wr W8 := by rw [hW8]; exact below_set (below_set (below_set HBX.out hle) hle) hle
          have hK8 : W8.heap[gb]? = some (.cells (((#[Value.int .i64 0, Value.int .i64 0, Value.int .i64 0].setIfInBounds 0 (.int .i64 x.f0)).setIfInBounds 1 (.int .i64 x.f1)).setIfInBounds 2 (.int .i64 x.f2)) 86 (0, 0)) := by rw [hW8]; exact blk_set (blk_set (blk_set BK.out 0 _) 1 _) 2 _
          rw [← hW8]
          clear hcz0 hcz1 hcz2 hfz0 hfz1 hfz2 hx0 hx1 hx2
          refine (vint_Put.calls x.f0 (vputB x.f0) W8 rfl).mono ?_
          rintro e w2 ⟨rfl, hb2⟩
          have hD2 := bld_below (bld_below HD.out hB8) hb2
          have hs8 := hB8.size
          have hs2 := hb2.size
          have hK2 := blk_below hK8 hb2
          go_wp2_with fail
          refine (bld_WriteString2 w1.heap.size w1.heap.size _ (vputB x.f0) w2 hD2 (by rw [Lib.byteCells_length]; omega) (by omega)).mono ?_
          rintro e w3 ⟨rfl, hD3, hb3, ho3⟩
          have hK3 := ho3 gb _ _ _ hK2 (by decide) (by decide)
          have hcc : w3.cell? ⟨gb, 2, none⟩ = some (.int .i64 x.f2) := (blk_cell hK3 2).trans rfl
          have hB3 : Below w1.heap.size w1 w3 := (below_step (below_step HB.out hB8) hb2).trans hb3
          have HB3 := Aside0.mk hB3
          have HD3 := Aside0.mk hD3
          clear hD3 hB3 hb3 ho3 hK3 hD2 hb2 hK2 hK8 hB8 hW8
          have hs3 := HB3.out.size
          go_wp2_with fail
          refine (vint_Put.calls x.f2 (vputB x.f2) w3 rfl).mono ?_
          rintro e w4 ⟨rfl, hb4⟩
          have hD4 := bld_below HD3.out hb4
          have hs4 := hb4.size
          go_wp2_with fail
          refine (bld_WriteString2 w1.heap.size w1.heap.size _ (vputB x.f2) w4 hD4 (by rw [List.length_append, Lib.byteCells_length, Lib.strCells_length]; omega) (by omega)).mono ?_
          rintro e w5 ⟨rfl, hD5, hb5, _⟩
          go_wp2
          refine ⟨⟨j + 1, by simp, by omega, ⟨?_⟩, ⟨(below_step HB3.out hb4).trans hb5⟩⟩, by simp [intOf]; omega⟩
          rw [take_rdT l0 j hlt, rputs_snoc, rput, HX.out, Lib.byteCells_append, Lib.byteCells_append, ← List.append_assoc]
          exact hD5
        · have hsz := HB.out.size
          have hk2 : l0.take j = l0 := List.take_of_length_le (by omega)
          have hd := HD.out
          rw [hk2] at hd
          clear hk2
          go_wp2_with fail
          refine (Try.Builder_String_any w1.heap.size w1.heap.size _ wr hd (by omega)).mono ?_
          rintro e w2 ⟨rfl, hb2⟩
          go_wp2
          go_ret2
          refine ⟨?_, below_step HB1.out (HB.out.trans hb2)⟩
          have h2 := HE.out
          simp only [Prod.mk.injEq] at h2
          rw [← h2.1, ← h2.2]
          rfl
    · have h3 : (if l0.length ≤ 1000000 then some (⟨(rputs l0).toArray⟩, 0) else none) = some (r1, r2) := h
      rw [if_neg hl] at h3
      cases h3
end Go.Proofs.Ytgjclhhjigflkab.M
