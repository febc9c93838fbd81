/- The walk of epoch.Put: marks gathered in a strings.Builder. -/
import Derived.Test.YtgjclhhjigflkacMx2
import Derived.Test.YtgjclhhjigflkacBld
namespace Go.Proofs.Ytgjclhhjigflkac.M
open Go Go.RowKit Go.Proofs.Ytgjclhhjigflkac.MyWords Go.Proofs.YtgjclhhjigflkacW.PrintWords Go.Proofs.YtgjclhhjigflkacW.PrintLast Go.Proofs.YtgjclhhjigflkacW.PrintMore
set_option linter.unusedVariables false
set_option linter.unusedSimpArgs false
abbrev TMark := S84
def lastE : Int → List TMark → Int
  | n, [] => n
  | _, x :: l => lastE x.f0 l
def eput : Int → List TMark → List UInt8
  | _, [] => []
  | n, x :: l => (vputB (wrap64 (x.f0 - n))).data.toList ++ (vputB x.f1).data.toList ++ eput x.f0 l
theorem eput_snoc (x : TMark) : ∀ (l : List TMark) (n : Int), eput n (l ++ [x]) = eput n l ++ ((vputB (wrap64 (x.f0 - lastE n l))).data.toList ++ (vputB x.f1).data.toList)
  | [], n => by rw [List.nil_append, eput, eput, eput, lastE, List.append_nil, List.nil_append]
  | y :: l, n => by rw [List.cons_append, eput, eput, lastE, eput_snoc x l y.f0, List.append_assoc, List.append_assoc, List.append_assoc]
theorem lastE_snoc (x : TMark) : ∀ (l : List TMark) (n : Int), lastE n (l ++ [x]) = x.f0
  | [], n => rfl
  | y :: l, n => by rw [List.cons_append, lastE]; exact lastE_snoc x l y.f0
theorem cells_nil (s : ByteArray) : Lib.byteCells [] ++ Lib.strCells s = Lib.byteCells s.data.toList := rfl
theorem eput_length : ∀ (l : List TMark) (n : Int), (eput n l).length ≤ 20 * l.length
  | [], n => by rw [eput]; exact Nat.zero_le _
  | x :: l, n => by
    have h1 := vputB_size (wrap64 (x.f0 - n))
    have h2 := vputB_size x.f1
    have := eput_length l x.f0
    rw [eput, List.length_append, List.length_append, data_length, data_length, List.length_cons]
    omega
def epochS (l0 : List TMark) : List UInt8 := (vputB (l0.length : Int)).data.toList ++ eput (-1) l0
def epoch_Put.f (k : Nat) (l0 : List TMark) : Option (ByteArray × Int) := (epoch_good.f k l0 4096).bind fun c => if c = true then (if l0.length ≤ 1000000 then some (⟨(epochS l0).toArray⟩, 0) else none) else some (⟨#[]⟩, 1)
theorem epoch_Put.mono : ∀ l0 k, LeO (epoch_Put.f k l0) (epoch_Put.f (k + 1) l0) := by
  intro l0 k
  unfold epoch_Put.f
  intro r h
  obtain ⟨c, hc, h⟩ := Option.bind_eq_some_iff.1 h
  rw [epoch_good.mono _ _ _ _ hc]
  exact h
theorem take_rdM (l : List TMark) (k : Nat) (h : k < l.length) : l.take (k + 1) = l.take k ++ [rd_T84 l (k : Int)] := by
  rw [List.take_succ_eq_append_getElem h]
  simp [rd_T84, List.getD_eq_getElem?_getD, List.getElem?_eq_getElem h]
set_option maxHeartbeats 4000000 in
set_option maxRecDepth 100000 in
theorem epoch_Put.calls (k : Nat) (A0 : Option Addr) (c0 : Nat) (l0 : List TMark) (r1 : ByteArray) (r2 : Int) (w : World) (hr0 : Kd.C k84 w A0 l0.length l0) (hc0 : l0.length ≤ c0) (h : epoch_Put.f k l0 = some (r1, r2)) :
    Calls Try.prog 51 #[.slice A0 l0.length c0] w fun e w' => e = .returned (.tuple #[.string r1, .int .i64 r2]) ∧ Below w.heap.size w w' := by
  unfold epoch_Put.f at h
  obtain ⟨ok, hgood, h⟩ := Option.bind_eq_some_iff.1 h
  have HCN := Aside0.mk hgood
  clear hgood
  have HR0 := Aside0.mk hr0
  have HC0 := Aside0.mk hc0
  clear hr0 hc0
  cases ok with
  | false =>
    have h2 : (⟨#[]⟩, 1) = (r1, r2) := Option.some.inj h
    have HE := Aside0.mk h2
    clear h h2
    go_enter Try.func51, Try.ntmps51
    go_wp2_with (first | (go_at_call 95; (with_reducible refine (epoch_good.calls k _ _ l0 4096 false _ HR0.out HC0.out HCN.out).mono ?_); rintro e w1 ⟨rfl, hb1⟩; have HB1 := Aside0.mk hb1; clear hb1))
    go_ret2
    refine ⟨?_, HB1.out⟩
    have h2 := HE.out
    simp only [Prod.mk.injEq] at h2
    rw [← h2.1, ← h2.2]
    rfl
  | true =>
    by_cases hl : l0.length ≤ 1000000
    · have h3 : (if l0.length ≤ 1000000 then some (⟨(epochS l0).toArray⟩, 0) else none) = some (r1, r2) := h
      rw [if_pos hl] at h3
      have HE := Aside0.mk (Option.some.inj h3)
      clear h h3
      have hp0 := vputB_size (l0.length : Int)
      go_enter Try.func51, Try.ntmps51
      go_wp2_with (first | (go_at_call 95; (with_reducible refine (epoch_good.calls k _ _ l0 4096 true _ HR0.out HC0.out HCN.out).mono ?_); rintro e w1 ⟨rfl, hb1⟩; have HB1 := Aside0.mk hb1; clear hb1))
      have hs1 := HB1.out.size
      refine (vint_Put.calls (l0.length : Int) (vputB (l0.length : Int)) _ rfl).mono ?_
      rintro e w2 ⟨rfl, hb2⟩
      have hD2 := bld_below (bld_new w1) hb2
      have hs2 := hb2.size
      simp only [World.size_alloc] at hs2
      go_wp2_with fail
      refine (bld_WriteString2 w1.heap.size w1.heap.size _ (vputB (l0.length : Int)) w2 hD2 (by rw [Lib.byteCells_length, List.length_nil]; omega) (by omega)).mono ?_
      rintro e w3 ⟨rfl, hD3, hb3, _⟩
      have HB3 : Aside0 (Below w1.heap.size w1 w3) := ⟨(below_then ((Below.refl _ _).alloc (Nat.le_refl _) _) (by simp) hb2).trans hb3⟩
      have HD3 : Aside0 (Bld w1.heap.size w1.heap.size (Lib.byteCells ((vputB (l0.length : Int)).data.toList ++ eput (-1) (l0.take 0))) w3) := ⟨by rw [List.take_zero, eput, List.append_nil, ← cells_nil]; exact hD3⟩
      clear hD2 hb2 hb3 hD3 hs2
      have hs3 := HB3.out.size
      go_wp2_with fail
      go_loopw [5, 7, 17] (fun v5 v7 v17 wr => ∃ j : Nat, v17 = .int .i64 (j : Int) ∧ v5 = .int .i64 (lastE (-1) (l0.take j)) ∧ j ≤ l0.length ∧ Aside0 (Bld w1.heap.size w1.heap.size (Lib.byteCells ((vputB (l0.length : Int)).data.toList ++ eput (-1) (l0.take j))) wr) ∧ Aside0 (Below w1.heap.size w1 wr)) (fun _ _ v17 _ => l0.length - (intOf v17).toNat)
      case atStart => exact ⟨0, rfl, rfl, by omega, HD3, HB3⟩
      case round =>
        clear HD3 HB3 hs3
        obtain ⟨j, rfl, rfl, hk, HD, HB⟩ := hrel
        obtain ⟨last, hlast⟩ : ∃ n, lastE (-1) (l0.take j) = n := ⟨_, rfl⟩
        rw [hlast]
        by_cases hlt : j < l0.length
        · obtain ⟨ad, hA, hx0, hx1⟩ := at_T84 (Kd.C_below HR0.out (below_step HB1.out HB.out)) (j : Int) (by omega) (by omega)
          subst hA
          obtain ⟨x, hx⟩ : ∃ x, rd_T84 l0 (j : Int) = x := ⟨_, rfl⟩
          rw [hx] at hx0 hx1
          rw [Int.toNat_natCast] at hx0 hx1
          have HX := Aside0.mk hx
          have HLA := Aside0.mk hlast
          clear hx hlast
          have hlen := eput_length (l0.take j) (-1)
          have hlen2 : (l0.take j).length ≤ j := List.length_take_le _ _
          have hp := vputB_size (wrap64 (x.f0 - last))
          have hp2 := vputB_size x.f1
          have hsz := HB.out.size
          go_wp2_with (first | ((with_reducible refine gate_dst (N := 7) rfl ?_); refine box_event ?hg (N := 7) ?hd (cs := #[.int .i64 0, .int .i64 0]) (t := 84) ?hr ?_; (case hd => rfl); (case hg => rfl); (case hr => first | (go_simp; done) | (go_simp; rfl)); intro gb hg w7 hbox hb; have HBX := Aside0.mk hb; have BK := Aside0.mk hbox; have HGB := Aside0.mk hg; clear hb hbox hg; have hcz0 : w7.cell? ⟨gb, 0, none⟩ = some (.int .i64 0) := (blk_cell BK.out 0).trans rfl; have hcz1 : w7.cell? ⟨gb, 1, none⟩ = some (.int .i64 0) := (blk_cell BK.out 1).trans rfl; have hfz0 := blk_frozen BK.out 0; have hfz1 := blk_frozen BK.out 1))
          obtain ⟨W8, hW8⟩ : ∃ W8, W8 = (w7.setCell ⟨gb, 0, none⟩ (.int .i64 x.f0)).setCell ⟨gb, 1, none⟩ (.int .i64 x.f1) := ⟨_, rfl⟩
          have hle : wr.heap.size ≤ gb := by have := HGB.out; omega
          have hB8 : Below wr.heap.size wr W8 := by rw [hW8]; exact below_set (below_set HBX.out hle) hle
          have hK8 : W8.heap[gb]? = some (.cells ((#[Value.int .i64 0, Value.int .i64 0].setIfInBounds 0 (.int .i64 x.f0)).setIfInBounds 1 (.int .i64 x.f1)) 84 (0, 0)) := by rw [hW8]; exact blk_set (blk_set BK.out 0 _) 1 _
          rw [← hW8]
          clear hcz0 hcz1 hfz0 hfz1 hx0 hx1
          refine (vint_Put.calls (wrap64 (x.f0 - last)) (vputB (wrap64 (x.f0 - last))) W8 rfl).mono ?_
          rintro e w2 ⟨rfl, hb2⟩
          have hD2 := bld_below (bld_below HD.out hB8) hb2
          have hs8 := hB8.size
          have hs2 := hb2.size
          have hK2 := blk_below hK8 hb2
          go_wp2_with fail
          refine (bld_WriteString2 w1.heap.size w1.heap.size _ (vputB (wrap64 (x.f0 - last))) w2 hD2 (by rw [Lib.byteCells_length, List.length_append, data_length]; omega) (by omega)).mono ?_
          rintro e w3 ⟨rfl, hD3, hb3, ho3⟩
          have hK3 := ho3 gb _ _ _ hK2 (by decide) (by decide)
          have hc0 : w3.cell? ⟨gb, 0, none⟩ = some (.int .i64 x.f0) := (blk_cell hK3 0).trans rfl
          have hc1 : w3.cell? ⟨gb, 1, none⟩ = some (.int .i64 x.f1) := (blk_cell hK3 1).trans rfl
          have hB3 : Below w1.heap.size w1 w3 := (below_step (below_step HB.out hB8) hb2).trans hb3
          have HB3 := Aside0.mk hB3
          have HD3 := Aside0.mk hD3
          have HK3 := Aside0.mk hK3
          clear hD3 hB3 hb3 ho3 hK3 hD2 hb2 hK2 hK8 hB8 hW8
          have hs3 := HB3.out.size
          go_wp2_with fail
          refine (vint_Put.calls x.f1 (vputB x.f1) w3 rfl).mono ?_
          rintro e w4 ⟨rfl, hb4⟩
          have hD4 := bld_below HD3.out hb4
          have hs4 := hb4.size
          have hK4 := blk_below HK3.out hb4
          clear hc0 hc1
          go_wp2_with fail
          refine (bld_WriteString2 w1.heap.size w1.heap.size _ (vputB x.f1) w4 hD4 (by rw [List.length_append, Lib.byteCells_length, Lib.strCells_length, List.length_append, data_length]; omega) (by omega)).mono ?_
          rintro e w5 ⟨rfl, hD5, hb5, ho5⟩
          have hK5 := ho5 gb _ _ _ hK4 (by decide) (by decide)
          have hc0 : w5.cell? ⟨gb, 0, none⟩ = some (.int .i64 x.f0) := (blk_cell hK5 0).trans rfl
          have HD5 := Aside0.mk hD5
          have HB5 := Aside0.mk ((below_step HB3.out hb4).trans hb5)
          clear hD5 hb5 ho5 hK5 hK4 hD4 hb4
          go_wp2
          refine ⟨⟨j + 1, by simp, ?_, by omega, ⟨?_⟩, HB5⟩, by simp [intOf]; omega⟩
          · rw [take_rdM l0 j hlt, HX.out, lastE_snoc]
          · rw [take_rdM l0 j hlt, eput_snoc, HX.out, HLA.out, ← List.append_assoc, ← List.append_assoc, Lib.byteCells_append, Lib.byteCells_append]
            exact HD5.out
        · have hsz := HB.out.size
          have hk2 : l0.take j = l0 := List.take_of_length_le (by omega)
          have hd := HD.out
          rw [hk2] at hd
          clear hk2 hlast
          go_wp2_with fail
          refine (Try.Builder_String_any w1.heap.size w1.heap.size _ wr hd (by omega)).mono ?_
          rintro e w2 ⟨rfl, hb2⟩
          go_wp2
          go_ret2
          refine ⟨?_, below_step HB1.out (HB.out.trans hb2)⟩
          have h2 := HE.out
          simp only [Prod.mk.injEq] at h2
          rw [← h2.1, ← h2.2]
          rfl
    · have h3 : (if l0.length ≤ 1000000 then some (⟨(epochS l0).toArray⟩, 0) else none) = some (r1, r2) := h
      rw [if_neg hl] at h3
      cases h3
end Go.Proofs.Ytgjclhhjigflkac.M
