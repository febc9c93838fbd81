/- The walks of New and Read. -/
import Derived.Test.YtgjclhhjigflkabDevEv
namespace Go.Proofs.Ytgjclhhjigflkab.Dev
open Go Go.RowKit Go.Proofs.Ytgjclhhjigflkab.MyWords Go.Proofs.Ytgjclhhjigflkab.Hand Go.Proofs.YtgjclhhjigflkabW.PrintWords Go.Proofs.YtgjclhhjigflkabW.PrintLast Go.Proofs.YtgjclhhjigflkabW.PrintMore
set_option linter.unusedVariables false
set_option linter.unusedSimpArgs false
theorem new_no (n : Int) (w : World) (h : n < 1 ∨ 4096 < n) :
    Calls Try.prog 15 #[.int .i64 n] w fun e w' => e = .returned (.tuple #[.pointer none, .int .i64 1]) ∧ w = w' := by
  by_cases h0 : n < 1
  · go_enter Try.func15, Try.ntmps15
    go_wp2
    go_ret2
    exact ⟨rfl, rfl⟩
  · have h1 : 4096 < n := h.resolve_left h0
    go_enter Try.func15, Try.ntmps15
    go_wp2
    go_ret2
    exact ⟨rfl, rfl⟩
theorem new_calls (n : Int) (w : World) (h0 : 1 ≤ n) (h1 : n ≤ 4096) :
    Calls Try.prog 15 #[.int .i64 n] w fun e w' => ∃ g : Nat, e = .returned (.tuple #[.pointer (some ⟨g, 0, none⟩), .int .i64 0]) ∧ Dev w' w.heap.size (fun k => w.heap.size ≤ k) g (newD n.toNat) ∧ Below w.heap.size w w' := by
  have hg0 : ¬ n < 1 := by omega
  have hg1 : ¬ n > 4096 := by omega
  go_enter Try.func15, Try.ntmps15
  go_wp2_with (first | ((with_reducible refine gate_dst (N := 11) rfl ?_); refine Kd.R_make kB (w0 := w) w.heap.size TB rfl (N := 11) rfl 53 (.tmp 10) (.tmp 10) rfl n rfl rfl Try.underlying53 _ 128 info_B (by rw [← Array.length_toList]; show (blkCells zeroB).length = 128; rw [blkCells_len, zeroB_size]) (by decide) (by decide) zeroB (ok := fun k => w.heap.size ≤ k) (okp := fun k => w.heap.size ≤ k) ⟨zeroB_size, by simp [Value.cells]⟩ (fun _ hk => hk) (Nat.le_refl _) (by omega) (by omega) (Below.refl _ _) (Nat.le_refl _) ?_; intro v1 w1 hR hB hG hV; obtain ⟨A1, c1, rfl⟩ := Kd.R_slice hR; have HR := Aside0.mk hR; have HB := Aside0.mk hB; clear hR hB hG hV) | ((with_reducible refine gate_dst (N := 13) rfl ?_); refine box_event ?hg (N := 13) ?hd (cs := #[.slice A1 (List.replicate n.toNat zeroB).length c1, .slice none 0 0, .int .i64 (-1), .bool false]) (t := TD) ?hr ?_; (case hd => rfl); (case hg => rfl); (case hr => first | (go_simp; done) | (go_simp; rfl)); intro g hg w2 hbox hb; have HBX := Aside0.mk hb; have BK := Aside0.mk hbox; have HGB := Aside0.mk hg; clear hb hbox hg))
  go_ret2
  have hle := HB.out.size
  refine ⟨g, rfl, ⟨by rw [HGB.out]; exact hle, by rw [HGB.out]; exact hle, newD_ok _ (by omega) (by omega), _, .slice none 0 0, BK.out, ?_, Kd.R_nil _ _ _ _ _⟩, below_then HB.out hle HBX.out⟩
  exact Kd.R_below HR.out HBX.out
theorem foldl_at {α β : Type} (f : β → α → β) (b : β) (l : List α) (k : Nat) (h : k < l.length) : (l.take (k + 1)).foldl f b = f ((l.take k).foldl f b) l[k] := by
  rw [List.take_succ_eq_append_getElem h, List.foldl_append]
  rfl
/-- the block after so many of the writes that wait -/
def blockAt (D : DS) (a : Int) (k : Nat) : ByteArray := (D.wait.take k).foldl (fun b w => if w.at_ = a then w.b else b) (D.sure.getD a.toNat ByteArray.empty)
theorem blockAt_all (D : DS) (a : Int) : blockAt D a D.wait.length = blockD D a := by unfold blockAt blockD; rw [List.take_length]
theorem blockAt_succ (D : DS) (a : Int) (k : Nat) (h : k < D.wait.length) : blockAt D a (k + 1) = if D.wait[k].at_ = a then D.wait[k].b else blockAt D a k := by
  unfold blockAt
  rw [foldl_at _ _ _ _ h]
theorem blockAt_size {D : DS} (hD : Ok D) (a : Int) (ha : hasD D a = true) : ∀ k, k ≤ D.wait.length → (blockAt D a k).size = 128
  | 0, _ => by
    have h2 := has_iff.1 ha
    have h3 : a.toNat < D.sure.length := by omega
    unfold blockAt
    rw [List.take_zero, List.foldl_nil, List.getD_eq_getElem?_getD, List.getElem?_eq_getElem h3]
    exact hD.sz _ (List.getElem_mem h3)
  | k + 1, h => by
    rw [blockAt_succ D a k (by omega)]
    split
    · exact hD.wsz _ (List.getElem_mem _)
    · exact blockAt_size hD a ha k (by omega)
/-- a waiting write's cells in memory -/
theorem wait_cells {w wr : World} {base g s c c1 : Nat} {ok : Nat → Prop} {D : DS} {A : Option Addr} (h : Op w base ok g D s c A c1) (hm : ∀ k, ok k → k < w.heap.size → wr.heap[k]? = w.heap[k]?) (k : Nat) (hk : k < D.wait.length) :
    ∃ ad, A = some ad ∧ ∀ j u, (wrCells D.wait[k])[j]? = some u → wr.cell? ((ad.add (k * 129)).add j) = some u := by
  obtain ⟨ad, cs, hA, hl, hK, hcc⟩ := at_cells (Kd.R_reads' (Kd.R_step h.wait hm)).2.2 k hk
  obtain ⟨_, rfl⟩ := (show _ ∧ cs = wrCells D.wait[k] from hK)
  exact ⟨ad, hA, hcc⟩
set_option maxHeartbeats 1000000 in
set_option maxRecDepth 100000 in
theorem read_yes {base : Nat} {ok : Nat → Prop} {g : Nat} {D : DS} {w : World} (a : Int) (H : Dev w base ok g D) (hhas : hasD D a = true) (hoff : D.off = false) :
    Calls Try.prog 24 #[.pointer (some ⟨g, 0, none⟩), .int .i64 a] w fun e w' => e = .returned (.tuple #[.string (blockD D a), .int .i64 0]) ∧ Below w.heap.size w w' := by
  obtain ⟨s, c, A, c1, h⟩ := H.open_
  have hg : g < w.heap.size := H.lt
  have hc0 := h.cell0
  have hc1 := h.cell1
  have hc3 := h.cell3
  rw [hoff] at hc3
  have hn := h.good.pos
  have ha := has_iff.1 hhas
  have ha0 := ha.1
  have ha1 := ha.2
  have hwl : D.wait.length ≤ 9223372036854775807 := (Kd.R_reads' h.wait).2.2.2.1
  obtain ⟨cb, hcl, hM, hcc, hfr⟩ := Kd.R_elem h.sure ByteArray.empty a ha0 ha1
  obtain ⟨hbs, rfl⟩ := (show _ ∧ cb = blkCells (D.sure.getD a.toNat ByteArray.empty) from hM)
  have hb0 : blockAt D a 0 = D.sure.getD a.toNat ByteArray.empty := rfl
  rw [← hb0] at hcc hbs
  have HSZ := Aside0.mk (fun k hk => blockAt_size h.good a hhas k hk)
  have HCC := Aside0.mk hcc
  have HH := Aside0.mk h
  have HBS := Aside0.mk hbs
  have HHAS := Aside0.mk hhas
  have HDEC := Aside0.mk (show decide (0 ≤ a ∧ a < (D.sure.length : Int)) = true from hhas)
  clear H h hM hcc hbs hhas hoff ha hcl hfr hb0
  go_enter Try.func24, Try.ntmps24
  go_wp2_with (first | (go_at_call 64; refine (has_some g s _ c a true _ hc0 hn HDEC.out).mono ?_; rintro e w' ⟨rfl, rfl⟩) | ((with_reducible refine gate_dst (N := 25) rfl ?_); refine var_event TB rfl (N1 := 25) rfl (.tmp 24) rfl rfl (N2 := 6) rfl (blkCells zeroB) (fun e W => run_alloc_B rfl) rfl rfl rfl ⟨s, a.toNat * 128, none⟩ ?e1 (blkCells (blockAt D a 0)) (fun j v hv => by rw [add_at]; exact HCC.out j v hv) _ Try.underlying111 rfl (by rw [blkCells_len, HBS.out]; exact size_B) (by rw [blkCells_len, blkCells_len, HBS.out, zeroB_size]) (blkCells_one _) (fun p => ⟨rfl, rfl⟩) ?_; (case e1 => first | rfl | (go_simp; done) | (go_simp; rfl)); intro g6 w1 hv; have hd1 := (hv.below.cell (p := ⟨g, 1, none⟩) hg).trans hc1; have HV := Aside0.mk hv; clear hv hc0 hc1 hc3))
  go_loopw [31] (fun v31 wr => ∃ k : Nat, v31 = .int .i64 (k : Int) ∧ k ≤ D.wait.length ∧ Aside0 (wr.heap[g6]? = some (.cells (blkCells (blockAt D a k)).toArray TB (0, 0))) ∧ Aside0 (Below w.heap.size w wr) ∧ Aside0 (w1.heap.size ≤ wr.heap.size)) (fun v31 _ => D.wait.length - (intOf v31).toNat)
  case atStart => exact ⟨0, rfl, by omega, ⟨HV.out.at_⟩, ⟨HV.out.below⟩, ⟨Nat.le_refl _⟩⟩
  case round =>
    clear hd1
    obtain ⟨k, rfl, hk, HA, HB, HS⟩ := hrel
    by_cases hlt : k < D.wait.length
    · obtain ⟨ad, hA, hcc⟩ := wait_cells HH.out (fun i _ hi => HB.out.block i hi) k hlt
      subst hA
      have HWC := Aside0.mk hcc
      clear hcc
      have hws := HH.out.good.wsz _ (List.getElem_mem hlt)
      have hsu := blockAt_succ D a k hlt
      have hsz := HSZ.out k hk
      obtain ⟨x, hx⟩ : ∃ x, D.wait[k] = x := ⟨_, rfl⟩
      rw [hx] at hws hsu HWC
      have HWS := Aside0.mk hws
      have HSU := Aside0.mk hsu
      have HZ := Aside0.mk hsz
      have HX := Aside0.mk hx
      clear hws hsu hsz hx
      obtain ⟨xa, xb⟩ := x
      by_cases heq : xa = a
      · subst heq
        go_wp2_with (first | ((with_reducible refine gate_dst (N := 34) rfl ?_); refine var_event TW rfl (N1 := 34) rfl (.tmp 33) rfl rfl (N2 := 8) rfl (wrCells ⟨0, zeroB⟩) (fun e W => run_alloc_W rfl) rfl rfl rfl (ad.add (k * 129)) ?e1 (wrCells ⟨xa, xb⟩) HWC.out _ Try.underlying113 rfl (by rw [wrCells, List.length_cons, blkCells_len, HWS.out]; exact size_W) (by rw [wrCells, wrCells, List.length_cons, List.length_cons, blkCells_len, blkCells_len, HWS.out, zeroB_size]) (wrCells_one _) (fun p => ⟨rfl, rfl⟩) ?_; (case e1 => first | rfl | (go_simp; done) | (go_simp; rfl)); intro g8 w2 hv; have hc8 : w2.cell? ⟨g8, 0, none⟩ = some (.int .i64 xa) := (cell_of_row w2 g8 0 _ _ _ hv.at_).trans rfl; have HV8 := Aside0.mk hv; clear hv) | ((with_reducible refine gate_dst (N := 40) rfl ?_); refine load_event rfl TB (.tmp 39) rfl ⟨g8, 1, none⟩ rfl (blkCells xb) (fun j v hv => by rw [add_at, cell_of_row w2 g8 _ _ _ _ HV8.out.at_]; simpa [wrCells, Nat.add_comm 1 j] using hv) _ Try.underlying111 rfl (by rw [blkCells_len, HWS.out]; exact size_B) ?_) | ((with_reducible refine gate_store (t := TB) (p := .tmp 6) (x := .tmp 40) rfl ?_); refine row_store_event rfl TB (.tmp 6) (.tmp 40) rfl g6 (blkCells xb).toArray rfl rfl TB _ (HV8.out.below.block g6 (Array.getElem?_eq_some_iff.1 HA.out).1 |>.trans HA.out) (by rw [List.size_toArray, blkCells_len, HWS.out]; exact size_B) (by rw [List.size_toArray, List.size_toArray, blkCells_len, blkCells_len, HWS.out, HZ.out]) (all_one (blkCells_one _)) ?_; intro w3 hs; have HS3 := Aside0.mk hs; clear hs))
        have e2 := HSU.out
        rw [if_pos rfl] at e2
        exact ⟨⟨k + 1, by simp, by omega, ⟨by rw [e2]; exact HS3.out.at_⟩, ⟨HS3.out.below (below_step HB.out HV8.out.below) (by rw [HV.out.g_]; exact Nat.le_refl _)⟩, ⟨by rw [HS3.out.size, HV8.out.size]; have := HS.out; omega⟩⟩, by simp [intOf]; omega⟩
      · have hne : (xa == a) = false := by simp [heq]
        go_wp2_with (first | ((with_reducible refine gate_dst (N := 34) rfl ?_); refine var_event TW rfl (N1 := 34) rfl (.tmp 33) rfl rfl (N2 := 8) rfl (wrCells ⟨0, zeroB⟩) (fun e W => run_alloc_W rfl) rfl rfl rfl (ad.add (k * 129)) ?e1 (wrCells ⟨xa, xb⟩) HWC.out _ Try.underlying113 rfl (by rw [wrCells, List.length_cons, blkCells_len, HWS.out]; exact size_W) (by rw [wrCells, wrCells, List.length_cons, List.length_cons, blkCells_len, blkCells_len, HWS.out, zeroB_size]) (wrCells_one _) (fun p => ⟨rfl, rfl⟩) ?_; (case e1 => first | rfl | (go_simp; done) | (go_simp; rfl)); intro g8 w2 hv; have hc8 : w2.cell? ⟨g8, 0, none⟩ = some (.int .i64 xa) := (cell_of_row w2 g8 0 _ _ _ hv.at_).trans rfl; have HV8 := Aside0.mk hv; clear hv))
        have e2 := HSU.out
        rw [if_neg heq] at e2
        have hlt6 : g6 < wr.heap.size := (Array.getElem?_eq_some_iff.1 HA.out).1
        exact ⟨⟨k + 1, by simp, by omega, ⟨by rw [e2]; exact (HV8.out.below.block g6 hlt6).trans HA.out⟩, ⟨below_step HB.out HV8.out.below⟩, ⟨by rw [HV8.out.size]; have := HS.out; omega⟩⟩, by simp [intOf]; omega⟩
    · obtain rfl : k = D.wait.length := by omega
      have hsz := HSZ.out D.wait.length (Nat.le_refl _)
      rw [blockAt_all] at hsz HA
      have hcv := run_text wr _ hsz g6 HA.out
      have hsl := run_slice_B ⟨g6, 0, none⟩
      clear hsz
      go_wp2
      go_ret2
      exact ⟨rfl, HB.out⟩
theorem read_calls {base : Nat} {ok : Nat → Prop} {g : Nat} {D : DS} {w : World} (a : Int) (H : Dev w base ok g D) :
    Calls Try.prog 24 #[.pointer (some ⟨g, 0, none⟩), .int .i64 a] w fun e w' => e = .returned (.tuple #[.string (readD D a).1, .int .i64 (readD D a).2]) ∧ Below w.heap.size w w' := by
  unfold readD
  cases hhas : hasD D a with
  | false =>
    obtain ⟨s, c, A, c1, h⟩ := H.open_
    have hc0 := h.cell0
    have hn := h.good.pos
    have HDEC := Aside0.mk (show decide (0 ≤ a ∧ a < (D.sure.length : Int)) = false from hhas)
    clear H h hhas
    go_enter Try.func24, Try.ntmps24
    go_wp2_with (first | (go_at_call 64; refine (has_some g s _ c a false _ hc0 hn HDEC.out).mono ?_; rintro e w' ⟨rfl, rfl⟩))
    go_ret2
    exact ⟨rfl, Below.refl _ _⟩
  | true =>
    cases hoff : D.off with
    | true =>
      obtain ⟨s, c, A, c1, h⟩ := H.open_
      have hc0 := h.cell0
      have hc3 := h.cell3
      rw [hoff] at hc3
      have hn := h.good.pos
      have HDEC := Aside0.mk (show decide (0 ≤ a ∧ a < (D.sure.length : Int)) = true from hhas)
      clear H h hhas hoff
      go_enter Try.func24, Try.ntmps24
      go_wp2_with (first | (go_at_call 64; refine (has_some g s _ c a true _ hc0 hn HDEC.out).mono ?_; rintro e w' ⟨rfl, rfl⟩))
      go_ret2
      exact ⟨rfl, Below.refl _ _⟩
    | false => exact read_yes a H hhas hoff
theorem read_nil (a : Int) (w : World) :
    Calls Try.prog 24 #[.pointer none, .int .i64 a] w fun e w' => e = .returned (.tuple #[.string ByteArray.empty, .int .i64 1]) ∧ w = w' := by
  go_enter Try.func24, Try.ntmps24
  go_wp2_with (first | (go_at_call 64; refine (has_nil a _).mono ?_; rintro e w' ⟨rfl, rfl⟩))
  go_ret2
  exact ⟨rfl, rfl⟩
theorem read_no (g : Nat) (a : Int) (w : World) (hc : w.cell? ⟨g, 0, none⟩ = some (.slice none 0 0)) :
    Calls Try.prog 24 #[.pointer (some ⟨g, 0, none⟩), .int .i64 a] w fun e w' => e = .returned (.tuple #[.string ByteArray.empty, .int .i64 1]) ∧ w = w' := by
  go_enter Try.func24, Try.ntmps24
  go_wp2_with (first | (go_at_call 64; refine (has_no g a _ hc).mono ?_; rintro e w' ⟨rfl, rfl⟩))
  go_ret2
  exact ⟨rfl, rfl⟩
end Go.Proofs.Ytgjclhhjigflkab.Dev
