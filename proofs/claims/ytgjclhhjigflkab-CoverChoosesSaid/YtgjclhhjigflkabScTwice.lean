/- The walks of schema.twice: are two of some alike? (Written by gensc.py.) -/
import Derived.Test.YtgjclhhjigflkabProg
import Derived.Test.YtgjclhhjigflkabScPlain
import Derived.Test.YtgjclhhjigflkabSeen
import Derived.Outline
namespace Go.Proofs.Ytgjclhhjigflkab.Sc
open Go Go.RowKit Go.Proofs.Ytgjclhhjigflkab.C Go.Proofs.Ytgjclhhjigflkab.MyWords Go.Proofs.Ytgjclhhjigflkab.Hand Go.Proofs.YtgjclhhjigflkabW.PrintWords Go.Proofs.YtgjclhhjigflkabW.PrintLast Go.Proofs.YtgjclhhjigflkabW.PrintMore
set_option linter.unusedVariables false
set_option linter.unusedSimpArgs false
open Go.Maps Go.Proofs.Ytgjclhhjigflkab.Seen
section
variable {P : Program} {ops : Array Oper} {rest : List Oper} {o : Oper} {a : Act} {Q : Exit → Act → World → Prop} {w : World}
theorem make_event (hg : o.guard = none) {t : TypeId} (hop : o.op = .makeMap t none) {kt et : TypeId} (h : ∀ b w1, Has P kt et w1 b 0 [] → Below w.heap.size w w1 → w.heap.size ≤ b → wpList P ops Q rest (a.put o.dst (.map (some b))) w1) : wpList P ops Q (o :: rest) a w := by
  refine Kd.event_run hg (v := .map (some w.heap.size)) (w1 := w.alloc (.map #[] 0)) ?_ (h _ _ (Has.made w P kt et) (below_alloc (Below.refl _ _) _) (Nat.le_refl _))
  unfold execOp
  simp [hop, run_makeMap]
theorem gate_mapUpdate {t : TypeId} {m x v : Operand} (_ho : o.op = .mapUpdate t m x v) (h : wpList P ops Q (o :: rest) a w) : wpList P ops Q (o :: rest) a w := h
end
theorem zero_bool (w : World) : (zeroValue 4).run Try.prog w = .ok (.bool false) w := by kernel_rfl
theorem all_one {cs : List Value} (h : ∀ u ∈ cs, u.oneCell' = true) : cs.toArray.all (·.oneCell') = true := by
  rw [Array.all_eq_true]
  intro i hi
  have hi2 : i < cs.length := by simpa using hi
  have := h cs[i] (List.getElem_mem hi2)
  simpa using this
theorem dup_int (l : List Int) (key : Int → Int) (k : Nat) (hk : k < l.length) (h : key l[k] ∈ (l.take k).map key) : onceP (l.map key) = false := by
  refine decide_eq_false (fun hn => ?_)
  obtain ⟨y, hy, he⟩ := List.mem_map.1 h
  obtain ⟨j, hj, rfl⟩ := List.getElem_of_mem hy
  rw [List.length_take] at hj
  rw [List.getElem_take] at he
  have hp := List.pairwise_iff_getElem.1 hn j k (by rw [List.length_map]; omega) (by rw [List.length_map]; omega) (by omega)
  simp at hp
  exact hp he
theorem lit_inj_int {a b : Int} (h : (Lit.int .i64 (a)) = (Lit.int .i64 (b))) : a = b := by
  injection h with h1 h2
theorem key_int (a : Int) (h : (Lit.int .i64 (a)).wf = true) : keyOf Try.prog 3 (.int .i64 (a)) = some (Lit.int .i64 (a)) := by
  unfold keyOf
  rw [Try.underlying3]
  simp only [mapKey, Try.underlying3]
  simp [h]
set_option maxHeartbeats 2000000 in
set_option maxRecDepth 100000 in
theorem twice_int (fv : Value) (key : Int → Int) (A0 : Option Addr) (c0 : Nat) (l0 : List Int) (w : World) (hr0 : Kd.C (Kd.int .i64) w A0 l0.length l0) (hl : l0.length ≤ 1000000) (hg : ∀ x ∈ l0, (Lit.int .i64 (key x)).wf = true)
    (hcl : ∀ (i : Nat) (hi : i < l0.length) (w1 : World), Below w.heap.size w w1 → CallsV Try.prog fv #[.int .i64 l0[i]] w1 fun e w2 => e = .returned (.int .i64 (key l0[i])) ∧ Below w1.heap.size w1 w2) :
    Calls Try.prog 166 #[.slice A0 l0.length c0, fv] w fun e w' => e = .returned (.bool (!onceP (l0.map key))) ∧ Below w.heap.size w w' := by
  have HR0 := Aside0.mk hr0
  have HCL := Aside0.mk hcl
  have HG := Aside0.mk hg
  have HN0 : Aside0 (((l0.take 0).map key).Nodup) := ⟨by simp⟩
  clear hr0 hcl hg
  go_enter Try.func166, Try.ntmps166
  go_wp2_with (first | ((with_reducible refine gate_dst (N := 8) rfl ?_); refine make_event rfl (t := 228) rfl (kt := 3) (et := 4) ?_; intro bm w1 hh1 hb1 hbm; have HH1 := Aside0.mk hh1; have HB1 := Aside0.mk hb1; have HBM := Aside0.mk hbm; clear hh1 hb1 hbm))
  go_loopw [11] (fun v11 wr => ∃ k : Nat, v11 = .int .i64 (k : Int) ∧ k ≤ l0.length ∧ Aside0 (Has Try.prog 3 4 wr bm k (((l0.take k).map fun x => (Lit.int .i64 (key x))).reverse)) ∧ Aside0 (((l0.take k).map key).Nodup) ∧ Aside0 (Below w.heap.size w wr)) (fun v11 _ => l0.length - (intOf v11).toNat)
  case atStart => exact ⟨0, rfl, by omega, HH1, HN0, HB1⟩
  case round =>
    clear HH1 HN0 HB1
    obtain ⟨k, rfl, hk, HH, HN, HB⟩ := hrel
    by_cases hlt : k < l0.length
    ·
      obtain ⟨ad, hA, hcell⟩ := Kd.at_int (Kd.C_below HR0.out HB.out) (k : Int) (by omega) (by omega)
      subst hA
      have hrd : rd l0 (k : Int) = l0[k] := by
        unfold rd
        rw [Int.toNat_natCast, List.getD_eq_getElem?_getD, List.getElem?_eq_getElem hlt]
        rfl
      rw [hrd, Int.toNat_natCast] at hcell
      have HCW := Aside0.mk (HCL.out k hlt wr HB.out)
      have hmem := List.getElem_mem hlt
      obtain ⟨x, hx⟩ : ∃ x, l0[k] = x := ⟨_, rfl⟩
      rw [hx] at hcell HCW hmem
      have HGX := Aside0.mk (HG.out x hmem)
      have HX := Aside0.mk hx
      have hgoodx := HGX.out
      have hkey : keyOf Try.prog 3 (.int .i64 (key x)) = some (Lit.int .i64 (key x)) := key_int _ hgoodx
      have HKEY := Aside0.mk hkey
      have hmemi : ((Lit.int .i64 (key x)) ∈ ((l0.take k).map fun x => (Lit.int .i64 (key x))).reverse) ↔ key x ∈ (l0.take k).map key := by
        rw [List.mem_reverse, List.mem_map, List.mem_map]
        constructor
        · rintro ⟨y, hy, he⟩
          exact ⟨y, hy, lit_inj_int he⟩
        · rintro ⟨y, hy, he⟩
          exact ⟨y, hy, by rw [he]⟩
      have HMI := Aside0.mk hmemi
      clear hgoodx hkey hmemi hmem hx
      by_cases hin : key x ∈ (l0.take k).map key
      · have HIN := Aside0.mk hin
        clear hin
        go_wp2_with (first | ((with_reducible refine gate_dst (N := 18) rfl ?_); have HCV := Aside0.mk (HCW.out); refine callsV_event rfl 18 rfl (.tmp 16) [.tmp 17] #[3] rfl fv rfl [.int .i64 x] rfl ?_; obtain ⟨f, caps, fn, h1, h2, h3, h4, h5⟩ := HCV.out; refine ⟨f, caps, fn, h1, h2, h3, h4, h5.mono ?_⟩; rintro e w4 ⟨rfl, hb2⟩; refine ⟨_, rfl, ?_⟩; have HB4 := Aside0.mk (hb2); clear HCV hb2 h1 h2 h3 h4 h5) | ((with_reducible refine gate_dst (N := 19) rfl ?_); refine lookup_event (n := k) (xs := ((l0.take k).map fun x => (Lit.int .i64 (key x))).reverse) rfl (.tmp 15) (.tmp 18) 228 rfl (int_keyed Try.underlying3) Try.underlying228 Try.underlying4 (zero_bool _) rfl (HH.out.below HB4.out) (.int .i64 (key x)) _ rfl HKEY.out ?_; intro cb hcb; obtain rfl : cb = true := hcb.2 (HMI.out.2 HIN.out); clear hcb))
        go_ret
        refine ⟨?_, below_step HB.out HB4.out⟩
        have : onceP (l0.map key) = false := dup_int l0 key k hlt (by rw [HX.out]; exact HIN.out)
        rw [this]
        rfl
      · have HIN := Aside0.mk hin
        clear hin
        go_wp2_with (first | ((with_reducible refine gate_dst (N := 18) rfl ?_); have HCV := Aside0.mk (HCW.out); refine callsV_event rfl 18 rfl (.tmp 16) [.tmp 17] #[3] rfl fv rfl [.int .i64 x] rfl ?_; obtain ⟨f, caps, fn, h1, h2, h3, h4, h5⟩ := HCV.out; refine ⟨f, caps, fn, h1, h2, h3, h4, h5.mono ?_⟩; rintro e w4 ⟨rfl, hb2⟩; refine ⟨_, rfl, ?_⟩; have HB4 := Aside0.mk (hb2); clear HCV hb2 h1 h2 h3 h4 h5) | ((with_reducible refine gate_dst (N := 19) rfl ?_); refine lookup_event (n := k) (xs := ((l0.take k).map fun x => (Lit.int .i64 (key x))).reverse) rfl (.tmp 15) (.tmp 18) 228 rfl (int_keyed Try.underlying3) Try.underlying228 Try.underlying4 (zero_bool _) rfl (HH.out.below HB4.out) (.int .i64 (key x)) _ rfl HKEY.out ?_; intro cb hcb; obtain rfl : cb = false := Bool.eq_false_iff.2 (fun h => HIN.out (HMI.out.1 (hcb.1 h))); clear hcb) | ((with_reducible refine gate_dst (N := 23) rfl ?_); have HCV := Aside0.mk (by have := HCL.out k hlt _ (below_step HB.out HB4.out); rwa [HX.out] at this); refine callsV_event rfl 23 rfl (.tmp 21) [.tmp 22] #[3] rfl fv rfl [.int .i64 x] rfl ?_; obtain ⟨f, caps, fn, h1, h2, h3, h4, h5⟩ := HCV.out; refine ⟨f, caps, fn, h1, h2, h3, h4, h5.mono ?_⟩; rintro e w5 ⟨rfl, hb2⟩; refine ⟨_, rfl, ?_⟩; have HB5 := Aside0.mk (below_step HB4.out hb2); clear HCV hb2 h1 h2 h3 h4 h5) | ((with_reducible refine gate_mapUpdate (t := 228) rfl ?_); refine update_event (n := k) (xs := ((l0.take k).map fun x => (Lit.int .i64 (key x))).reverse) rfl (.tmp 20) (.tmp 23) _ 228 rfl (int_keyed Try.underlying3) Try.underlying228 Try.underlying4 rfl (HH.out.below HB5.out) (by unfold maxLen; omega) (.int .i64 (key x)) _ rfl rfl HKEY.out ?_; intro w6 hh6 hg6; have HH6 := Aside0.mk hh6; have HB6 := Aside0.mk ((below_step HB.out HB5.out).grown hg6 (below_step HB.out HB5.out).size (fun k hk => by injection hk with hk; rw [← hk]; exact HBM.out)); clear hh6 hg6))
        have hsn : (l0.take (k + 1)) = l0.take k ++ [x] := by rw [List.take_succ_eq_append_getElem hlt, HX.out]
        refine ⟨⟨k + 1, by simp, by omega, ⟨?_⟩, ⟨?_⟩, HB6⟩, by simp [intOf]; omega⟩
        · rw [hsn, List.map_append, List.reverse_append]
          exact HH6.out
        · rw [hsn, List.map_append, List.nodup_append]
          refine ⟨HN.out, by simp, ?_⟩
          intro a ha b hb
          simp at hb
          subst hb
          intro e
          exact HIN.out (e ▸ ha)
    · obtain rfl : k = l0.length := by omega
      go_wp2_with fail
      go_ret
      refine ⟨?_, HB.out⟩
      have := HN.out
      rw [List.take_length] at this
      have h2 : onceP (l0.map key) = true := decide_eq_true this
      rw [h2]
      rfl
theorem dup_col (l : List Col) (key : Col → ByteArray) (k : Nat) (hk : k < l.length) (h : key l[k] ∈ (l.take k).map key) : onceP (l.map key) = false := by
  refine decide_eq_false (fun hn => ?_)
  obtain ⟨y, hy, he⟩ := List.mem_map.1 h
  obtain ⟨j, hj, rfl⟩ := List.getElem_of_mem hy
  rw [List.length_take] at hj
  rw [List.getElem_take] at he
  have hp := List.pairwise_iff_getElem.1 hn j k (by rw [List.length_map]; omega) (by rw [List.length_map]; omega) (by omega)
  simp at hp
  exact hp he
theorem lit_inj_col {a b : ByteArray} (h : (Lit.string (a).data.toList) = (Lit.string (b).data.toList)) : a = b := by
  injection h with h1
  exact ByteArray.ext (Array.ext' h1)
theorem key_col (a : ByteArray) (h : (a).size ≤ maxLen) : keyOf Try.prog 9 (.string (a)) = some (Lit.string (a).data.toList) := by
  unfold keyOf
  rw [Try.underlying9]
  simp only [mapKey, Try.underlying9]
  simp [h]
set_option maxHeartbeats 2000000 in
set_option maxRecDepth 100000 in
theorem twice_col (fv : Value) (key : Col → ByteArray) (A0 : Option Addr) (c0 : Nat) (l0 : List Col) (w : World) (hr0 : Kd.C kC w A0 l0.length l0) (hl : l0.length ≤ 1000000) (hg : ∀ x ∈ l0, (key x).size ≤ maxLen)
    (hcl : ∀ (i : Nat) (hi : i < l0.length) (c : List Value) (w1 : World), Below w.heap.size w w1 → c.length = kC.sz → kC.K w1 l0[i] c → CallsV Try.prog fv #[.agg c.toArray] w1 fun e w2 => e = .returned (.string (key l0[i])) ∧ Below w1.heap.size w1 w2) :
    Calls Try.prog 170 #[.slice A0 l0.length c0, fv] w fun e w' => e = .returned (.bool (!onceP (l0.map key))) ∧ Below w.heap.size w w' := by
  have HR0 := Aside0.mk hr0
  have HCL := Aside0.mk hcl
  have HG := Aside0.mk hg
  have HN0 : Aside0 (((l0.take 0).map key).Nodup) := ⟨by simp⟩
  clear hr0 hcl hg
  go_enter Try.func170, Try.ntmps170
  go_wp2_with (first | ((with_reducible refine gate_dst (N := 8) rfl ?_); refine make_event rfl (t := 211) rfl (kt := 9) (et := 4) ?_; intro bm w1 hh1 hb1 hbm; have HH1 := Aside0.mk hh1; have HB1 := Aside0.mk hb1; have HBM := Aside0.mk hbm; clear hh1 hb1 hbm))
  go_loopw [11] (fun v11 wr => ∃ k : Nat, v11 = .int .i64 (k : Int) ∧ k ≤ l0.length ∧ Aside0 (Has Try.prog 9 4 wr bm k (((l0.take k).map fun x => (Lit.string (key x).data.toList)).reverse)) ∧ Aside0 (((l0.take k).map key).Nodup) ∧ Aside0 (Below w.heap.size w wr)) (fun v11 _ => l0.length - (intOf v11).toNat)
  case atStart => exact ⟨0, rfl, by omega, HH1, HN0, HB1⟩
  case round =>
    clear HH1 HN0 HB1
    obtain ⟨k, rfl, hk, HH, HN, HB⟩ := hrel
    by_cases hlt : k < l0.length
    ·
      obtain ⟨ad, c, hA, hcl, hK, hcc⟩ := at_cells (Kd.C_below HR0.out HB.out) k hlt
      subst hA
      have HCC := Aside0.mk hcc
      have HL := Aside0.mk hcl
      have HKk := Aside0.mk hK
      have HCW := Aside0.mk (fun w1 hb => HCL.out k hlt c w1 (below_step HB.out hb) hcl (kC.K_below hb hK))
      have hmem := List.getElem_mem hlt
      clear hcc hcl hK
      obtain ⟨x, hx⟩ : ∃ x, l0[k] = x := ⟨_, rfl⟩
      rw [hx] at HCW hmem HKk
      have HGX := Aside0.mk (HG.out x hmem)
      have HX := Aside0.mk hx
      have hgoodx := HGX.out
      have hkey : keyOf Try.prog 9 (.string (key x)) = some (Lit.string (key x).data.toList) := key_col _ hgoodx
      have HKEY := Aside0.mk hkey
      have hmemi : ((Lit.string (key x).data.toList) ∈ ((l0.take k).map fun x => (Lit.string (key x).data.toList)).reverse) ↔ key x ∈ (l0.take k).map key := by
        rw [List.mem_reverse, List.mem_map, List.mem_map]
        constructor
        · rintro ⟨y, hy, he⟩
          exact ⟨y, hy, lit_inj_col he⟩
        · rintro ⟨y, hy, he⟩
          exact ⟨y, hy, by rw [he]⟩
      have HMI := Aside0.mk hmemi
      clear hgoodx hkey hmemi hmem hx
      by_cases hin : key x ∈ (l0.take k).map key
      · have HIN := Aside0.mk hin
        clear hin
        go_wp2_with (first | ((with_reducible refine gate_dst (N := 14) rfl ?_); refine load_event rfl 177 (.tmp 13) rfl (ad.add (k * kC.sz)) ?e1 c HCC.out _ Try.underlying177 rfl (by rw [HL.out]; kernel_rfl) ?_; (case e1 => first | rfl | (go_simp; done) | (go_simp; rfl))) | ((with_reducible refine gate_dst (N := 7) rfl ?_); refine box_event rfl (N := 7) rfl (cs := #[.string ⟨#[]⟩, .int .i64 0, .bool false]) (t := 177) ?hr ?_; (case hr => first | (go_simp; done) | (go_simp; rfl)); intro gb hgb w7 hbx hb7; have HBX := Aside0.mk hbx; have HB7 := Aside0.mk hb7; have HGB := Aside0.mk (show wr.heap.size ≤ gb by rw [hgb]; exact Nat.le_refl _); clear hbx hb7 hgb) | ((with_reducible refine gate_ (.store 177 (.tmp 7) (.tmp 14)) rfl ?_); refine row_store_event rfl 177 (.tmp 7) (.tmp 14) rfl gb c.toArray rfl rfl 177 _ HBX.out (by rw [List.size_toArray, HL.out]; kernel_rfl) ((show (#[.string ⟨#[]⟩, .int .i64 0, .bool false] : Array Value).size = kC.sz from rfl).trans ((List.size_toArray ..).trans HL.out).symm) (all_one (kC.K_one HKk.out)) ?_; intro w8 hrs; have HR8 := Aside0.mk hrs.at_; have HB8 := Aside0.mk (hrs.below HB7.out HGB.out); clear hrs HBX HB7) | ((with_reducible refine gate_dst (N := 17) rfl ?_); refine wpList_load_row rfl 177 (.tmp 7) rfl gb rfl 177 c.toArray (0, 0) _ HR8.out Try.underlying177 rfl (by rw [List.size_toArray, HL.out]; kernel_rfl) ?_) | ((with_reducible refine gate_dst (N := 18) rfl ?_); have HCV := Aside0.mk (HCW.out _ HB8.out); refine callsV_event rfl 18 rfl (.tmp 16) [.tmp 17] #[177] rfl fv rfl [.agg c.toArray] rfl ?_; obtain ⟨f, caps, fn, h1, h2, h3, h4, h5⟩ := HCV.out; refine ⟨f, caps, fn, h1, h2, h3, h4, h5.mono ?_⟩; rintro e w4 ⟨rfl, hb2⟩; refine ⟨_, rfl, ?_⟩; have HB4 := Aside0.mk (below_step HB8.out hb2); have HR4 := Aside0.mk (blk_below HR8.out hb2); clear HCV hb2 h1 h2 h3 h4 h5) | ((with_reducible refine gate_dst (N := 19) rfl ?_); refine lookup_event (n := k) (xs := ((l0.take k).map fun x => (Lit.string (key x).data.toList)).reverse) rfl (.tmp 15) (.tmp 18) 211 rfl (string_keyed Try.underlying9) Try.underlying211 Try.underlying4 (zero_bool _) rfl (HH.out.below HB4.out) (.string (key x)) _ rfl HKEY.out ?_; intro cb hcb; obtain rfl : cb = true := hcb.2 (HMI.out.2 HIN.out); clear hcb))
        go_ret
        refine ⟨?_, below_step HB.out HB4.out⟩
        have : onceP (l0.map key) = false := dup_col l0 key k hlt (by rw [HX.out]; exact HIN.out)
        rw [this]
        rfl
      · have HIN := Aside0.mk hin
        clear hin
        go_wp2_with (first | ((with_reducible refine gate_dst (N := 14) rfl ?_); refine load_event rfl 177 (.tmp 13) rfl (ad.add (k * kC.sz)) ?e1 c HCC.out _ Try.underlying177 rfl (by rw [HL.out]; kernel_rfl) ?_; (case e1 => first | rfl | (go_simp; done) | (go_simp; rfl))) | ((with_reducible refine gate_dst (N := 7) rfl ?_); refine box_event rfl (N := 7) rfl (cs := #[.string ⟨#[]⟩, .int .i64 0, .bool false]) (t := 177) ?hr ?_; (case hr => first | (go_simp; done) | (go_simp; rfl)); intro gb hgb w7 hbx hb7; have HBX := Aside0.mk hbx; have HB7 := Aside0.mk hb7; have HGB := Aside0.mk (show wr.heap.size ≤ gb by rw [hgb]; exact Nat.le_refl _); clear hbx hb7 hgb) | ((with_reducible refine gate_ (.store 177 (.tmp 7) (.tmp 14)) rfl ?_); refine row_store_event rfl 177 (.tmp 7) (.tmp 14) rfl gb c.toArray rfl rfl 177 _ HBX.out (by rw [List.size_toArray, HL.out]; kernel_rfl) ((show (#[.string ⟨#[]⟩, .int .i64 0, .bool false] : Array Value).size = kC.sz from rfl).trans ((List.size_toArray ..).trans HL.out).symm) (all_one (kC.K_one HKk.out)) ?_; intro w8 hrs; have HR8 := Aside0.mk hrs.at_; have HB8 := Aside0.mk (hrs.below HB7.out HGB.out); clear hrs HBX HB7) | ((with_reducible refine gate_dst (N := 17) rfl ?_); refine wpList_load_row rfl 177 (.tmp 7) rfl gb rfl 177 c.toArray (0, 0) _ HR8.out Try.underlying177 rfl (by rw [List.size_toArray, HL.out]; kernel_rfl) ?_) | ((with_reducible refine gate_dst (N := 18) rfl ?_); have HCV := Aside0.mk (HCW.out _ HB8.out); refine callsV_event rfl 18 rfl (.tmp 16) [.tmp 17] #[177] rfl fv rfl [.agg c.toArray] rfl ?_; obtain ⟨f, caps, fn, h1, h2, h3, h4, h5⟩ := HCV.out; refine ⟨f, caps, fn, h1, h2, h3, h4, h5.mono ?_⟩; rintro e w4 ⟨rfl, hb2⟩; refine ⟨_, rfl, ?_⟩; have HB4 := Aside0.mk (below_step HB8.out hb2); have HR4 := Aside0.mk (blk_below HR8.out hb2); clear HCV hb2 h1 h2 h3 h4 h5) | ((with_reducible refine gate_dst (N := 19) rfl ?_); refine lookup_event (n := k) (xs := ((l0.take k).map fun x => (Lit.string (key x).data.toList)).reverse) rfl (.tmp 15) (.tmp 18) 211 rfl (string_keyed Try.underlying9) Try.underlying211 Try.underlying4 (zero_bool _) rfl (HH.out.below HB4.out) (.string (key x)) _ rfl HKEY.out ?_; intro cb hcb; obtain rfl : cb = false := Bool.eq_false_iff.2 (fun h => HIN.out (HMI.out.1 (hcb.1 h))); clear hcb) | ((with_reducible refine gate_dst (N := 22) rfl ?_); refine wpList_load_row rfl 177 (.tmp 7) rfl gb rfl 177 c.toArray (0, 0) _ HR4.out Try.underlying177 rfl (by rw [List.size_toArray, HL.out]; kernel_rfl) ?_) | ((with_reducible refine gate_dst (N := 23) rfl ?_); have HCV := Aside0.mk (HCW.out _ HB4.out); refine callsV_event rfl 23 rfl (.tmp 21) [.tmp 22] #[177] rfl fv rfl [.agg c.toArray] rfl ?_; obtain ⟨f, caps, fn, h1, h2, h3, h4, h5⟩ := HCV.out; refine ⟨f, caps, fn, h1, h2, h3, h4, h5.mono ?_⟩; rintro e w5 ⟨rfl, hb2⟩; refine ⟨_, rfl, ?_⟩; have HB5 := Aside0.mk (below_step HB4.out hb2); clear HCV hb2 h1 h2 h3 h4 h5) | ((with_reducible refine gate_mapUpdate (t := 211) rfl ?_); refine update_event (n := k) (xs := ((l0.take k).map fun x => (Lit.string (key x).data.toList)).reverse) rfl (.tmp 20) (.tmp 23) _ 211 rfl (string_keyed Try.underlying9) Try.underlying211 Try.underlying4 rfl (HH.out.below HB5.out) (by unfold maxLen; omega) (.string (key x)) _ rfl rfl HKEY.out ?_; intro w6 hh6 hg6; have HH6 := Aside0.mk hh6; have HB6 := Aside0.mk ((below_step HB.out HB5.out).grown hg6 (below_step HB.out HB5.out).size (fun k hk => by injection hk with hk; rw [← hk]; exact HBM.out)); clear hh6 hg6))
        have hsn : (l0.take (k + 1)) = l0.take k ++ [x] := by rw [List.take_succ_eq_append_getElem hlt, HX.out]
        refine ⟨⟨k + 1, by simp, by omega, ⟨?_⟩, ⟨?_⟩, HB6⟩, by simp [intOf]; omega⟩
        · rw [hsn, List.map_append, List.reverse_append]
          exact HH6.out
        · rw [hsn, List.map_append, List.nodup_append]
          refine ⟨HN.out, by simp, ?_⟩
          intro a ha b hb
          simp at hb
          subst hb
          intro e
          exact HIN.out (e ▸ ha)
    · obtain rfl : k = l0.length := by omega
      go_wp2_with fail
      go_ret
      refine ⟨?_, HB.out⟩
      have := HN.out
      rw [List.take_length] at this
      have h2 : onceP (l0.map key) = true := decide_eq_true this
      rw [h2]
      rfl
theorem dup_proj (l : List Prj) (key : Prj → ByteArray) (k : Nat) (hk : k < l.length) (h : key l[k] ∈ (l.take k).map key) : onceP (l.map key) = false := by
  refine decide_eq_false (fun hn => ?_)
  obtain ⟨y, hy, he⟩ := List.mem_map.1 h
  obtain ⟨j, hj, rfl⟩ := List.getElem_of_mem hy
  rw [List.length_take] at hj
  rw [List.getElem_take] at he
  have hp := List.pairwise_iff_getElem.1 hn j k (by rw [List.length_map]; omega) (by rw [List.length_map]; omega) (by omega)
  simp at hp
  exact hp he
theorem lit_inj_proj {a b : ByteArray} (h : (Lit.string (a).data.toList) = (Lit.string (b).data.toList)) : a = b := by
  injection h with h1
  exact ByteArray.ext (Array.ext' h1)
theorem key_proj (a : ByteArray) (h : (a).size ≤ maxLen) : keyOf Try.prog 9 (.string (a)) = some (Lit.string (a).data.toList) := by
  unfold keyOf
  rw [Try.underlying9]
  simp only [mapKey, Try.underlying9]
  simp [h]
set_option maxHeartbeats 2000000 in
set_option maxRecDepth 100000 in
theorem twice_proj (fv : Value) (key : Prj → ByteArray) (A0 : Option Addr) (c0 : Nat) (l0 : List Prj) (w : World) (hr0 : Kd.C kP w A0 l0.length l0) (hl : l0.length ≤ 1000000) (hg : ∀ x ∈ l0, (key x).size ≤ maxLen)
    (hcl : ∀ (i : Nat) (hi : i < l0.length) (c : List Value) (w1 : World), Below w.heap.size w w1 → c.length = kP.sz → kP.K w1 l0[i] c → CallsV Try.prog fv #[.agg c.toArray] w1 fun e w2 => e = .returned (.string (key l0[i])) ∧ Below w1.heap.size w1 w2) :
    Calls Try.prog 156 #[.slice A0 l0.length c0, fv] w fun e w' => e = .returned (.bool (!onceP (l0.map key))) ∧ Below w.heap.size w w' := by
  have HR0 := Aside0.mk hr0
  have HCL := Aside0.mk hcl
  have HG := Aside0.mk hg
  have HN0 : Aside0 (((l0.take 0).map key).Nodup) := ⟨by simp⟩
  clear hr0 hcl hg
  go_enter Try.func156, Try.ntmps156
  go_wp2_with (first | ((with_reducible refine gate_dst (N := 8) rfl ?_); refine make_event rfl (t := 211) rfl (kt := 9) (et := 4) ?_; intro bm w1 hh1 hb1 hbm; have HH1 := Aside0.mk hh1; have HB1 := Aside0.mk hb1; have HBM := Aside0.mk hbm; clear hh1 hb1 hbm))
  go_loopw [11] (fun v11 wr => ∃ k : Nat, v11 = .int .i64 (k : Int) ∧ k ≤ l0.length ∧ Aside0 (Has Try.prog 9 4 wr bm k (((l0.take k).map fun x => (Lit.string (key x).data.toList)).reverse)) ∧ Aside0 (((l0.take k).map key).Nodup) ∧ Aside0 (Below w.heap.size w wr)) (fun v11 _ => l0.length - (intOf v11).toNat)
  case atStart => exact ⟨0, rfl, by omega, HH1, HN0, HB1⟩
  case round =>
    clear HH1 HN0 HB1
    obtain ⟨k, rfl, hk, HH, HN, HB⟩ := hrel
    by_cases hlt : k < l0.length
    ·
      obtain ⟨ad, c, hA, hcl, hK, hcc⟩ := at_cells (Kd.C_below HR0.out HB.out) k hlt
      subst hA
      have HCC := Aside0.mk hcc
      have HL := Aside0.mk hcl
      have HKk := Aside0.mk hK
      have HCW := Aside0.mk (fun w1 hb => HCL.out k hlt c w1 (below_step HB.out hb) hcl (kP.K_below hb hK))
      have hmem := List.getElem_mem hlt
      clear hcc hcl hK
      obtain ⟨x, hx⟩ : ∃ x, l0[k] = x := ⟨_, rfl⟩
      rw [hx] at HCW hmem HKk
      have HGX := Aside0.mk (HG.out x hmem)
      have HX := Aside0.mk hx
      have hgoodx := HGX.out
      have hkey : keyOf Try.prog 9 (.string (key x)) = some (Lit.string (key x).data.toList) := key_proj _ hgoodx
      have HKEY := Aside0.mk hkey
      have hmemi : ((Lit.string (key x).data.toList) ∈ ((l0.take k).map fun x => (Lit.string (key x).data.toList)).reverse) ↔ key x ∈ (l0.take k).map key := by
        rw [List.mem_reverse, List.mem_map, List.mem_map]
        constructor
        · rintro ⟨y, hy, he⟩
          exact ⟨y, hy, lit_inj_proj he⟩
        · rintro ⟨y, hy, he⟩
          exact ⟨y, hy, by rw [he]⟩
      have HMI := Aside0.mk hmemi
      clear hgoodx hkey hmemi hmem hx
      by_cases hin : key x ∈ (l0.take k).map key
      · have HIN := Aside0.mk hin
        clear hin
        go_wp2_with (first | ((with_reducible refine gate_dst (N := 14) rfl ?_); refine load_event rfl 138 (.tmp 13) rfl (ad.add (k * kP.sz)) ?e1 c HCC.out _ Try.underlying138 rfl (by rw [HL.out]; kernel_rfl) ?_; (case e1 => first | rfl | (go_simp; done) | (go_simp; rfl))) | ((with_reducible refine gate_dst (N := 7) rfl ?_); refine box_event rfl (N := 7) rfl (cs := #[.string ⟨#[]⟩, .slice none 0 0, .int .i64 0]) (t := 138) ?hr ?_; (case hr => first | (go_simp; done) | (go_simp; rfl)); intro gb hgb w7 hbx hb7; have HBX := Aside0.mk hbx; have HB7 := Aside0.mk hb7; have HGB := Aside0.mk (show wr.heap.size ≤ gb by rw [hgb]; exact Nat.le_refl _); clear hbx hb7 hgb) | ((with_reducible refine gate_ (.store 138 (.tmp 7) (.tmp 14)) rfl ?_); refine row_store_event rfl 138 (.tmp 7) (.tmp 14) rfl gb c.toArray rfl rfl 138 _ HBX.out (by rw [List.size_toArray, HL.out]; kernel_rfl) ((show (#[.string ⟨#[]⟩, .slice none 0 0, .int .i64 0] : Array Value).size = kP.sz from rfl).trans ((List.size_toArray ..).trans HL.out).symm) (all_one (kP.K_one HKk.out)) ?_; intro w8 hrs; have HR8 := Aside0.mk hrs.at_; have HB8 := Aside0.mk (hrs.below HB7.out HGB.out); clear hrs HBX HB7) | ((with_reducible refine gate_dst (N := 17) rfl ?_); refine wpList_load_row rfl 138 (.tmp 7) rfl gb rfl 138 c.toArray (0, 0) _ HR8.out Try.underlying138 rfl (by rw [List.size_toArray, HL.out]; kernel_rfl) ?_) | ((with_reducible refine gate_dst (N := 18) rfl ?_); have HCV := Aside0.mk (HCW.out _ HB8.out); refine callsV_event rfl 18 rfl (.tmp 16) [.tmp 17] #[138] rfl fv rfl [.agg c.toArray] rfl ?_; obtain ⟨f, caps, fn, h1, h2, h3, h4, h5⟩ := HCV.out; refine ⟨f, caps, fn, h1, h2, h3, h4, h5.mono ?_⟩; rintro e w4 ⟨rfl, hb2⟩; refine ⟨_, rfl, ?_⟩; have HB4 := Aside0.mk (below_step HB8.out hb2); have HR4 := Aside0.mk (blk_below HR8.out hb2); clear HCV hb2 h1 h2 h3 h4 h5) | ((with_reducible refine gate_dst (N := 19) rfl ?_); refine lookup_event (n := k) (xs := ((l0.take k).map fun x => (Lit.string (key x).data.toList)).reverse) rfl (.tmp 15) (.tmp 18) 211 rfl (string_keyed Try.underlying9) Try.underlying211 Try.underlying4 (zero_bool _) rfl (HH.out.below HB4.out) (.string (key x)) _ rfl HKEY.out ?_; intro cb hcb; obtain rfl : cb = true := hcb.2 (HMI.out.2 HIN.out); clear hcb))
        go_ret
        refine ⟨?_, below_step HB.out HB4.out⟩
        have : onceP (l0.map key) = false := dup_proj l0 key k hlt (by rw [HX.out]; exact HIN.out)
        rw [this]
        rfl
      · have HIN := Aside0.mk hin
        clear hin
        go_wp2_with (first | ((with_reducible refine gate_dst (N := 14) rfl ?_); refine load_event rfl 138 (.tmp 13) rfl (ad.add (k * kP.sz)) ?e1 c HCC.out _ Try.underlying138 rfl (by rw [HL.out]; kernel_rfl) ?_; (case e1 => first | rfl | (go_simp; done) | (go_simp; rfl))) | ((with_reducible refine gate_dst (N := 7) rfl ?_); refine box_event rfl (N := 7) rfl (cs := #[.string ⟨#[]⟩, .slice none 0 0, .int .i64 0]) (t := 138) ?hr ?_; (case hr => first | (go_simp; done) | (go_simp; rfl)); intro gb hgb w7 hbx hb7; have HBX := Aside0.mk hbx; have HB7 := Aside0.mk hb7; have HGB := Aside0.mk (show wr.heap.size ≤ gb by rw [hgb]; exact Nat.le_refl _); clear hbx hb7 hgb) | ((with_reducible refine gate_ (.store 138 (.tmp 7) (.tmp 14)) rfl ?_); refine row_store_event rfl 138 (.tmp 7) (.tmp 14) rfl gb c.toArray rfl rfl 138 _ HBX.out (by rw [List.size_toArray, HL.out]; kernel_rfl) ((show (#[.string ⟨#[]⟩, .slice none 0 0, .int .i64 0] : Array Value).size = kP.sz from rfl).trans ((List.size_toArray ..).trans HL.out).symm) (all_one (kP.K_one HKk.out)) ?_; intro w8 hrs; have HR8 := Aside0.mk hrs.at_; have HB8 := Aside0.mk (hrs.below HB7.out HGB.out); clear hrs HBX HB7) | ((with_reducible refine gate_dst (N := 17) rfl ?_); refine wpList_load_row rfl 138 (.tmp 7) rfl gb rfl 138 c.toArray (0, 0) _ HR8.out Try.underlying138 rfl (by rw [List.size_toArray, HL.out]; kernel_rfl) ?_) | ((with_reducible refine gate_dst (N := 18) rfl ?_); have HCV := Aside0.mk (HCW.out _ HB8.out); refine callsV_event rfl 18 rfl (.tmp 16) [.tmp 17] #[138] rfl fv rfl [.agg c.toArray] rfl ?_; obtain ⟨f, caps, fn, h1, h2, h3, h4, h5⟩ := HCV.out; refine ⟨f, caps, fn, h1, h2, h3, h4, h5.mono ?_⟩; rintro e w4 ⟨rfl, hb2⟩; refine ⟨_, rfl, ?_⟩; have HB4 := Aside0.mk (below_step HB8.out hb2); have HR4 := Aside0.mk (blk_below HR8.out hb2); clear HCV hb2 h1 h2 h3 h4 h5) | ((with_reducible refine gate_dst (N := 19) rfl ?_); refine lookup_event (n := k) (xs := ((l0.take k).map fun x => (Lit.string (key x).data.toList)).reverse) rfl (.tmp 15) (.tmp 18) 211 rfl (string_keyed Try.underlying9) Try.underlying211 Try.underlying4 (zero_bool _) rfl (HH.out.below HB4.out) (.string (key x)) _ rfl HKEY.out ?_; intro cb hcb; obtain rfl : cb = false := Bool.eq_false_iff.2 (fun h => HIN.out (HMI.out.1 (hcb.1 h))); clear hcb) | ((with_reducible refine gate_dst (N := 22) rfl ?_); refine wpList_load_row rfl 138 (.tmp 7) rfl gb rfl 138 c.toArray (0, 0) _ HR4.out Try.underlying138 rfl (by rw [List.size_toArray, HL.out]; kernel_rfl) ?_) | ((with_reducible refine gate_dst (N := 23) rfl ?_); have HCV := Aside0.mk (HCW.out _ HB4.out); refine callsV_event rfl 23 rfl (.tmp 21) [.tmp 22] #[138] rfl fv rfl [.agg c.toArray] rfl ?_; obtain ⟨f, caps, fn, h1, h2, h3, h4, h5⟩ := HCV.out; refine ⟨f, caps, fn, h1, h2, h3, h4, h5.mono ?_⟩; rintro e w5 ⟨rfl, hb2⟩; refine ⟨_, rfl, ?_⟩; have HB5 := Aside0.mk (below_step HB4.out hb2); clear HCV hb2 h1 h2 h3 h4 h5) | ((with_reducible refine gate_mapUpdate (t := 211) rfl ?_); refine update_event (n := k) (xs := ((l0.take k).map fun x => (Lit.string (key x).data.toList)).reverse) rfl (.tmp 20) (.tmp 23) _ 211 rfl (string_keyed Try.underlying9) Try.underlying211 Try.underlying4 rfl (HH.out.below HB5.out) (by unfold maxLen; omega) (.string (key x)) _ rfl rfl HKEY.out ?_; intro w6 hh6 hg6; have HH6 := Aside0.mk hh6; have HB6 := Aside0.mk ((below_step HB.out HB5.out).grown hg6 (below_step HB.out HB5.out).size (fun k hk => by injection hk with hk; rw [← hk]; exact HBM.out)); clear hh6 hg6))
        have hsn : (l0.take (k + 1)) = l0.take k ++ [x] := by rw [List.take_succ_eq_append_getElem hlt, HX.out]
        refine ⟨⟨k + 1, by simp, by omega, ⟨?_⟩, ⟨?_⟩, HB6⟩, by simp [intOf]; omega⟩
        · rw [hsn, List.map_append, List.reverse_append]
          exact HH6.out
        · rw [hsn, List.map_append, List.nodup_append]
          refine ⟨HN.out, by simp, ?_⟩
          intro a ha b hb
          simp at hb
          subst hb
          intro e
          exact HIN.out (e ▸ ha)
    · obtain rfl : k = l0.length := by omega
      go_wp2_with fail
      go_ret
      refine ⟨?_, HB.out⟩
      have := HN.out
      rw [List.take_length] at this
      have h2 : onceP (l0.map key) = true := decide_eq_true this
      rw [h2]
      rfl
theorem dup_table (l : List Tab) (key : Tab → ByteArray) (k : Nat) (hk : k < l.length) (h : key l[k] ∈ (l.take k).map key) : onceP (l.map key) = false := by
  refine decide_eq_false (fun hn => ?_)
  obtain ⟨y, hy, he⟩ := List.mem_map.1 h
  obtain ⟨j, hj, rfl⟩ := List.getElem_of_mem hy
  rw [List.length_take] at hj
  rw [List.getElem_take] at he
  have hp := List.pairwise_iff_getElem.1 hn j k (by rw [List.length_map]; omega) (by rw [List.length_map]; omega) (by omega)
  simp at hp
  exact hp he
theorem lit_inj_table {a b : ByteArray} (h : (Lit.string (a).data.toList) = (Lit.string (b).data.toList)) : a = b := by
  injection h with h1
  exact ByteArray.ext (Array.ext' h1)
theorem key_table (a : ByteArray) (h : (a).size ≤ maxLen) : keyOf Try.prog 9 (.string (a)) = some (Lit.string (a).data.toList) := by
  unfold keyOf
  rw [Try.underlying9]
  simp only [mapKey, Try.underlying9]
  simp [h]
set_option maxHeartbeats 2000000 in
set_option maxRecDepth 100000 in
theorem twice_table (fv : Value) (key : Tab → ByteArray) (A0 : Option Addr) (c0 : Nat) (l0 : List Tab) (w : World) (hr0 : Kd.C kT w A0 l0.length l0) (hl : l0.length ≤ 1000000) (hg : ∀ x ∈ l0, (key x).size ≤ maxLen)
    (hcl : ∀ (i : Nat) (hi : i < l0.length) (c : List Value) (w1 : World), Below w.heap.size w w1 → c.length = kT.sz → kT.K w1 l0[i] c → CallsV Try.prog fv #[.agg c.toArray] w1 fun e w2 => e = .returned (.string (key l0[i])) ∧ Below w1.heap.size w1 w2) :
    Calls Try.prog 119 #[.slice A0 l0.length c0, fv] w fun e w' => e = .returned (.bool (!onceP (l0.map key))) ∧ Below w.heap.size w w' := by
  have HR0 := Aside0.mk hr0
  have HCL := Aside0.mk hcl
  have HG := Aside0.mk hg
  have HN0 : Aside0 (((l0.take 0).map key).Nodup) := ⟨by simp⟩
  clear hr0 hcl hg
  go_enter Try.func119, Try.ntmps119
  go_wp2_with (first | ((with_reducible refine gate_dst (N := 8) rfl ?_); refine make_event rfl (t := 211) rfl (kt := 9) (et := 4) ?_; intro bm w1 hh1 hb1 hbm; have HH1 := Aside0.mk hh1; have HB1 := Aside0.mk hb1; have HBM := Aside0.mk hbm; clear hh1 hb1 hbm))
  go_loopw [11] (fun v11 wr => ∃ k : Nat, v11 = .int .i64 (k : Int) ∧ k ≤ l0.length ∧ Aside0 (Has Try.prog 9 4 wr bm k (((l0.take k).map fun x => (Lit.string (key x).data.toList)).reverse)) ∧ Aside0 (((l0.take k).map key).Nodup) ∧ Aside0 (Below w.heap.size w wr)) (fun v11 _ => l0.length - (intOf v11).toNat)
  case atStart => exact ⟨0, rfl, by omega, HH1, HN0, HB1⟩
  case round =>
    clear HH1 HN0 HB1
    obtain ⟨k, rfl, hk, HH, HN, HB⟩ := hrel
    by_cases hlt : k < l0.length
    ·
      obtain ⟨ad, c, hA, hcl, hK, hcc⟩ := at_cells (Kd.C_below HR0.out HB.out) k hlt
      subst hA
      have HCC := Aside0.mk hcc
      have HL := Aside0.mk hcl
      have HKk := Aside0.mk hK
      have HCW := Aside0.mk (fun w1 hb => HCL.out k hlt c w1 (below_step HB.out hb) hcl (kT.K_below hb hK))
      have hmem := List.getElem_mem hlt
      clear hcc hcl hK
      obtain ⟨x, hx⟩ : ∃ x, l0[k] = x := ⟨_, rfl⟩
      rw [hx] at HCW hmem HKk
      have HGX := Aside0.mk (HG.out x hmem)
      have HX := Aside0.mk hx
      have hgoodx := HGX.out
      have hkey : keyOf Try.prog 9 (.string (key x)) = some (Lit.string (key x).data.toList) := key_table _ hgoodx
      have HKEY := Aside0.mk hkey
      have hmemi : ((Lit.string (key x).data.toList) ∈ ((l0.take k).map fun x => (Lit.string (key x).data.toList)).reverse) ↔ key x ∈ (l0.take k).map key := by
        rw [List.mem_reverse, List.mem_map, List.mem_map]
        constructor
        · rintro ⟨y, hy, he⟩
          exact ⟨y, hy, lit_inj_table he⟩
        · rintro ⟨y, hy, he⟩
          exact ⟨y, hy, by rw [he]⟩
      have HMI := Aside0.mk hmemi
      clear hgoodx hkey hmemi hmem hx
      by_cases hin : key x ∈ (l0.take k).map key
      · have HIN := Aside0.mk hin
        clear hin
        go_wp2_with (first | ((with_reducible refine gate_dst (N := 14) rfl ?_); refine load_event rfl 63 (.tmp 13) rfl (ad.add (k * kT.sz)) ?e1 c HCC.out _ Try.underlying63 rfl (by rw [HL.out]; kernel_rfl) ?_; (case e1 => first | rfl | (go_simp; done) | (go_simp; rfl))) | ((with_reducible refine gate_dst (N := 7) rfl ?_); refine box_event rfl (N := 7) rfl (cs := #[.string ⟨#[]⟩, .slice none 0 0, .slice none 0 0]) (t := 63) ?hr ?_; (case hr => first | (go_simp; done) | (go_simp; rfl)); intro gb hgb w7 hbx hb7; have HBX := Aside0.mk hbx; have HB7 := Aside0.mk hb7; have HGB := Aside0.mk (show wr.heap.size ≤ gb by rw [hgb]; exact Nat.le_refl _); clear hbx hb7 hgb) | ((with_reducible refine gate_ (.store 63 (.tmp 7) (.tmp 14)) rfl ?_); refine row_store_event rfl 63 (.tmp 7) (.tmp 14) rfl gb c.toArray rfl rfl 63 _ HBX.out (by rw [List.size_toArray, HL.out]; kernel_rfl) ((show (#[.string ⟨#[]⟩, .slice none 0 0, .slice none 0 0] : Array Value).size = kT.sz from rfl).trans ((List.size_toArray ..).trans HL.out).symm) (all_one (kT.K_one HKk.out)) ?_; intro w8 hrs; have HR8 := Aside0.mk hrs.at_; have HB8 := Aside0.mk (hrs.below HB7.out HGB.out); clear hrs HBX HB7) | ((with_reducible refine gate_dst (N := 17) rfl ?_); refine wpList_load_row rfl 63 (.tmp 7) rfl gb rfl 63 c.toArray (0, 0) _ HR8.out Try.underlying63 rfl (by rw [List.size_toArray, HL.out]; kernel_rfl) ?_) | ((with_reducible refine gate_dst (N := 18) rfl ?_); have HCV := Aside0.mk (HCW.out _ HB8.out); refine callsV_event rfl 18 rfl (.tmp 16) [.tmp 17] #[63] rfl fv rfl [.agg c.toArray] rfl ?_; obtain ⟨f, caps, fn, h1, h2, h3, h4, h5⟩ := HCV.out; refine ⟨f, caps, fn, h1, h2, h3, h4, h5.mono ?_⟩; rintro e w4 ⟨rfl, hb2⟩; refine ⟨_, rfl, ?_⟩; have HB4 := Aside0.mk (below_step HB8.out hb2); have HR4 := Aside0.mk (blk_below HR8.out hb2); clear HCV hb2 h1 h2 h3 h4 h5) | ((with_reducible refine gate_dst (N := 19) rfl ?_); refine lookup_event (n := k) (xs := ((l0.take k).map fun x => (Lit.string (key x).data.toList)).reverse) rfl (.tmp 15) (.tmp 18) 211 rfl (string_keyed Try.underlying9) Try.underlying211 Try.underlying4 (zero_bool _) rfl (HH.out.below HB4.out) (.string (key x)) _ rfl HKEY.out ?_; intro cb hcb; obtain rfl : cb = true := hcb.2 (HMI.out.2 HIN.out); clear hcb))
        go_ret
        refine ⟨?_, below_step HB.out HB4.out⟩
        have : onceP (l0.map key) = false := dup_table l0 key k hlt (by rw [HX.out]; exact HIN.out)
        rw [this]
        rfl
      · have HIN := Aside0.mk hin
        clear hin
        go_wp2_with (first | ((with_reducible refine gate_dst (N := 14) rfl ?_); refine load_event rfl 63 (.tmp 13) rfl (ad.add (k * kT.sz)) ?e1 c HCC.out _ Try.underlying63 rfl (by rw [HL.out]; kernel_rfl) ?_; (case e1 => first | rfl | (go_simp; done) | (go_simp; rfl))) | ((with_reducible refine gate_dst (N := 7) rfl ?_); refine box_event rfl (N := 7) rfl (cs := #[.string ⟨#[]⟩, .slice none 0 0, .slice none 0 0]) (t := 63) ?hr ?_; (case hr => first | (go_simp; done) | (go_simp; rfl)); intro gb hgb w7 hbx hb7; have HBX := Aside0.mk hbx; have HB7 := Aside0.mk hb7; have HGB := Aside0.mk (show wr.heap.size ≤ gb by rw [hgb]; exact Nat.le_refl _); clear hbx hb7 hgb) | ((with_reducible refine gate_ (.store 63 (.tmp 7) (.tmp 14)) rfl ?_); refine row_store_event rfl 63 (.tmp 7) (.tmp 14) rfl gb c.toArray rfl rfl 63 _ HBX.out (by rw [List.size_toArray, HL.out]; kernel_rfl) ((show (#[.string ⟨#[]⟩, .slice none 0 0, .slice none 0 0] : Array Value).size = kT.sz from rfl).trans ((List.size_toArray ..).trans HL.out).symm) (all_one (kT.K_one HKk.out)) ?_; intro w8 hrs; have HR8 := Aside0.mk hrs.at_; have HB8 := Aside0.mk (hrs.below HB7.out HGB.out); clear hrs HBX HB7) | ((with_reducible refine gate_dst (N := 17) rfl ?_); refine wpList_load_row rfl 63 (.tmp 7) rfl gb rfl 63 c.toArray (0, 0) _ HR8.out Try.underlying63 rfl (by rw [List.size_toArray, HL.out]; kernel_rfl) ?_) | ((with_reducible refine gate_dst (N := 18) rfl ?_); have HCV := Aside0.mk (HCW.out _ HB8.out); refine callsV_event rfl 18 rfl (.tmp 16) [.tmp 17] #[63] rfl fv rfl [.agg c.toArray] rfl ?_; obtain ⟨f, caps, fn, h1, h2, h3, h4, h5⟩ := HCV.out; refine ⟨f, caps, fn, h1, h2, h3, h4, h5.mono ?_⟩; rintro e w4 ⟨rfl, hb2⟩; refine ⟨_, rfl, ?_⟩; have HB4 := Aside0.mk (below_step HB8.out hb2); have HR4 := Aside0.mk (blk_below HR8.out hb2); clear HCV hb2 h1 h2 h3 h4 h5) | ((with_reducible refine gate_dst (N := 19) rfl ?_); refine lookup_event (n := k) (xs := ((l0.take k).map fun x => (Lit.string (key x).data.toList)).reverse) rfl (.tmp 15) (.tmp 18) 211 rfl (string_keyed Try.underlying9) Try.underlying211 Try.underlying4 (zero_bool _) rfl (HH.out.below HB4.out) (.string (key x)) _ rfl HKEY.out ?_; intro cb hcb; obtain rfl : cb = false := Bool.eq_false_iff.2 (fun h => HIN.out (HMI.out.1 (hcb.1 h))); clear hcb) | ((with_reducible refine gate_dst (N := 22) rfl ?_); refine wpList_load_row rfl 63 (.tmp 7) rfl gb rfl 63 c.toArray (0, 0) _ HR4.out Try.underlying63 rfl (by rw [List.size_toArray, HL.out]; kernel_rfl) ?_) | ((with_reducible refine gate_dst (N := 23) rfl ?_); have HCV := Aside0.mk (HCW.out _ HB4.out); refine callsV_event rfl 23 rfl (.tmp 21) [.tmp 22] #[63] rfl fv rfl [.agg c.toArray] rfl ?_; obtain ⟨f, caps, fn, h1, h2, h3, h4, h5⟩ := HCV.out; refine ⟨f, caps, fn, h1, h2, h3, h4, h5.mono ?_⟩; rintro e w5 ⟨rfl, hb2⟩; refine ⟨_, rfl, ?_⟩; have HB5 := Aside0.mk (below_step HB4.out hb2); clear HCV hb2 h1 h2 h3 h4 h5) | ((with_reducible refine gate_mapUpdate (t := 211) rfl ?_); refine update_event (n := k) (xs := ((l0.take k).map fun x => (Lit.string (key x).data.toList)).reverse) rfl (.tmp 20) (.tmp 23) _ 211 rfl (string_keyed Try.underlying9) Try.underlying211 Try.underlying4 rfl (HH.out.below HB5.out) (by unfold maxLen; omega) (.string (key x)) _ rfl rfl HKEY.out ?_; intro w6 hh6 hg6; have HH6 := Aside0.mk hh6; have HB6 := Aside0.mk ((below_step HB.out HB5.out).grown hg6 (below_step HB.out HB5.out).size (fun k hk => by injection hk with hk; rw [← hk]; exact HBM.out)); clear hh6 hg6))
        have hsn : (l0.take (k + 1)) = l0.take k ++ [x] := by rw [List.take_succ_eq_append_getElem hlt, HX.out]
        refine ⟨⟨k + 1, by simp, by omega, ⟨?_⟩, ⟨?_⟩, HB6⟩, by simp [intOf]; omega⟩
        · rw [hsn, List.map_append, List.reverse_append]
          exact HH6.out
        · rw [hsn, List.map_append, List.nodup_append]
          refine ⟨HN.out, by simp, ?_⟩
          intro a ha b hb
          simp at hb
          subst hb
          intro e
          exact HIN.out (e ▸ ha)
    · obtain rfl : k = l0.length := by omega
      go_wp2_with fail
      go_ret
      refine ⟨?_, HB.out⟩
      have := HN.out
      rw [List.take_length] at this
      have h2 : onceP (l0.map key) = true := decide_eq_true this
      rw [h2]
      rfl
end Go.Proofs.Ytgjclhhjigflkab.Sc
