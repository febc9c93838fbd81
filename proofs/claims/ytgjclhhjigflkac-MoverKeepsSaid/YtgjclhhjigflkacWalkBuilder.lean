/- The walks of strings.Builder's copyCheck, WriteByte, WriteString at a builder that the caller has made. -/
import Derived.Test.YtgjclhhjigflkacMyWords
import Derived.Test.YtgjclhhjigflkacProg
import Derived.Lib.Builder
import Derived.Lib.UnsafeStr
import Derived.Laws.Externs
namespace Go.Proofs.Ytgjclhhjigflkac.M
open Go.RowKit Go.Proofs.Ytgjclhhjigflkac.MyWords Go.Proofs.YtgjclhhjigflkacW.PrintWords Go.Proofs.YtgjclhhjigflkacW.PrintLast Go.Proofs.YtgjclhhjigflkacW.PrintMore
set_option linter.unusedVariables false
set_option linter.unusedSimpArgs false
/-- a builder at block b, of the caller's own (from B on), that holds these cells -/
abbrev Bld (B b : Nat) (bs : List Value) (w : World) : Prop := Lib.IsBuilder 108 5 B b bs w
theorem bldInfo : ∃ j, Try.prog.info? 108 = some j ∧ j.size = 2 := by
  have h : (Try.prog.info? 108).map (fun j => j.size) = some 2 := by kernel_rfl
  obtain ⟨j, h1, h2⟩ := Option.map_eq_some_iff.1 h
  exact ⟨j, h1, h2⟩
set_option maxHeartbeats 1000000 in
set_option maxRecDepth 100000 in
theorem copyCheck_used (b : Nat) (w : World) (h0 : w.cell? ⟨b, 0, none⟩ = some (.pointer (some ⟨b, 0, none⟩))) :
    Calls Try.prog 129 #[.pointer (some ⟨b, 0, none⟩)] w fun e w' => e = .returned (.tuple #[]) ∧ w = w' := by
  obtain ⟨j, hj, _⟩ := bldInfo
  have hn := fun w => Lib.run_neq_ptr_same (P := Try.prog) w ⟨b, 0, none⟩ Try.underlying105 hj
  go_enter Try.func129, Try.ntmps129
  go_wp2
  go_end0
  exact ⟨rfl, rfl⟩
set_option maxHeartbeats 1000000 in
set_option maxRecDepth 100000 in
theorem copyCheck_fresh (b : Nat) (w : World) (h0 : w.cell? ⟨b, 0, none⟩ = some (.pointer none)) (hsh : w.shape? b = some (108, 2)) (hfz : w.frozen? ⟨b, 0, none⟩ = false) :
    Calls Try.prog 129 #[.pointer (some ⟨b, 0, none⟩)] w fun e w' => e = .returned (.tuple #[]) ∧ w' = w.setCell ⟨b, 0, none⟩ (.pointer (some ⟨b, 0, none⟩)) := by
  obtain ⟨j, hj, hjs⟩ := bldInfo
  have hto := Lib.run_to_unsafe (P := Try.prog) (e := 108) (cells := 2) w ⟨b, 0, none⟩ Try.underlying105 Try.underlying193 hj (by rw [hjs]; decide) hsh (Nat.zero_lt_succ 1)
  have hfrom := Lib.run_from_unsafe (P := Try.prog) (e := 108) (cells := 2) w ⟨b, 0, none⟩ Try.underlying193 Try.underlying105 hj hsh (by kernel_rfl)
  have hno : (callFunc 151 #[.pointer (some ⟨b, 0, none⟩)]).run Try.prog w = Result.ok (Next.value (.pointer (some ⟨b, 0, none⟩))) w := by
    rw [run_callFunc_extern Try.func151 (by kernel_rfl) (by kernel_rfl) (by kernel_rfl) (e := Extern.AbiNoEscape.same) (by kernel_rfl), Lib.run_noEscape]
    rfl
  go_enter Try.func129, Try.ntmps129
  go_wp2
  go_end0
  exact ⟨rfl, rfl⟩
theorem copyCheck_calls (B b : Nat) (bs : List Value) (w : World) (h : Bld B b bs w) :
    Calls Try.prog 129 #[.pointer (some ⟨b, 0, none⟩)] w fun e w' => e = .returned (.tuple #[]) ∧ Lib.BuilderAt 108 5 B b (.pointer (some ⟨b, 0, none⟩)) bs w' ∧ Below B w w' := by
  rcases h with h | h
  · refine (copyCheck_fresh b w h.cell0 h.shape h.frozen0).mono ?_
    rintro e w' ⟨rfl, rfl⟩
    exact ⟨rfl, h.used _, (Below.refl B w).setCell (p := ⟨b, 0, none⟩) h.1 _⟩
  · refine (copyCheck_used b w h.cell0).mono ?_
    rintro e w' ⟨rfl, rfl⟩
    exact ⟨rfl, h, Below.refl B _⟩
/-- the blocks that are neither a builder's nor bytes stay -/
def Others (w w' : World) : Prop := ∀ (g : Nat) (cs : Array Value) (T : TypeId) (fz : Nat × Nat), w.heap[g]? = some (.cells cs T fz) → T ≠ 5 → T ≠ 108 → w'.heap[g]? = some (.cells cs T fz)
theorem Others.trans {a b c : World} (h : Others a b) (k : Others b c) : Others a c := fun g cs T fz hg h1 h2 => k g cs T fz (h g cs T fz hg h1 h2) h1 h2
theorem Others.set {w : World} {b i : Nat} {v : Value} {cs : Array Value} {fz : Nat × Nat} (hb : w.heap[b]? = some (.cells cs 108 fz)) : Others w (w.setCell ⟨b, i, none⟩ v) := by
  intro g cs' T fz' hg h1 h2
  have hne : g ≠ b := by
    rintro rfl
    rw [hg] at hb
    injection hb with hb
    injection hb with _ hb
    exact h2 hb
  exact (Below.heap_setCell w _ v g hne).trans hg
theorem copyCheck_calls2 (B b : Nat) (bs : List Value) (w : World) (h : Bld B b bs w) :
    Calls Try.prog 129 #[.pointer (some ⟨b, 0, none⟩)] w fun e w' => e = .returned (.tuple #[]) ∧ Lib.BuilderAt 108 5 B b (.pointer (some ⟨b, 0, none⟩)) bs w' ∧ Below B w w' ∧ Others w w' := by
  rcases h with h | h
  · refine (copyCheck_fresh b w h.cell0 h.shape h.frozen0).mono ?_
    rintro e w' ⟨rfl, rfl⟩
    refine ⟨rfl, h.used _, (Below.refl B w).setCell (p := ⟨b, 0, none⟩) h.1 _, ?_⟩
    obtain ⟨_, v, hb, _⟩ := h
    exact Others.set hb
  · refine (copyCheck_used b w h.cell0).mono ?_
    rintro e w' ⟨rfl, rfl⟩
    exact ⟨rfl, h, Below.refl B _, fun _ _ _ _ hg _ _ => hg⟩
theorem infoByte : (Try.prog.info? 5).map (fun i => (i.zero, i.size, i.bytes)) = some (some (.int .u8 0), 1, 1) := by kernel_rfl
set_option maxHeartbeats 2000000 in
set_option maxRecDepth 100000 in
theorem bld_WriteString (B b : Nat) (bs : List Value) (s : ByteArray) (w : World) (h : Bld B b bs w) (hlen : bs.length + s.size ≤ 140737488355328) (hBw : B ≤ w.heap.size) :
    Calls Try.prog 96 #[.pointer (some ⟨b, 0, none⟩), .string s] w fun e w' => e = .returned (.tuple #[.int .i64 s.size, .nilIface]) ∧ Bld B b (bs ++ Lib.strCells s) w' ∧ Below B w w' := by
  obtain ⟨i0, hi, hz0, hz1, hz2⟩ := info_parts infoByte
  go_enter Try.func96, Try.ntmps96
  go_wp2_with fail
  refine (copyCheck_calls B b bs w h).mono ?_
  rintro e w1 ⟨rfl, ⟨hB, v, hbk, hown, hne⟩, hb1⟩
  have hsz := hb1.size
  have c0 : w1.cell? ⟨b, 0, none⟩ = some (.pointer (some ⟨b, 0, none⟩)) := by rw [Lib.cell_of_heap hbk]; rfl
  have c1 : w1.cell? ⟨b, 1, none⟩ = some v := by rw [Lib.cell_of_heap hbk]; rfl
  have hlt : b < w1.heap.size := blk_lt hbk
  go_wp2_with (at_builtin; refine Lib.wpList_append_own_string _ rfl _ _ 106 9 rfl B 5 i0 Try.underlying106 Try.underlying9 hi hz0 hz1 hz2 _ _ _ rfl hown s rfl ?c3 ?c4 ?c5 ?_)
  case c3 => unfold maxLen; omega
  case c4 => omega
  case c5 => omega
  intro v' w2 hown' hgrow _
  have hb2 : w2.heap[b]? = some (.cells #[.pointer (some ⟨b, 0, none⟩), v] 108 (0, 0)) := (hgrow.block b hlt (fun e => hne e.symm)).trans hbk
  have d0 : w2.cell? ⟨b, 0, none⟩ = some (.pointer (some ⟨b, 0, none⟩)) := by rw [Lib.cell_of_heap hb2]; rfl
  have d1 : w2.cell? ⟨b, 1, none⟩ = some v := by rw [Lib.cell_of_heap hb2]; rfl
  have f1 : w2.frozen? ⟨b, 1, none⟩ = false := Lib.frozen_of_heap hb2 1
  have hb3 : Below B w w2 := hb1.grown hgrow (by omega) (fun k hk => (hown.lt k hk).1)
  have hput := fun v'' (e : v'' = v') => Lib.BuilderAt.put (T := 108) (e := 5) hB hb2 (bs' := bs ++ Lib.strCells s) (v' := v'') (by rw [List.length_append, Lib.strCells_length, e]; exact hown') (by decide)
  obtain ⟨ao, cap, rfl⟩ := own_slice hown'
  clear hown' hgrow hown
  have HP := Aside0.mk (hput _ rfl)
  clear hput
  go_wp2
  go_ret2
  exact ⟨rfl, .inr HP.out, hb3.setCell (p := ⟨b, 1, none⟩) hB _⟩
set_option maxHeartbeats 2000000 in
set_option maxRecDepth 100000 in
theorem bld_WriteString2 (B b : Nat) (bs : List Value) (s : ByteArray) (w : World) (h : Bld B b bs w) (hlen : bs.length + s.size ≤ 140737488355328) (hBw : B ≤ w.heap.size) :
    Calls Try.prog 96 #[.pointer (some ⟨b, 0, none⟩), .string s] w fun e w' => e = .returned (.tuple #[.int .i64 s.size, .nilIface]) ∧ Bld B b (bs ++ Lib.strCells s) w' ∧ Below B w w' ∧ Others w w' := by
  obtain ⟨i0, hi, hz0, hz1, hz2⟩ := info_parts infoByte
  go_enter Try.func96, Try.ntmps96
  go_wp2_with fail
  refine (copyCheck_calls2 B b bs w h).mono ?_
  rintro e w1 ⟨rfl, ⟨hB, v, hbk, hown, hne⟩, hb1, ho1⟩
  have HO1 := Aside0.mk ho1
  clear ho1
  have hsz := hb1.size
  have c0 : w1.cell? ⟨b, 0, none⟩ = some (.pointer (some ⟨b, 0, none⟩)) := by rw [Lib.cell_of_heap hbk]; rfl
  have c1 : w1.cell? ⟨b, 1, none⟩ = some v := by rw [Lib.cell_of_heap hbk]; rfl
  have hlt : b < w1.heap.size := blk_lt hbk
  go_wp2_with (at_builtin; refine Lib.wpList_append_own_string _ rfl _ _ 106 9 rfl B 5 i0 Try.underlying106 Try.underlying9 hi hz0 hz1 hz2 _ _ _ rfl hown s rfl ?c3 ?c4 ?c5 ?_)
  case c3 => unfold maxLen; omega
  case c4 => omega
  case c5 => omega
  intro v' w2 hown' hgrow _
  have hb2 : w2.heap[b]? = some (.cells #[.pointer (some ⟨b, 0, none⟩), v] 108 (0, 0)) := (hgrow.block b hlt (fun e => hne e.symm)).trans hbk
  have d0 : w2.cell? ⟨b, 0, none⟩ = some (.pointer (some ⟨b, 0, none⟩)) := by rw [Lib.cell_of_heap hb2]; rfl
  have d1 : w2.cell? ⟨b, 1, none⟩ = some v := by rw [Lib.cell_of_heap hb2]; rfl
  have f1 : w2.frozen? ⟨b, 1, none⟩ = false := Lib.frozen_of_heap hb2 1
  have hb3 : Below B w w2 := hb1.grown hgrow (by omega) (fun k hk => (hown.lt k hk).1)
  have hput := fun v'' (e : v'' = v') => Lib.BuilderAt.put (T := 108) (e := 5) hB hb2 (bs' := bs ++ Lib.strCells s) (v' := v'') (by rw [List.length_append, Lib.strCells_length, e]; exact hown') (by decide)
  have HO2 : Aside0 (Others w1 w2) := ⟨fun g cs T fz hg h1 h2 => (hgrow.block g (blk_lt hg) (fun e => by
    obtain ⟨cells, hc⟩ := own_typed hown g e.symm
    rw [hg] at hc
    injection hc with hc
    injection hc with _ hc
    exact h1 hc)).trans hg⟩
  have HO3 := Aside0.mk ((HO1.out.trans HO2.out).trans (Others.set (i := 1) (v := v') hb2))
  clear HO1 HO2
  obtain ⟨ao, cap, rfl⟩ := own_slice hown'
  clear hown' hgrow hown
  have HP := Aside0.mk (hput _ rfl)
  clear hput
  go_wp2
  go_ret2
  exact ⟨rfl, .inr HP.out, hb3.setCell (p := ⟨b, 1, none⟩) hB _, HO3.out⟩
end Go.Proofs.Ytgjclhhjigflkac.M
