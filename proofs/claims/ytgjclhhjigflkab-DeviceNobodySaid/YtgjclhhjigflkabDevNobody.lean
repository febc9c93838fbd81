/- The walk of law DeviceNobody: a device that nobody made. -/
import Derived.Test.YtgjclhhjigflkabDevAwake
namespace Go.Proofs.Ytgjclhhjigflkab.Dev
open Go Go.RowKit Go.Proofs.Ytgjclhhjigflkab.D Go.Proofs.Ytgjclhhjigflkab.MyWords Go.Proofs.Ytgjclhhjigflkab.Hand Go.Proofs.YtgjclhhjigflkabW.PrintWords Go.Proofs.YtgjclhhjigflkabW.PrintLast Go.Proofs.YtgjclhhjigflkabW.PrintMore
set_option linter.unusedVariables false
set_option linter.unusedSimpArgs false
/-- a device that nobody made -/
def Nob (w : World) (p : Option Addr) : Prop := p = none ∨ ∃ g, p = some ⟨g, 0, none⟩ ∧ w.cell? ⟨g, 0, none⟩ = some (.slice none 0 0)
theorem Nob.below {w w1 : World} {p : Option Addr} (h : Nob w p) (hb : Below w.heap.size w w1) : Nob w1 p := by
  rcases h with rfl | ⟨g, rfl, h⟩
  · exact .inl rfl
  · have hl := World.block_lt_of_cell? w _ h
    exact .inr ⟨g, rfl, by rw [← h]; unfold World.cell?; rw [hb.block g hl]⟩
theorem cell_below {w w1 : World} {p : Addr} {v : Value} (h : w.cell? p = some v) (hb : Below w.heap.size w w1) : w1.cell? p = some v := by
  have hl := World.block_lt_of_cell? w _ h
  rw [← h]; unfold World.cell?; rw [hb.block _ hl]
theorem given_nob (p : Option Addr) (w : World) (h : Nob w p) :
    Calls Try.prog 62 #[.pointer p] w fun e w' => e = .returned (.bool false) ∧ w = w' := by
  rcases h with rfl | ⟨g, rfl, h⟩
  · exact given_nil w
  · exact given_no g w h
theorem has_nob (p : Option Addr) (a : Int) (w : World) (h : Nob w p) :
    Calls Try.prog 64 #[.pointer p, .int .i64 a] w fun e w' => e = .returned (.bool false) ∧ w = w' := by
  rcases h with rfl | ⟨g, rfl, h⟩
  · exact has_nil a w
  · exact has_no g a w h
theorem read_nob (p : Option Addr) (a : Int) (w : World) (h : Nob w p) :
    Calls Try.prog 24 #[.pointer p, .int .i64 a] w fun e w' => e = .returned (.tuple #[.string ByteArray.empty, .int .i64 1]) ∧ w = w' := by
  rcases h with rfl | ⟨g, rfl, h⟩
  · exact read_nil a w
  · exact read_no g a w h
theorem write_nob (p : Option Addr) (a : Int) (s : ByteArray) (w : World) (h : Nob w p) :
    Calls Try.prog 18 #[.pointer p, .int .i64 a, .string s] w fun e w' => e = .returned (.int .i64 1) ∧ w = w' := by
  rcases h with rfl | ⟨g, rfl, h⟩
  · exact write_nil a s w
  · exact write_zero g a s w h
theorem sync_nob (p : Option Addr) (w : World) (h : Nob w p) :
    Calls Try.prog 17 #[.pointer p] w fun e w' => e = .returned (.int .i64 1) ∧ w = w' := by
  rcases h with rfl | ⟨g, rfl, h⟩
  · exact sync_nil w
  · exact sync_zero g w h
theorem waiting_nob (p : Option Addr) (w : World) (h : Nob w p) :
    Calls Try.prog 23 #[.pointer p] w fun e w' => e = .returned (.slice none 0 0) ∧ w = w' := by
  rcases h with rfl | ⟨g, rfl, h⟩
  · exact waiting_nil w
  · exact waiting_zero g w h
theorem size_nob (p : Option Addr) (w : World) (h : Nob w p) :
    Calls Try.prog 28 #[.pointer p] w fun e w' => e = .returned (.int .i64 0) ∧ w = w' := by
  go_enter Try.func28, Try.ntmps28
  go_wp2_with (first | (go_at_call 62; refine (given_nob p _ h).mono ?_; rintro e w' ⟨rfl, rfl⟩))
  go_ret
  exact ⟨rfl, rfl⟩
theorem off_nob (p : Option Addr) (w : World) (h : Nob w p) :
    Calls Try.prog 20 #[.pointer p] w fun e w' => e = .returned (.bool false) ∧ w = w' := by
  go_enter Try.func20, Try.ntmps20
  go_wp2_with (first | (go_at_call 62; refine (given_nob p _ h).mono ?_; rintro e w' ⟨rfl, rfl⟩))
  go_ret
  exact ⟨rfl, rfl⟩
theorem fuse_nob (p : Option Addr) (n : Int) (w : World) (h : Nob w p) :
    Calls Try.prog 16 #[.pointer p, .int .i64 n] w fun e w' => e = .returned (.int .i64 1) ∧ w = w' := by
  go_enter Try.func16, Try.ntmps16
  go_wp2_with (first | (go_at_call 62; refine (given_nob p _ h).mono ?_; rintro e w' ⟨rfl, rfl⟩))
  go_ret
  exact ⟨rfl, rfl⟩
theorem crash_nob (p : Option Addr) (v : Value) (w : World) (h : Nob w p) :
    Calls Try.prog 21 #[.pointer p, v] w fun e w' => e = .returned (.int .i64 1) ∧ w = w' := by
  go_enter Try.func21, Try.ntmps21
  go_wp2_with (first | (go_at_call 62; refine (given_nob p _ h).mono ?_; rintro e w' ⟨rfl, rfl⟩))
  go_ret
  exact ⟨rfl, rfl⟩
theorem spoil_nob (p : Option Addr) (a : Int) (s : ByteArray) (w : World) (h : Nob w p) :
    Calls Try.prog 29 #[.pointer p, .int .i64 a, .string s] w fun e w' => e = .returned (.int .i64 1) ∧ Below w.heap.size w w' := by
  go_enter Try.func29, Try.ntmps29
  go_wp2_with fail
  refine (has_nob p a _ (h.below (below_alloc (Below.refl _ _) _))).mono ?_
  rintro e w' ⟨rfl, rfl⟩
  go_wp2_with fail
  go_ret
  exact ⟨rfl, below_alloc (Below.refl _ _) _⟩
set_option maxHeartbeats 2000000 in
set_option maxRecDepth 100000 in
theorem nobody_calls (n : Int) (s : ByteArray) (w : World) : Calls Try.prog 6 #[.int .i64 n, .string s] w fun e w' => e = .returned (.bool true) ∧ Below w.heap.size w w' := by
  by_cases hs : 200 < s.size
  · have hs1 : decide ((200 : Int) < (s.size : Int)) = true := decide_eq_true (by omega)
    go_enter Try.func6, Try.ntmps6
    go_wp2_with fail
    refine (awake04 w).mono ?_
    rintro e w1 ⟨rfl, hb⟩
    go_wp2_with fail
    go_ret
    exact ⟨rfl, hb⟩
  · have hs1 : decide ((200 : Int) < (s.size : Int)) = false := decide_eq_false (by omega)
    obtain ⟨m1, hm1⟩ : ∃ m, (if (0 : Int) < n then 0 else n) = m := ⟨_, rfl⟩
    obtain ⟨m2, hm2⟩ : ∃ m, (if n < 4097 then 4097 else n) = m := ⟨_, rfl⟩
    have HM1 := Aside0.mk (show m1 < 1 by rw [← hm1]; split <;> omega)
    have HM2 := Aside0.mk (show 4096 < m2 by rw [← hm2]; split <;> omega)

    go_enter Try.func6, Try.ntmps6
    go_wp2_with fail
    refine (new_no _ _ (.inl HM1.out)).mono ?_
    rintro e w1 ⟨rfl, rfl⟩
    go_wp2_with fail
    refine (new_no _ _ (.inr HM2.out)).mono ?_
    rintro e w1 ⟨rfl, rfl⟩
    clear hm1 hm2
    go_wp2_with fail
    have hB2 := below_alloc (below_alloc (Below.refl w.heap.size w) (.cells #[.slice none 0 0, .slice none 0 0, .int .i64 0, .bool false] TD)) (.cells #[.pointer none, .pointer (some ⟨w.heap.size, 0, none⟩)] 22)
    have hL0 : ((w.alloc (.cells #[.slice none 0 0, .slice none 0 0, .int .i64 0, .bool false] TD)).alloc (.cells #[.pointer none, .pointer (some ⟨w.heap.size, 0, none⟩)] 22)).cell? ⟨w.heap.size + 1, 0, none⟩ = some (.pointer none) := by simp
    have hL1 : ((w.alloc (.cells #[.slice none 0 0, .slice none 0 0, .int .i64 0, .bool false] TD)).alloc (.cells #[.pointer none, .pointer (some ⟨w.heap.size, 0, none⟩)] 22)).cell? ⟨w.heap.size + 1, 1, none⟩ = some (.pointer (some ⟨w.heap.size, 0, none⟩)) := by simp
    have hZ : ((w.alloc (.cells #[.slice none 0 0, .slice none 0 0, .int .i64 0, .bool false] TD)).alloc (.cells #[.pointer none, .pointer (some ⟨w.heap.size, 0, none⟩)] 22)).cell? ⟨w.heap.size, 0, none⟩ = some (.slice none 0 0) := by simp
    generalize ((w.alloc (.cells #[.slice none 0 0, .slice none 0 0, .int .i64 0, .bool false] TD)).alloc (.cells #[.pointer none, .pointer (some ⟨w.heap.size, 0, none⟩)] 22)) = w2 at *
    have HB2 := Aside0.mk hB2
    have HP : Aside0 (∀ i : Nat, i < 2 → ∃ p, w2.cell? ⟨w.heap.size + 1, i, none⟩ = some (.pointer p) ∧ Nob w2 p) := ⟨fun i hi => by
      have h2 : i = 0 ∨ i = 1 := by omega
      rcases h2 with rfl | rfl
      · exact ⟨_, hL0, .inl rfl⟩
      · exact ⟨_, hL1, .inr ⟨_, rfl, hZ⟩⟩⟩
    clear hB2 hL0 hL1 hZ hs hs1
    go_loopw [10] (fun v10 wr => ∃ i : Nat, v10 = .int .i64 (i : Int) ∧ i ≤ 2 ∧ Aside0 (Below w2.heap.size w2 wr)) (fun v10 _ => 2 - (intOf v10).toNat)
    case atStart => exact ⟨0, rfl, by omega, ⟨Below.refl _ _⟩⟩
    case round =>
      obtain ⟨i, rfl, hi, HB⟩ := hrel
      by_cases hi2 : i < 2
      · obtain ⟨p, hc, hp⟩ := HP.out i hi2
        have hcell := cell_below hc HB.out
        have hn := hp.below HB.out
        clear hc hp
        go_wp2_with fail
        refine (read_nob p n _ hn).mono ?_
        rintro e w5 ⟨rfl, rfl⟩
        go_wp2_with fail
        refine (size_nob p _ hn).mono ?_
        rintro e w5 ⟨rfl, rfl⟩
        go_wp2_with fail
        refine (write_nob p n s _ hn).mono ?_
        rintro e w5 ⟨rfl, rfl⟩
        go_wp2_with fail
        refine (sync_nob p _ hn).mono ?_
        rintro e w5 ⟨rfl, rfl⟩
        go_wp2_with fail
        refine (waiting_nob p _ hn).mono ?_
        rintro e w5 ⟨rfl, rfl⟩
        go_wp2_with fail
        refine (fuse_nob p n _ hn).mono ?_
        rintro e w5 ⟨rfl, rfl⟩
        go_wp2_with fail
        refine (off_nob p _ hn).mono ?_
        rintro e w5 ⟨rfl, rfl⟩
        go_wp2_with fail
        refine (crash_nob p _ _ hn).mono ?_
        rintro e w5 ⟨rfl, rfl⟩
        go_wp2_with fail
        refine (spoil_nob p n s _ hn).mono ?_
        rintro e w5 ⟨rfl, hb5⟩
        go_wp2_with fail
        exact ⟨⟨i + 1, by simp, by omega, ⟨below_then HB.out HB.out.size hb5⟩⟩, by simp [intOf]; omega⟩
      · obtain rfl : i = 2 := by omega
        go_wp2_with fail
        refine (awake04 wr).mono ?_
        rintro e w5 ⟨rfl, hb5⟩
        go_wp2_with fail
        go_ret
        exact ⟨rfl, below_then (below_step HB2.out HB.out) (below_step HB2.out HB.out).size hb5⟩
end Go.Proofs.Ytgjclhhjigflkab.Dev
