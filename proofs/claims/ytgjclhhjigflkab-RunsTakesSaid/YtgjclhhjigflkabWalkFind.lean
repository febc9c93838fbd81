/- The walk of runs.Find: a binary search over runs. -/
import Derived.Test.YtgjclhhjigflkabMx2
import Derived.Test.YtgjclhhjigflkabMyWords
import Derived.Outline
namespace Go.Proofs.Ytgjclhhjigflkab.M
open Go Go.RowKit Go.Proofs.Ytgjclhhjigflkab.MyWords Go.Proofs.YtgjclhhjigflkabW.PrintWords Go.Proofs.YtgjclhhjigflkabW.PrintLast Go.Proofs.YtgjclhhjigflkabW.PrintMore
set_option linter.unusedVariables false
set_option linter.unusedSimpArgs false
def findCmp (r : S86) (at_ : Int) : Int := if at_ < r.f1 then 1 else if wrap64 (r.f1 + r.f2) ≤ at_ then -1 else 0
theorem findCmp_calls (a b c at_ r : Int) (w : World) (hr : findCmp ⟨a, b, c⟩ at_ = r) :
    Calls Try.prog 91 #[.agg #[.int .i64 a, .int .i64 b, .int .i64 c], .int .i64 at_] w fun e w' => e = .returned (.int .i64 r) ∧ Below w.heap.size w w' := by
  subst hr
  unfold findCmp
  by_cases h1 : at_ < b
  · go_enter Try.func91, Try.ntmps91
    go_wp2
    go_ret
    exact ⟨by simp [h1], (Below.refl _ _).alloc (Nat.le_refl _) _⟩
  · by_cases h2 : wrap64 (b + c) ≤ at_
    · go_enter Try.func91, Try.ntmps91
      go_wp2
      go_ret
      exact ⟨by simp [h1, h2], (Below.refl _ _).alloc (Nat.le_refl _) _⟩
    · go_enter Try.func91, Try.ntmps91
      go_wp2
      go_ret
      exact ⟨by simp [h1, h2], (Below.refl _ _).alloc (Nat.le_refl _) _⟩
def findAt (l : List S86) (at_ : Int) : Nat → Int → Int → Option Int
  | 0, _, _ => none
  | k + 1, i, j => if i < j then (if findCmp (rd_T86 l ((i + j) / 2)) at_ < 0 then findAt l at_ k ((i + j) / 2 + 1) j else findAt l at_ k i ((i + j) / 2)) else some i
theorem findAt_mono (l : List S86) (at_ : Int) : ∀ k i j, LeO (findAt l at_ k i j) (findAt l at_ (k + 1) i j)
  | 0, i, j => by intro r h; simp [findAt] at h
  | k + 1, i, j => by
    unfold findAt
    exact LeO.ite (LeO.ite (findAt_mono l at_ k _ _) (findAt_mono l at_ k _ _)) (LeO.refl _)
set_option maxHeartbeats 1000000 in
set_option maxRecDepth 100000 in
theorem bsearch_calls (k : Nat) (A0 : Option Addr) (c0 : Nat) (l0 : List S86) (at_ : Int) (r : Int) (w : World) (hr0 : Kd.C k86 w A0 l0.length l0) (hc0 : l0.length ≤ c0) (hl : l0.length ≤ 1000000000) (h : findAt l0 at_ k 0 (l0.length : Int) = some r) :
    Calls Try.prog 90 #[.slice A0 l0.length c0, .int .i64 at_, .func (.func 91) #[] #[]] w fun e w' => ∃ b : Bool, e = .returned (.tuple #[.int .i64 r, .bool b]) ∧ Below w.heap.size w w' := by
  have HR0 := Aside0.mk hr0
  have HC0 := Aside0.mk hc0
  have HE := Aside0.mk h
  clear hr0 hc0 h
  go_enter Try.func90, Try.ntmps90
  go_wp2
  go_loopw [9, 10] (fun v9 v10 wr => ∃ (i j m : Nat), v9 = .int .i64 (i : Int) ∧ v10 = .int .i64 (j : Int) ∧ j ≤ l0.length ∧ i ≤ l0.length ∧ Aside0 (findAt l0 at_ m (i : Int) (j : Int) = some r) ∧ Aside0 (Below w.heap.size w wr)) (fun v9 v10 _ => (intOf v10).toNat - (intOf v9).toNat)
  case atStart => exact ⟨0, l0.length, k, rfl, rfl, by omega, by omega, HE, ⟨Below.refl _ _⟩⟩
  case round =>
    obtain ⟨i, j, m, rfl, rfl, hj, hi, HF, HB⟩ := hrel
    by_cases hlt : i < j
    · obtain ⟨m, rfl⟩ : ∃ m', m = m' + 1 := by
        cases m with
        | zero => have := HF.out; simp [findAt] at this
        | succ m => exact ⟨m, rfl⟩
      have hF2 := HF.out
      rw [findAt, if_pos (by omega)] at hF2
      have hmid : ((i : Int) + (j : Int)) / 2 = ((i + j) / 2 : Nat) := by omega
      rw [hmid] at hF2
      obtain ⟨h, hh⟩ : ∃ h, (i + j) / 2 = h := ⟨_, rfl⟩
      rw [hh] at hF2
      have hih : i ≤ h := by omega
      have hhj : h < j := by omega
      obtain ⟨ad, hA, hx0, hx1, hx2⟩ := at_T86 (Kd.C_below HR0.out HB.out) (h : Int) (by omega) (by omega)
      subst hA
      obtain ⟨x, hx⟩ : ∃ x, rd_T86 l0 (h : Int) = x := ⟨_, rfl⟩
      rw [hx] at hx0 hx1 hx2 hF2
      rw [Int.toNat_natCast] at hx0 hx1 hx2
      rw [← hh] at hx0 hx1 hx2
      have HH := Aside0.mk hh
      obtain ⟨c, hc⟩ : ∃ c, findCmp x at_ = c := ⟨_, rfl⟩
      rw [hc] at hF2
      have HF2 := Aside0.mk hF2
      have HCM := Aside0.mk hc
      clear hF2 hx hmid hh hc
      by_cases hneg : c < 0
      · go_wp2_with (first | (go_at_call 91; (with_reducible refine (findCmp_calls _ _ _ _ c _ HCM.out).mono ?_); rintro e w1 ⟨rfl, hb1⟩; have HB1 := Aside0.mk hb1; clear hb1))
        refine ⟨⟨h + 1, j, m, by rw [← HH.out]; simp, rfl, hj, by omega, ⟨?_⟩, ⟨below_step HB.out HB1.out⟩⟩, by simp only [intOf]; have := HH.out; omega⟩
        have := HF2.out
        rw [if_pos hneg] at this
        simpa using this
      · go_wp2_with (first | (go_at_call 91; (with_reducible refine (findCmp_calls _ _ _ _ c _ HCM.out).mono ?_); rintro e w1 ⟨rfl, hb1⟩; have HB1 := Aside0.mk hb1; clear hb1))
        refine ⟨⟨i, h, m, rfl, by rw [← HH.out]; simp, by omega, hi, ⟨?_⟩, ⟨below_step HB.out HB1.out⟩⟩, by simp only [intOf]; have := HH.out; omega⟩
        have := HF2.out
        rw [if_neg (by omega)] at this
        simpa using this
    · have hir : (i : Int) = r := by
        have hF2 := HF.out
        cases m with
        | zero => simp [findAt] at hF2
        | succ m =>
          rw [findAt, if_neg (by omega)] at hF2
          exact Option.some.inj hF2
      by_cases hend : i < l0.length
      · obtain ⟨ad, hA, hx0, hx1, hx2⟩ := at_T86 (Kd.C_below HR0.out HB.out) (i : Int) (by omega) (by omega)
        subst hA
        obtain ⟨x, hx⟩ : ∃ x, rd_T86 l0 (i : Int) = x := ⟨_, rfl⟩
        rw [hx] at hx0 hx1 hx2
        rw [Int.toNat_natCast] at hx0 hx1 hx2
        obtain ⟨c, hc⟩ : ∃ c, findCmp x at_ = c := ⟨_, rfl⟩
        have HCM := Aside0.mk hc
        have HIR := Aside0.mk hir
        clear hx hc hir
        go_wp2_with (first | (go_at_call 91; (with_reducible refine (findCmp_calls _ _ _ _ c _ HCM.out).mono ?_); rintro e w1 ⟨rfl, hb1⟩; have HB1 := Aside0.mk hb1; clear hb1))
        go_ret2
        exact ⟨c == 0, by rw [HIR.out]; rfl, below_step HB.out HB1.out⟩
      · have HIR := Aside0.mk hir
        clear hir
        go_wp2
        go_ret2
        exact ⟨false, by rw [HIR.out]; rfl, HB.out⟩
def runs_Find.f (k : Nat) (l0 : List S86) (at_ : Int) : Option (Int × Int) :=
  (runs_count.f k l0).bind fun c => if c.2 = true then (if at_ < 0 then some (0, 3) else if c.1 ≤ at_ then some (0, 3) else if l0.length ≤ 1000000000 then (findAt l0 at_ k 0 (l0.length : Int)).bind fun i => some (i, 0) else none) else some (0, 1)
theorem runs_Find.mono : ∀ l0 at_ k, LeO (runs_Find.f k l0 at_) (runs_Find.f (k + 1) l0 at_) := by
  intro l0 at_ k
  unfold runs_Find.f
  exact LeO.bind (runs_count.mono _ _) fun c => LeO.ite (LeO.ite (LeO.refl _) (LeO.ite (LeO.refl _) (LeO.ite (LeO.bind (findAt_mono _ _ _ _ _) fun _ => LeO.refl _) (LeO.refl _)))) (LeO.refl _)
set_option maxHeartbeats 1000000 in
theorem runs_Find.calls (k : Nat) (A0 : Option Addr) (c0 : Nat) (l0 : List S86) (a1 : Int) (r1 : Int) (r2 : Int) (w : World) (hr0 : Kd.C k86 w A0 l0.length l0) (hc0 : l0.length ≤ c0) (h : runs_Find.f k l0 a1 = some (r1, r2)) :
    Calls Try.prog 41 #[.slice A0 l0.length c0, .int .i64 a1] w fun e w' => e = .returned (.tuple #[.int .i64 r1, .int .i64 r2]) ∧ Below w.heap.size w w' := by
  unfold runs_Find.f at h
  obtain ⟨⟨n, ok⟩, hcount, h⟩ := Option.bind_eq_some_iff.1 h
  have HCN := Aside0.mk hcount
  clear hcount
  have HR0 := Aside0.mk hr0
  have HC0 := Aside0.mk hc0
  clear hr0 hc0
  cases ok with
  | false =>
    have h2 : ((0 : Int), (1 : Int)) = (r1, r2) := Option.some.inj h
    simp only [Prod.mk.injEq] at h2
    obtain ⟨rfl, rfl⟩ := h2
    clear h
    go_enter Try.func41, Try.ntmps41
    go_wp2_with (first | (go_at_call 88; (with_reducible refine (runs_count.calls k _ _ l0 n false _ HR0.out HC0.out HCN.out).mono ?_); rintro e w1 ⟨rfl, hb1⟩; have HB1 := Aside0.mk hb1; clear hb1))
    go_ret2
    exact ⟨rfl, HB1.out⟩
  | true =>
    have h3 : (if a1 < 0 then some (0, 3) else if n ≤ a1 then some (0, 3) else if l0.length ≤ 1000000000 then (findAt l0 a1 k 0 (l0.length : Int)).bind fun i => some (i, 0) else none) = some (r1, r2) := h
    clear h
    by_cases hn0 : a1 < 0
    · rw [if_pos hn0] at h3
      have h2 := Option.some.inj h3
      simp only [Prod.mk.injEq] at h2
      obtain ⟨rfl, rfl⟩ := h2
      clear h3
      go_enter Try.func41, Try.ntmps41
      go_wp2_with (first | (go_at_call 88; (with_reducible refine (runs_count.calls k _ _ l0 n true _ HR0.out HC0.out HCN.out).mono ?_); rintro e w1 ⟨rfl, hb1⟩; have HB1 := Aside0.mk hb1; clear hb1))
      go_ret2
      exact ⟨rfl, HB1.out⟩
    · rw [if_neg hn0] at h3
      by_cases hn1 : n ≤ a1
      · rw [if_pos hn1] at h3
        have h2 := Option.some.inj h3
        simp only [Prod.mk.injEq] at h2
        obtain ⟨rfl, rfl⟩ := h2
        clear h3
        go_enter Try.func41, Try.ntmps41
        go_wp2_with (first | (go_at_call 88; (with_reducible refine (runs_count.calls k _ _ l0 n true _ HR0.out HC0.out HCN.out).mono ?_); rintro e w1 ⟨rfl, hb1⟩; have HB1 := Aside0.mk hb1; clear hb1))
        go_ret2
        exact ⟨rfl, HB1.out⟩
      · rw [if_neg hn1] at h3
        by_cases hl : l0.length ≤ 1000000000
        · rw [if_pos hl] at h3
          obtain ⟨i, hi, h3⟩ := Option.bind_eq_some_iff.1 h3
          have h2 := Option.some.inj h3
          simp only [Prod.mk.injEq] at h2
          obtain ⟨rfl, rfl⟩ := h2
          have HI := Aside0.mk hi
          clear h3 hi
          go_enter Try.func41, Try.ntmps41
          go_wp2_with (first | (go_at_call 88; (with_reducible refine (runs_count.calls k _ _ l0 n true _ HR0.out HC0.out HCN.out).mono ?_); rintro e w1 ⟨rfl, hb1⟩; have HB1 := Aside0.mk hb1; clear hb1) | (go_at_call 90; (with_reducible refine (bsearch_calls k _ _ l0 a1 _ _ (Kd.C_below HR0.out HB1.out) HC0.out hl HI.out).mono ?_); rintro e w2 ⟨b, rfl, hb2⟩; have HB2 := Aside0.mk hb2; clear hb2))
          go_ret2
          exact ⟨rfl, below_step HB1.out HB2.out⟩
        · rw [if_neg hl] at h3
          cases h3
end Go.Proofs.Ytgjclhhjigflkab.M
