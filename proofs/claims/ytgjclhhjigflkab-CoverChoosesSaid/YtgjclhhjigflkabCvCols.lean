/- The walks of cover.columns, Place; what a table in memory is. -/
import Derived.Test.YtgjclhhjigflkabCvPlain
namespace Go.Proofs.Ytgjclhhjigflkab.Sc
open Go Go.RowKit Go.Proofs.Ytgjclhhjigflkab.C Go.Proofs.Ytgjclhhjigflkab.MyWords Go.Proofs.Ytgjclhhjigflkab.Hand Go.Proofs.YtgjclhhjigflkabW.PrintWords Go.Proofs.YtgjclhhjigflkabW.PrintLast Go.Proofs.YtgjclhhjigflkabW.PrintMore
set_option linter.unusedVariables false
set_option linter.unusedSimpArgs false
/-- a table's parts, in memory -/
structure TA (w : World) (t : Tab) (At : Option Addr) (ct : Nat) (Bt : Option Addr) (dt : Nat) : Prop where
  c : Kd.C kC w At t.f1.length t.f1
  ct : t.f1.length ≤ ct
  p : Kd.C kP w Bt t.f2.length t.f2
  dt : t.f2.length ≤ dt
  g : GT t
theorem TA.below {w w1 : World} {t : Tab} {At : Option Addr} {ct : Nat} {Bt : Option Addr} {dt : Nat} (h : TA w t At ct Bt dt) (hb : Below w.heap.size w w1) : TA w1 t At ct Bt dt := ⟨Kd.C_below h.c hb, h.ct, Kd.C_below h.p hb, h.dt, h.g⟩
theorem place_calls {w : World} {t : Tab} {At : Option Addr} {ct : Nat} {Bt : Option Addr} {dt : Nat} (H : TA w t At ct Bt dt) (p col : Int) : Calls Try.prog 37 #[.agg #[.string t.f0, .slice At t.f1.length ct, .slice Bt t.f2.length dt], .int .i64 p, .int .i64 col] w fun e w' => e = .returned (.int .i64 (placeP t p col)) ∧ Below w.heap.size w w' := by
  obtain ⟨k, hk⟩ := (place_ev t H.g p col).rounds
  exact cover_Place.calls k t.f0 At ct t.f1 Bt dt t.f2 p col _ w H.c H.ct H.p H.dt hk
theorem col_out (t : Tab) (At : Option Addr) (ct : Nat) (Bt : Option Addr) (dt : Nat) (c : Int) (b : Nat) (w : World) (hb : w.heap[b]? = some (.cells #[.string t.f0, .slice At t.f1.length ct, .slice Bt t.f2.length dt] TT (0, 0))) :
    Calls Try.prog 122 #[.int .i64 c, .pointer (some ⟨b, 0, none⟩)] w fun e w' => e = .returned (.bool (!inP t.f1.length c)) ∧ Below w.heap.size w w' := by
  have hc1 : w.cell? ⟨b, 1, none⟩ = some (.slice At t.f1.length ct) := (cell_of_row w b 1 _ _ _ hb).trans rfl
  by_cases h1 : c < 0
  · have HP : Aside0 (inP t.f1.length c = false) := ⟨decide_eq_false (by omega)⟩
    have g1 : decide (c < 0) = true := decide_eq_true h1
    go_enter Try.func122, Try.ntmps122
    go_wp2
    go_ret
    exact ⟨by rw [HP.out]; rfl, Below.refl _ _⟩
  · have g1 : decide (c < 0) = false := decide_eq_false h1
    by_cases h2 : (t.f1.length : Int) ≤ c
    · have HP : Aside0 (inP t.f1.length c = false) := ⟨decide_eq_false (by omega)⟩
      have g2 : decide ((t.f1.length : Int) ≤ c) = true := decide_eq_true h2
      go_enter Try.func122, Try.ntmps122
      go_wp2
      go_ret
      exact ⟨by rw [HP.out]; rfl, Below.refl _ _⟩
    · have HP : Aside0 (inP t.f1.length c = true) := ⟨decide_eq_true (by omega)⟩
      have g2 : decide ((t.f1.length : Int) ≤ c) = false := decide_eq_false h2
      go_enter Try.func122, Try.ntmps122
      go_wp2
      go_ret
      exact ⟨by rw [HP.out]; rfl, Below.refl _ _⟩
theorem columns_calls (t : Tab) (At : Option Addr) (ct : Nat) (Bt : Option Addr) (dt : Nat) (l : List Int) (A : Option Addr) (c0 : Nat) (w : World) (hr : Kd.C (Kd.int .i64) w A l.length l) (hc : l.length ≤ c0) (hl : l.length ≤ 1000000) :
    Calls Try.prog 77 #[.agg #[.string t.f0, .slice At t.f1.length ct, .slice Bt t.f2.length dt], .slice A l.length c0] w fun e w' => e = .returned (.bool (colsIn t l)) ∧ Below w.heap.size w w' := by
  have HR := Aside0.mk hr
  clear hr
  go_enter Try.func77, Try.ntmps77
  go_wp2_with (first | ((with_reducible refine gate_dst (N := 2) rfl ?_); refine box_event rfl (N := 2) rfl (cs := #[.string t.f0, .slice At t.f1.length ct, .slice Bt t.f2.length dt]) (t := TT) ?hr ?_; (case hr => first | (go_simp; done) | (go_simp; rfl)); intro b hgb w1 hb hBb; have HXb := Aside0.mk hb; have HBb := Aside0.mk hBb; clear hgb hb hBb))
  refine (contains_int (.func (.func 122) #[] #[.pointer (some ⟨b, 0, none⟩)]) (fun c => !inP t.f1.length c) A c0 l _ (Kd.C_below HR.out HBb.out) hc (by omega) (fun i hi w2 hb => CallsV.of Try.func122 (by kernel_rfl) rfl (col_out t At ct Bt dt l[i] b w2 (blk_below HXb.out hb)))).mono ?_
  rintro e w2 ⟨rfl, hb2⟩
  rw [any_not]
  go_wp2_with fail
  go_ret
  exact ⟨by unfold colsIn; simp, below_step HBb.out hb2⟩
end Go.Proofs.Ytgjclhhjigflkab.Sc
