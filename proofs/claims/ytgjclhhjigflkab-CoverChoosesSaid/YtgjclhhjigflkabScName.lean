/- The walk of schema.name: may a text be a name? -/
import Derived.Test.YtgjclhhjigflkabProg
import Derived.Test.YtgjclhhjigflkabScPlain
import Derived.Outline
namespace Go.Proofs.Ytgjclhhjigflkab.Sc
open Go Go.RowKit Go.Proofs.Ytgjclhhjigflkab.C Go.Proofs.Ytgjclhhjigflkab.MyWords Go.Proofs.Ytgjclhhjigflkab.Hand Go.Proofs.YtgjclhhjigflkabW.PrintWords Go.Proofs.YtgjclhhjigflkabW.PrintLast Go.Proofs.YtgjclhhjigflkabW.PrintMore
set_option linter.unusedVariables false
set_option linter.unusedSimpArgs false
section
variable {P : Program} {ops : Array Oper} {rest : List Oper} {o : Oper} {a : Act} {Q : Exit → Act → World → Prop} {W : World}
/-- a text as bytes -/
theorem bytes_event (hg : o.guard = none) (src dst e : TypeId) (x : Operand) (hop : o.op = .convert src dst x) {u : TypeDesc} (hs : P.underlying src = some u) (hd : P.underlying dst = some (.slice e)) (he : P.underlying e = some (.int .u8)) (s : ByteArray) (hx : a.eval x = .string s) (hsz : s.size ≤ 9223372036854775807)
    (h : ∀ b cap w1, ReadsInt w1 .u8 (some ⟨b, 0, none⟩) s.size (bytesOf s) → Below W.heap.size W w1 → wpList P ops Q rest (a.put o.dst (.slice (some ⟨b, 0, none⟩) s.size cap)) w1) : wpList P ops Q (o :: rest) a W := by
  refine Kd.event_run hg (v := .slice (some ⟨W.heap.size, 0, none⟩) s.size (grownCap W s.size 0 e)) (w1 := Lib.bytesWorld W e s) ?_ (h _ _ _ (bytes_reads W e s hsz) (bytes_below (Below.refl _ _) (Nat.le_refl _) e s))
  unfold execOp
  simp [hop, hx, print_bytes src dst e hs hd he s W]
end
theorem okAll_of (s : ByteArray) (h : ∀ i, i < s.size → okc i (bt s (i : Int)) = true) : okAll s = true := by
  unfold okAll
  rw [List.all_eq_true]
  intro i hi
  exact h i (List.mem_range.1 hi)
theorem okAll_not (s : ByteArray) (i : Nat) (hi : i < s.size) (h : okc i (bt s (i : Int)) = false) : okAll s = false := by
  unfold okAll
  rw [List.all_eq_false]
  exact ⟨i, List.mem_range.2 hi, by rw [h]; decide⟩
set_option maxHeartbeats 2000000 in
set_option maxRecDepth 100000 in
theorem name_calls (s : ByteArray) (w : World) (hs : s.size ≤ 9223372036854775807) : Calls Try.prog 153 #[.string s] w fun e w' => e = .returned (.bool (nameP s)) ∧ Below w.heap.size w w' := by
  go_enter Try.func153, Try.ntmps153
  go_wp2_with (first | ((with_reducible refine gate_dst (N := 7) rfl ?_); refine bytes_event rfl 9 115 5 (.tmp 6) rfl Try.underlying9 Try.underlying115 Try.underlying5 s rfl hs ?_; intro b cap w1 hr1 hb1; have HR := Aside0.mk hr1; have HB := Aside0.mk hb1; clear hr1 hb1))
  go_loop [9] (fun v9 => ∃ k : Nat, v9 = .int .i64 (k : Int) ∧ k ≤ s.size ∧ Aside0 (∀ i, i < k → okc i (bt s (i : Int)) = true)) (fun v9 => s.size - (intOf v9).toNat)
  case atStart => exact ⟨0, rfl, Nat.zero_le _, ⟨fun i hi => absurd hi (by omega)⟩⟩
  case round =>
    obtain ⟨k, rfl, hk, HOK⟩ := hrel
    by_cases hlt : k < s.size
    · obtain ⟨ad, hA, hcell⟩ := HR.out.at_ (k : Int) (by omega) (by omega)
      injection hA with hA
      subst hA
      rw [rd_bytesOf, Int.toNat_natCast, add_plain] at hcell
      have hrg := bt_range s (k : Int)
      obtain ⟨c, hc⟩ : ∃ c, bt s (k : Int) = c := ⟨_, rfl⟩
      rw [hc] at hcell hrg
      have HC := Aside0.mk hc
      have HRG := Aside0.mk hrg
      clear hc hrg
      cases hok : okc k c with
      | true =>
        have hstep : Aside0 (∀ i, i < k + 1 → okc i (bt s (i : Int)) = true) := ⟨fun i hi => by
          by_cases e : i = k
          · subst e; rw [HC.out]; exact hok
          · exact HOK.out i (by omega)⟩
        have hcs : (97 ≤ c ∧ c ≤ 122) ∨ ((¬ (97 ≤ c ∧ c ≤ 122)) ∧ 0 < k ∧ (c = 95 ∨ (c ≠ 95 ∧ 48 ≤ c ∧ c ≤ 57))) := by
          unfold okc at hok
          by_cases h1 : 97 ≤ c ∧ c ≤ 122
          · exact .inl h1
          · refine .inr ⟨h1, ?_⟩
            rw [decide_eq_false h1] at hok
            simp at hok
            refine ⟨by omega, ?_⟩
            rcases hok.2 with h | h
            · exact .inl h
            · exact .inr ⟨by omega, h.1, h.2⟩
        clear hok
        rcases hcs with ⟨h1, h2⟩ | ⟨h1, h2, h3⟩
        · go_wp2
          exact ⟨⟨k + 1, by simp, by omega, hstep⟩, by simp [intOf]; omega⟩
        · have h0 : ((k : Int) == 0) = false := by simp; omega
          have hl : ¬ 97 ≤ c ∨ (97 ≤ c ∧ ¬ c ≤ 122) := by omega
          clear h1
          rcases h3 with rfl | ⟨h4, h5, h6⟩
          · go_wp2
            all_goals exact ⟨⟨k + 1, by simp, by omega, hstep⟩, by simp [intOf]; omega⟩
          · have h7 : ¬ 97 ≤ c := by omega
            have h8 : (c != 95) = true := by simp [h4]
            have h9 : ¬ c < 48 := by omega
            have h10 : ¬ 57 < c := by omega
            have g7 : decide (97 ≤ c) = false := decide_eq_false h7
            have g9 : decide (c < 48) = false := decide_eq_false h9
            have g10 : decide (57 < c) = false := decide_eq_false h10
            clear hl h4
            go_wp2
            all_goals exact ⟨⟨k + 1, by simp, by omega, hstep⟩, by simp [intOf]; omega⟩
      | false =>
        have hfin : Aside0 (nameP s = false) := ⟨by
          unfold nameP
          rw [okAll_not s k hlt (by rw [HC.out]; exact hok)]
          rfl⟩
        have hcs : ¬ (97 ≤ c ∧ c ≤ 122) ∧ (k = 0 ∨ (0 < k ∧ c ≠ 95 ∧ (c < 48 ∨ 57 < c))) := by
          unfold okc at hok
          simp at hok
          refine ⟨by omega, ?_⟩
          by_cases hk0 : k = 0
          · exact .inl hk0
          · have h2 := hok.2 (by omega)
            refine .inr ⟨by omega, h2.1, ?_⟩
            by_cases h3 : c < 48
            · exact .inl h3
            · exact .inr (by have := h2.2; omega)
        clear hok
        obtain ⟨h1, h2⟩ := hcs
        have hl : (¬ 97 ≤ c) ∨ (97 ≤ c ∧ ¬ c ≤ 122) := by omega
        clear h1
        rcases h2 with rfl | ⟨h3, h4, h5⟩
        · rcases hl with h6 | ⟨h6, h7⟩
          · have g6 : decide (97 ≤ c) = false := decide_eq_false h6
            go_wp2
            go_ret
            exact ⟨by rw [hfin.out]; rfl, HB.out⟩
          · have g7 : decide (c ≤ 122) = false := decide_eq_false h7
            go_wp2
            go_ret
            exact ⟨by rw [hfin.out]; rfl, HB.out⟩
        · have h0 : ((k : Int) == 0) = false := by simp; omega
          have h8 : (c != 95) = true := by simp [h4]
          clear h4
          rcases hl with h6 | ⟨h6, h7⟩
          · have g6 : decide (97 ≤ c) = false := decide_eq_false h6
            rcases h5 with h9 | h9
            · go_wp2
              go_ret
              exact ⟨by rw [hfin.out]; rfl, HB.out⟩
            · have g9 : decide (c < 48) = false := decide_eq_false (by omega)
              go_wp2
              go_ret
              exact ⟨by rw [hfin.out]; rfl, HB.out⟩
          · have g7 : decide (c ≤ 122) = false := decide_eq_false h7
            have g9 : decide (c < 48) = false := decide_eq_false (by omega)
            have g10 : decide (57 < c) = true := decide_eq_true (by omega)
            go_wp2
            go_ret
            exact ⟨by rw [hfin.out]; rfl, HB.out⟩
    · obtain rfl : k = s.size := by omega
      have hall := okAll_of s HOK.out
      have hfin : Aside0 (nameP s = (decide (1 ≤ s.size) && decide (s.size ≤ 16))) := ⟨by unfold nameP; rw [hall]; simp⟩
      clear hall
      by_cases h1 : 1 ≤ s.size
      · by_cases h2 : s.size ≤ 16
        · go_wp2
          go_ret
          exact ⟨by rw [hfin.out, decide_eq_true h1, decide_eq_true h2]; first | rfl | (simp; done) | (simp; omega), HB.out⟩
        · have g2 : decide (s.size ≤ 16) = false := decide_eq_false h2
          have g3 : decide ((s.size : Int) ≤ 16) = false := decide_eq_false (by omega)
          go_wp2
          go_ret
          exact ⟨by rw [hfin.out, g2, decide_eq_true h1]; rfl, HB.out⟩
      · have h0 : s.size = 0 := by omega
        have g1 : decide (1 ≤ s.size) = false := decide_eq_false h1
        have g3 : decide (1 ≤ (s.size : Int)) = false := decide_eq_false (by omega)
        have g4 : decide (0 < s.size) = false := decide_eq_false (by omega)
        clear h0
        go_wp2
        go_ret
        exact ⟨by rw [hfin.out, g1]; rfl, HB.out⟩
end Go.Proofs.Ytgjclhhjigflkab.Sc
