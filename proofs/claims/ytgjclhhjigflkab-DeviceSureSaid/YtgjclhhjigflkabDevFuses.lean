/- The walk of law DeviceFuses. -/
import Derived.Test.YtgjclhhjigflkabDevAwake
namespace Go.Proofs.Ytgjclhhjigflkab.Dev
open Go Go.RowKit Go.Proofs.Ytgjclhhjigflkab.D Go.Proofs.Ytgjclhhjigflkab.MyWords Go.Proofs.Ytgjclhhjigflkab.Hand Go.Proofs.YtgjclhhjigflkabW.PrintWords Go.Proofs.YtgjclhhjigflkabW.PrintLast Go.Proofs.YtgjclhhjigflkabW.PrintMore
set_option linter.unusedVariables false
set_option linter.unusedSimpArgs false
theorem and63 (x : Int) : Go.bits .and .i64 x 63 = x % 64 := by
  show IntKind.i64.wrap ((BitVec.ofInt 64 x &&& BitVec.ofInt 64 63).toNat : Int) = x % 64
  have e : (BitVec.ofInt 64 x &&& BitVec.ofInt 64 63).toNat = (x % 64).toNat := by
    rw [BitVec.toNat_and, BitVec.toNat_ofInt, BitVec.toNat_ofInt]
    have e2 : ((63 : Int) % ((2 ^ 64 : Nat) : Int)).toNat = 2 ^ 6 - 1 := by decide
    rw [e2, Nat.and_two_pow_sub_one_eq_mod]
    simp only [Nat.reducePow]
    omega
  rw [e, IntKind.wrap_i64]
  omega
theorem and3 (x : Int) : Go.bits .and .i64 x 3 = x % 4 := by
  show IntKind.i64.wrap ((BitVec.ofInt 64 x &&& BitVec.ofInt 64 3).toNat : Int) = x % 4
  have e : (BitVec.ofInt 64 x &&& BitVec.ofInt 64 3).toNat = (x % 4).toNat := by
    rw [BitVec.toNat_and, BitVec.toNat_ofInt, BitVec.toNat_ofInt]
    have e2 : ((3 : Int) % ((2 ^ 64 : Nat) : Int)).toNat = 2 ^ 2 - 1 := by decide
    rw [e2, Nat.and_two_pow_sub_one_eq_mod]
    simp only [Nat.reducePow]
    omega
  rw [e, IntKind.wrap_i64]
  omega
theorem and255 (x : Int) : Go.bits .and .i64 x 255 = x % 256 := by
  show IntKind.i64.wrap ((BitVec.ofInt 64 x &&& BitVec.ofInt 64 255).toNat : Int) = x % 256
  have e : (BitVec.ofInt 64 x &&& BitVec.ofInt 64 255).toNat = (x % 256).toNat := by
    rw [BitVec.toNat_and, BitVec.toNat_ofInt, BitVec.toNat_ofInt]
    have e2 : ((255 : Int) % ((2 ^ 64 : Nat) : Int)).toNat = 2 ^ 8 - 1 := by decide
    rw [e2, Nat.and_two_pow_sub_one_eq_mod]
    simp only [Nat.reducePow]
    omega
  rw [e, IntKind.wrap_i64]
  omega
theorem and1 (x : Int) : Go.bits .and .i64 x 1 = x % 2 := by
  show IntKind.i64.wrap ((BitVec.ofInt 64 x &&& BitVec.ofInt 64 1).toNat : Int) = x % 2
  have e : (BitVec.ofInt 64 x &&& BitVec.ofInt 64 1).toNat = (x % 2).toNat := by
    rw [BitVec.toNat_and, BitVec.toNat_ofInt, BitVec.toNat_ofInt]
    have e2 : ((1 : Int) % ((2 ^ 64 : Nat) : Int)).toNat = 2 ^ 1 - 1 := by decide
    rw [e2, Nat.and_two_pow_sub_one_eq_mod]
    simp only [Nat.reducePow]
    omega
  rw [e, IntKind.wrap_i64]
  omega
/-- behind so many doings under a fuse of n -/
structure Fz (n : Int) (i : Nat) (D : DS) : Prop where
  four : D.sure.length = 4
  few : D.wait.length ≤ i
  on : (i : Int) ≤ n → D.off = false ∧ D.fuse = n - i
  gone : n < (i : Int) → D.off = true
theorem Fz.does {n : Int} {i : Nat} {D : DS} (h : Fz n i D) : (doesD D).1.sure = D.sure ∧ (doesD D).1.wait = D.wait ∧ (doesD D).2 = decide ((i : Int) < n) ∧ (((i : Int) < n → (doesD D).1.off = false ∧ (doesD D).1.fuse = n - (i + 1 : Nat)) ∧ (n ≤ (i : Int) → (doesD D).1.off = true)) := by
  have h2 := does_sure D
  refine ⟨h2.1, h2.2, ?_, ?_, ?_⟩
  · unfold doesD
    by_cases h3 : n < (i : Int)
    · rw [if_pos (h.gone h3)]
      exact (decide_eq_false (by omega)).symm
    · have h4 := h.on (by omega)
      rw [if_neg (by rw [h4.1]; decide)]
      by_cases h5 : D.fuse = 0
      · rw [if_pos h5]
        exact (decide_eq_false (by omega)).symm
      · rw [if_neg h5]
        have h6 : 0 < D.fuse := by have := h4.2; omega
        rw [if_pos h6]
        exact (decide_eq_true (by have := h4.2; omega)).symm
  · intro h3
    have h4 := h.on (by omega)
    unfold doesD
    rw [if_neg (by rw [h4.1]; decide), if_neg (by omega), if_pos (by omega)]
    exact ⟨h4.1, by show D.fuse - 1 = _; omega⟩
  · intro h3
    unfold doesD
    by_cases h4 : D.off = true
    · rw [if_pos h4]
      exact h4
    · have h5 := h.on (by by_cases h6 : n < (i : Int); exact absurd (h.gone h6) h4; omega)
      have h6 : ¬ n < (i : Int) := fun h7 => h4 (h.gone h7)
      have h8 : D.fuse = 0 := by omega
      rw [if_neg h4, if_pos h8]
theorem Fz.write {n : Int} {i : Nat} {D : DS} (h : Fz n i D) (a : Int) (s : ByteArray) (ha0 : 0 ≤ a) (ha1 : a < 4) (hs : s.size = 128) :
    (writeD D a s).2 = (if (i : Int) < n then 0 else 40) ∧ Fz n (i + 1) (writeD D a s).1 ∧ (writeD D a s).1.off = decide (n ≤ (i : Int)) := by
  obtain ⟨h1, h2, h3, h4, h5⟩ := h.does
  unfold writeD
  have hc : hasD D a = true ∧ s.size = 128 := ⟨by simp [hasD, h.four]; omega, hs⟩
  rw [if_pos hc, h3]
  by_cases h6 : (i : Int) < n
  · rw [if_pos h6, if_pos (decide_eq_true h6)]
    refine ⟨rfl, ⟨h1 ▸ h.four, ?_, fun _ => h4 h6, fun hh => by omega⟩, ?_⟩
    · show ((doesD D).1.wait ++ [_]).length ≤ _
      rw [h2, List.length_append]
      have := h.few
      simp only [List.length_singleton]
      omega
    · rw [decide_eq_false (by omega)]
      exact (h4 h6).1
  · rw [if_neg h6, if_neg (by rw [decide_eq_false h6]; decide)]
    refine ⟨rfl, ⟨h1 ▸ h.four, ?_, fun hh => by omega, fun _ => h5 (by omega)⟩, ?_⟩
    · show (doesD D).1.wait.length ≤ _
      rw [h2]
      have := h.few
      omega
    · rw [decide_eq_true (by omega)]
      exact h5 (by omega)
theorem Fz.sync {n : Int} {i : Nat} {D : DS} (h : Fz n i D) :
    (syncD D).2 = (if (i : Int) < n then 0 else 40) ∧ Fz n (i + 1) (syncD D).1 ∧ (syncD D).1.off = decide (n ≤ (i : Int)) := by
  obtain ⟨h1, h2, h3, h4, h5⟩ := h.does
  unfold syncD
  rw [h3]
  by_cases h6 : (i : Int) < n
  · rw [if_pos h6, if_pos (decide_eq_true h6)]
    refine ⟨rfl, ⟨?_, Nat.zero_le _, fun _ => h4 h6, fun hh => by omega⟩, ?_⟩
    · show ((doesD D).1.wait.foldl putW (doesD D).1.sure).length = 4
      rw [foldl_len, h1]
      exact h.four
    · rw [decide_eq_false (by omega)]
      exact (h4 h6).1
  · rw [if_neg h6, if_neg (by rw [decide_eq_false h6]; decide)]
    refine ⟨rfl, ⟨h1 ▸ h.four, ?_, fun hh => by omega, fun _ => h5 (by omega)⟩, ?_⟩
    · show (doesD D).1.wait.length ≤ _
      rw [h2]
      have := h.few
      omega
    · rw [decide_eq_true (by omega)]
      exact h5 (by omega)
theorem fuse_start (n : Int) (h0 : 0 ≤ n) : Fz n 0 (fuseD (newD (4 : Int).toNat) n) := by
  refine ⟨rfl, Nat.le_refl _, fun _ => ⟨rfl, ?_⟩, fun h => ?_⟩
  · show (if n < -1 then -1 else n) = n - 0
    rw [if_neg (by omega)]
    omega
  · omega
theorem crash_then {D : DS} (h : D.sure.length = 4) (s : ByteArray) (hs : s.size = 128) : (crashD D []).off = false ∧ (writeD (crashD D []) 0 s).2 = 0 ∧ (crashD D []).wait = [] := by
  refine ⟨rfl, ?_, rfl⟩
  have h4 : (crashD D []).sure.length = 4 := by show (keptD [] D.sure 0 D.wait).length = 4; rw [kept_len]; exact h
  unfold writeD
  rw [if_pos ⟨by simp [hasD, h4], hs⟩]
  rfl
set_option maxHeartbeats 2000000 in
set_option maxRecDepth 100000 in
theorem fuses_calls (many syncs fuse : Int) (w : World) : Calls Try.prog 3 #[.int .i64 many, .int .i64 syncs, .int .i64 fuse] w fun e w' => e = .returned (.bool true) ∧ Below w.heap.size w w' := by
  obtain ⟨n, hn⟩ : ∃ n, Go.bits .and .i64 fuse 63 = n := ⟨_, rfl⟩
  obtain ⟨m, hm⟩ : ∃ m, Go.bits .and .i64 many 255 = m := ⟨_, rfl⟩
  have hn0 : 0 ≤ n ∧ n < 64 := by rw [and63] at hn; omega
  have hm0 : 0 ≤ m ∧ m < 256 := by rw [and255] at hm; omega
  go_enter Try.func3, Try.ntmps3
  go_wp2_with fail
  refine (new_at (w0 := w) 4 _ (Below.refl _ _) (by decide) (by decide)).mono ?_
  rintro e w1 ⟨g, rfl, h1, hb1⟩
  have H1 := Aside0.mk h1
  clear h1 hb1
  go_wp2_with fail
  refine (fuse_at H1.out n (by omega)).mono ?_
  rintro e w2 ⟨rfl, h2, _⟩
  have H2 := Aside0.mk h2
  clear h2 H1 hn
  go_wp2_with fail
  have hBB : m % 61 = ((m % 61).toNat : Int) := by omega
  obtain ⟨B, hB⟩ : ∃ B, (m % 61).toNat = B := ⟨_, rfl⟩
  rw [hB] at hBB
  have hB61 : B < 61 := by omega
  have hBt : m.tmod 61 = (B : Int) := by rw [Int.tmod_eq_emod_of_nonneg hm0.1]; exact hBB
  clear hB
  go_loopw [10] (fun v10 wr => ∃ i : Nat, v10 = .int .i64 (i : Int) ∧ i ≤ B ∧ ∃ D, Aside0 (At w wr (fun k => w.heap.size ≤ k) g D) ∧ Aside0 (Fz n i D)) (fun v10 _ => B - (intOf v10).toNat)
  case atStart => exact ⟨0, rfl, Nat.zero_le _, _, H2, ⟨fuse_start n hn0.1⟩⟩
  case round =>
    obtain ⟨i, rfl, hi, D, H, HF⟩ := hrel
    clear H2
    by_cases hiB : i < B
    · have hd : decide ((i : Int) < (B : Int)) = true := decide_eq_true (by omega)
      have hi63 : Go.bits .and .i64 (i : Int) 63 = (i : Int) := by rw [and63]; omega
      obtain ⟨a, ha⟩ : ∃ a, Go.bits .and .i64 (i : Int) 3 = a := ⟨_, rfl⟩
      have ha0 : 0 ≤ a ∧ a < 4 := by rw [and3] at ha; omega
      obtain ⟨b, hb⟩ : ∃ b, (Go.bits .and .i64 (syncs / 2 ^ i) 1 == 1) = b := ⟨_, rfl⟩
      have hfew := HF.out.few
      have hdn : decide ((i : Int) < n) = true ∨ decide ((i : Int) < n) = false := by cases decide ((i : Int) < n) <;> simp
      cases b with
      | true =>
        go_wp2_with fail
        refine (sync_at H.out).mono ?_
        obtain ⟨e1, e2, e3⟩ := HF.out.sync
        rintro e w3 ⟨rfl, h3, _⟩
        rw [e1]
        have H3 := Aside0.mk h3
        have HF3 := Aside0.mk e2
        have HE3 := Aside0.mk e3
        clear h3 e1 e2 e3 hb ha ha0 hfew H HF
        by_cases hin : (i : Int) < n
        · have hin1 : decide ((i : Int) < n) = true := decide_eq_true hin
          have hin2 : decide (n ≤ (i : Int)) = false := decide_eq_false (by omega)
          rw [if_pos hin]
          rw [hin2] at HE3
          clear hin hdn
          go_wp2_with fail
          refine (off_at H3.out).mono ?_
          rintro e w5 ⟨rfl, rfl⟩
          rw [HE3.out]
          go_wp2_with fail
          exact ⟨⟨i + 1, by simp, by omega, _, H3, HF3⟩, by simp [intOf]; omega⟩
        · have hin1 : decide ((i : Int) < n) = false := decide_eq_false hin
          have hin2 : decide (n ≤ (i : Int)) = true := decide_eq_true (by omega)
          rw [if_neg hin]
          rw [hin2] at HE3
          clear hin hdn
          go_wp2_with fail
          refine (off_at H3.out).mono ?_
          rintro e w5 ⟨rfl, rfl⟩
          rw [HE3.out]
          go_wp2_with fail
          exact ⟨⟨i + 1, by simp, by omega, _, H3, HF3⟩, by simp [intOf]; omega⟩
      | false =>
        go_wp2_with fail
        refine (filled_at 119 _).mono ?_
        rintro e w4 ⟨rfl, hb4⟩
        have H4 := Aside0.mk (H.out.step hb4)
        clear hb4 H
        go_wp2_with fail
        refine (write_at H4.out a (filledB 119) (by rw [filledB_size]; decide) (by omega)).mono ?_
        obtain ⟨e1, e2, e3⟩ := HF.out.write a (filledB 119) ha0.1 ha0.2 (filledB_size 119)
        rintro e w3 ⟨rfl, h3, _⟩
        rw [e1]
        have H3 := Aside0.mk h3.wide
        have HF3 := Aside0.mk e2
        have HE3 := Aside0.mk e3
        clear h3 e1 e2 e3 hb ha ha0 hfew H4 HF
        by_cases hin : (i : Int) < n
        · have hin1 : decide ((i : Int) < n) = true := decide_eq_true hin
          have hin2 : decide (n ≤ (i : Int)) = false := decide_eq_false (by omega)
          rw [if_pos hin]
          rw [hin2] at HE3
          clear hin hdn
          go_wp2_with fail
          refine (off_at H3.out).mono ?_
          rintro e w5 ⟨rfl, rfl⟩
          rw [HE3.out]
          go_wp2_with fail
          exact ⟨⟨i + 1, by simp, by omega, _, H3, HF3⟩, by simp [intOf]; omega⟩
        · have hin1 : decide ((i : Int) < n) = false := decide_eq_false hin
          have hin2 : decide (n ≤ (i : Int)) = true := decide_eq_true (by omega)
          rw [if_neg hin]
          rw [hin2] at HE3
          clear hin hdn
          go_wp2_with fail
          refine (off_at H3.out).mono ?_
          rintro e w5 ⟨rfl, rfl⟩
          rw [HE3.out]
          go_wp2_with fail
          exact ⟨⟨i + 1, by simp, by omega, _, H3, HF3⟩, by simp [intOf]; omega⟩
    · obtain rfl : i = B := by omega
      have hd : decide ((i : Int) < (i : Int)) = false := decide_eq_false (by omega)
      go_wp2_with fail
      refine (crash_at H.out none 0 [] (Kd.F_nil _ _ _) (by decide)).mono ?_
      rintro e w3 ⟨rfl, h3, _⟩
      have H3 := Aside0.mk h3
      have hc := fun s hs => crash_then HF.out.four s hs
      have HC := Aside0.mk hc
      clear h3 H hc
      go_wp2_with fail
      refine (off_at H3.out).mono ?_
      rintro e w4 ⟨rfl, rfl⟩
      rw [(HC.out (filledB 120) (filledB_size 120)).1]
      go_wp2_with fail
      refine (filled_at 120 _).mono ?_
      rintro e w5 ⟨rfl, hb5⟩
      have H5 := Aside0.mk (H3.out.step hb5)
      clear hb5 H3
      go_wp2_with fail
      refine (write_at H5.out 0 (filledB 120) (by rw [filledB_size]; decide) (by rw [(HC.out (filledB 120) (filledB_size 120)).2.2]; decide)).mono ?_
      rintro e w6 ⟨rfl, h6, _⟩
      rw [(HC.out (filledB 120) (filledB_size 120)).2.1]
      have H6 := Aside0.mk h6.wide
      clear h6 H5
      go_wp2_with fail
      refine (awake04 _).mono ?_
      rintro e w7 ⟨rfl, hb7⟩
      go_wp2_with fail
      go_ret
      exact ⟨rfl, below_then H6.out.below H6.out.below.size hb7⟩
end Go.Proofs.Ytgjclhhjigflkab.Dev
