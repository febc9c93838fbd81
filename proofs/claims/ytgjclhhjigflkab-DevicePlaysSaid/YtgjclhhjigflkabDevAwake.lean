/- The walk of law 04's filled and awake. -/
import Derived.Test.YtgjclhhjigflkabDevAt
import Derived.Test.YtgjclhhjigflkabDx1
namespace Go.Proofs.Ytgjclhhjigflkab.Dev
open Go Go.RowKit Go.Proofs.Ytgjclhhjigflkab.D Go.Proofs.Ytgjclhhjigflkab.MyWords Go.Proofs.Ytgjclhhjigflkab.Hand Go.Proofs.YtgjclhhjigflkabW.PrintWords Go.Proofs.YtgjclhhjigflkabW.PrintLast Go.Proofs.YtgjclhhjigflkabW.PrintMore
set_option linter.unusedVariables false
set_option linter.unusedSimpArgs false
def filledB (c : Int) : ByteArray := strOfNums (List.replicate 128 c)
theorem filledB_size (c : Int) : (filledB c).size = 128 := by unfold filledB; rw [strOfNums_size, List.length_replicate]
theorem set_rep (c : Int) (i d : Nat) : (List.replicate i c ++ List.replicate (d + 1) 0).set i c = List.replicate (i + 1) c ++ List.replicate d 0 := by
  rw [List.set_append_right _ _ (by simp), List.length_replicate, Nat.sub_self, List.replicate_succ, List.set_cons_zero, List.replicate_succ']
  simp
theorem filled_l0 (c : Int) : ∀ (d i : Nat), i + d = 128 → peristylelaw04_filled.l0 (d + 1) c (List.replicate i c ++ List.replicate d 0) (i : Int) = some (filledB c) := by
  intro d
  induction d with
  | zero =>
    intro i hi
    obtain rfl : i = 128 := by omega
    rw [peristylelaw04_filled.l0, if_neg (by decide)]
    simp [filledB]
  | succ d ih =>
    intro i hi
    have hw : wrap64 ((i : Int) + 1) = ((i + 1 : Nat) : Int) := by unfold wrap64; omega
    rw [peristylelaw04_filled.l0, if_pos (by omega), if_pos (by omega), if_pos (by simp; omega), Int.toNat_natCast, set_rep, hw]
    exact ih (i + 1) (by omega)
theorem filled_is (c : Int) : peristylelaw04_filled.f 129 c = some (filledB c) := by
  unfold peristylelaw04_filled.f
  rw [if_pos (by decide)]
  have := filled_l0 c 128 0 rfl
  simpa using this
theorem filled_at (c : Int) (w : World) : Calls Try.prog 19 #[.int .u8 c] w fun e w' => e = .returned (.string (filledB c)) ∧ Below w.heap.size w w' := peristylelaw04_filled.calls 129 c _ w (filled_is c)
theorem At.bound {w0 w : World} {g : Nat} {D : DS} {ok : Nat → Prop} (h : At w0 w ok g D) : At w0 w (fun k => ok k ∧ k < w.heap.size) g D := ⟨h.dev.bound, fun k hk => h.new k hk.1, h.below⟩
theorem keep_lit (w : World) (xs : List Int) (t : Nat) (hm : xs.length ≤ 9223372036854775807) : Kd.F (Kd.int .i64) (w.alloc (.cells (xs.map (Value.int .i64)).toArray t)) (fun k => k = w.heap.size) (some ⟨w.heap.size, 0, none⟩) xs.length xs := by
  intro W' hW
  refine ⟨rfl, hm, fun hn => ⟨_, rfl, fun j p hj => ⟨[.int .i64 p], rfl, ?_, ?_⟩⟩⟩
  · show [Value.int .i64 p] = [Value.int .i64 p]
    rfl
  · intro i u hu
    have hi : i = 0 := by have := (List.getElem?_eq_some_iff.1 hu).1; simp at this; omega
    subst hi
    have eh : (w.alloc (.cells (xs.map (Value.int .i64)).toArray t)).heap = w.heap.push (.cells (xs.map (Value.int .i64)).toArray t) := rfl
    have hlt : w.heap.size < (w.alloc (.cells (xs.map (Value.int .i64)).toArray t)).heap.size := by rw [eh]; simp
    have h1 := hW w.heap.size rfl hlt
    rw [eh] at h1
    simp at h1
    have e1 : (Kd.int IntKind.i64).sz = 1 := rfl
    simp at hu
    subst hu
    have e2 : (⟨w.heap.size, 0, none⟩ : Addr).add (j * (Kd.int IntKind.i64).sz + 0) = ⟨w.heap.size, j, none⟩ := by
      rw [e1]
      unfold Addr.add
      by_cases hj0 : j = 0
      · subst hj0; rfl
      · simp [hj0]
    rw [e2]
    simp [World.cell?, h1, hj]
theorem awake_plain (a b c : ByteArray) (ha : a.size = 128) (hb : b.size = 128) (hc : c.size = 128) :
    (crashD (writeD (writeD (syncD (writeD (newD (3 : Int).toNat) 1 a).1).1 1 b).1 2 c).1 [1]) = ⟨[zeroB, a, c], [], -1, false⟩ := by
  have e0 : newD (3 : Int).toNat = ⟨[zeroB, zeroB, zeroB], [], -1, false⟩ := rfl
  rw [e0]
  simp [writeD, syncD, doesD, crashD, keptD, hasD, putW, ha, hb, hc]
set_option maxHeartbeats 2000000 in
set_option maxRecDepth 100000 in
theorem awake04 (w : World) : Calls Try.prog 22 #[] w fun e w' => e = .returned (.bool true) ∧ Below w.heap.size w w' := by
  go_enter Try.func22, Try.ntmps22
  go_wp2_with fail
  refine (new_at (w0 := w) 3 _ (Below.refl _ _) (by decide) (by decide)).mono ?_
  rintro e w1 ⟨g, rfl, h1, hb1⟩
  have H1 := Aside0.mk h1
  clear h1 hb1
  go_wp2_with fail
  refine (filled_at 97 _).mono ?_
  rintro e w2 ⟨rfl, hb⟩
  obtain ⟨sa, hsa⟩ : ∃ s, filledB 97 = s := ⟨_, rfl⟩
  rw [hsa]
  have HSA := Aside0.mk hsa
  have H2 := Aside0.mk (H1.out.step hb)
  clear hb hsa H1
  go_wp2_with fail
  refine (write_at H2.out 1 sa (by rw [← HSA.out, filledB_size]; decide) (by decide)).mono ?_
  have e3 : (writeD (newD (3 : Int).toNat) 1 sa).2 = 0 := by rw [← HSA.out]; decide +kernel
  rintro e w3 ⟨rfl, h, _⟩
  rw [e3]
  have H3 := Aside0.mk h.wide
  clear h e3 H2
  go_wp2_with fail
  refine (sync_at H3.out).mono ?_
  have e4 : (syncD (writeD (newD (3 : Int).toNat) 1 sa).1).2 = 0 := by rw [← HSA.out]; decide +kernel
  rintro e w4 ⟨rfl, h, _⟩
  rw [e4]
  have H4 := Aside0.mk h
  clear h e4 H3
  go_wp2_with fail
  refine (filled_at 98 _).mono ?_
  rintro e w5 ⟨rfl, hb⟩
  obtain ⟨sb, hsb⟩ : ∃ s, filledB 98 = s := ⟨_, rfl⟩
  rw [hsb]
  have HSB := Aside0.mk hsb
  have H5 := Aside0.mk (H4.out.step hb)
  clear hb hsb H4
  go_wp2_with fail
  refine (write_at H5.out 1 sb (by rw [← HSB.out, filledB_size]; decide) (by rw [← HSA.out]; decide +kernel)).mono ?_
  have e6 : (writeD (syncD (writeD (newD (3 : Int).toNat) 1 sa).1).1 1 sb).2 = 0 := by rw [← HSA.out, ← HSB.out]; decide +kernel
  rintro e w6 ⟨rfl, h, _⟩
  rw [e6]
  have H6 := Aside0.mk h.wide
  clear h e6 H5
  go_wp2_with fail
  refine (filled_at 99 _).mono ?_
  rintro e w7 ⟨rfl, hb⟩
  obtain ⟨sc, hsc⟩ : ∃ s, filledB 99 = s := ⟨_, rfl⟩
  rw [hsc]
  have HSC := Aside0.mk hsc
  have H7 := Aside0.mk (H6.out.step hb)
  clear hb hsc H6
  go_wp2_with fail
  refine (write_at H7.out 2 sc (by rw [← HSC.out, filledB_size]; decide) (by rw [← HSA.out, ← HSB.out]; decide +kernel)).mono ?_
  have e8 : (writeD (writeD (syncD (writeD (newD (3 : Int).toNat) 1 sa).1).1 1 sb).1 2 sc).2 = 0 := by rw [← HSA.out, ← HSB.out, ← HSC.out]; decide +kernel
  rintro e w8 ⟨rfl, h, _⟩
  rw [e8]
  have H8 := Aside0.mk h.wide
  clear h e8 H7
  go_wp2_with fail
  have hk0 := keep_lit w8 [1] 3 (by decide)
  refine (crash_at (H8.out.bound.step (below_alloc (Below.refl _ _) _)) (some ⟨w8.heap.size, 0, none⟩) 1 [1] (Kd.F_mono hk0 (fun k hk hn => by have := hn.2; omega)) (by decide)).mono ?_
  rintro e w9 ⟨rfl, h, _⟩
  rw [awake_plain sa sb sc (by rw [← HSA.out, filledB_size]) (by rw [← HSB.out, filledB_size]) (by rw [← HSC.out, filledB_size])] at h
  have H9 := Aside0.mk h
  clear h H8
  go_wp2_with fail
  refine (read_at H9.out 1).mono ?_
  rintro e w10 ⟨rfl, h, _⟩
  have H10 := Aside0.mk h
  rw [show readD (⟨[zeroB, sa, sc], [], -1, false⟩ : DS) 1 = (sa, 0) from rfl]
  clear h H9
  go_wp2_with fail
  refine (read_at H10.out 2).mono ?_
  rintro e w11 ⟨rfl, h, _⟩
  have H11 := Aside0.mk h
  rw [show readD (⟨[zeroB, sa, sc], [], -1, false⟩ : DS) 2 = (sc, 0) from rfl]
  clear h H10
  go_wp2_with fail
  refine (filled_at 97 _).mono ?_
  rintro e w12 ⟨rfl, hb⟩
  rw [HSA.out]
  have H12 := Aside0.mk (H11.out.step hb)
  clear hb H11
  go_wp2_with fail
  refine (filled_at 99 _).mono ?_
  rintro e w13 ⟨rfl, hb⟩
  rw [HSC.out]
  have H13 := Aside0.mk (H12.out.step hb)
  clear hb H12
  go_wp2_with fail
  refine (size_at H13.out).mono ?_
  rintro e w14 ⟨rfl, rfl⟩
  go_wp2_with fail
  go_ret
  exact ⟨rfl, H13.out.below⟩
end Go.Proofs.Ytgjclhhjigflkab.Dev
