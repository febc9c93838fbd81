/- Two devices and three rows of the law's own, in memory. -/
import Derived.Test.YtgjclhhjigflkabDevSurePlain
namespace Go.Proofs.Ytgjclhhjigflkab.Dev
open Go Go.RowKit Go.Proofs.Ytgjclhhjigflkab.MyWords Go.Proofs.Ytgjclhhjigflkab.Hand Go.Proofs.YtgjclhhjigflkabW.PrintWords Go.Proofs.YtgjclhhjigflkabW.PrintLast Go.Proofs.YtgjclhhjigflkabW.PrintMore
set_option linter.unusedVariables false
set_option linter.unusedSimpArgs false
abbrev T8 : Nat := 34
abbrev U8 : Nat := 35
def byts (l : List Int) : Array Value := (l.map (Value.int .u8)).toArray
def bols (l : List Bool) : Array Value := (l.map Value.bool).toArray
theorem byts_size (l : List Int) : (byts l).size = l.length := by simp [byts]
theorem bols_size (l : List Bool) : (bols l).size = l.length := by simp [bols]
theorem byts_one (l : List Int) : (byts l).all (·.oneCell') = true := all_one (by intro u hu; simp only [List.mem_map] at hu; obtain ⟨x, _, rfl⟩ := hu; rfl)
theorem bols_one (l : List Bool) : (bols l).all (·.oneCell') = true := all_one (by intro u hu; simp only [List.mem_map] at hu; obtain ⟨x, _, rfl⟩ := hu; rfl)
theorem byts_set (l : List Int) (i : Nat) (c : Int) : (byts l).setIfInBounds i (.int .u8 c) = byts (l.set i c) := by simp [byts, List.map_set]
theorem bols_set (l : List Bool) (i : Nat) (c : Bool) : (bols l).setIfInBounds i (.bool c) = bols (l.set i c) := by simp [bols, List.map_set]
theorem byts_at (l : List Int) (i : Nat) (h : i < l.length) : (byts l)[i]? = some (.int .u8 (l.getD i 0)) := by simp [byts, List.getD_eq_getElem?_getD, h]
theorem bols_at (l : List Bool) (i : Nat) (h : i < l.length) : (bols l)[i]? = some (.bool (l.getD i false)) := by simp [bols, List.getD_eq_getElem?_getD, h]
section
variable {e : Operand → Value} {o : Oper} (W : World)
theorem run_alloc_8 (ho : o.op = .alloc T8) : (execOp e o).run Try.prog W = .ok (.value (.pointer (some ⟨W.heap.size, 0, none⟩))) (W.alloc (.cells (byts (List.replicate 8 0)) T8 (0, 0))) := by
  unfold execOp
  simp only [ho]
  kernel_rfl
theorem run_build_8 (ho : o.op = .build T8 #[]) : (execOp e o).run Try.prog W = .ok (.value (.agg (byts (List.replicate 8 0)))) W := by
  unfold execOp
  simp only [ho]
  kernel_rfl
theorem run_alloc_u (ho : o.op = .alloc U8) : (execOp e o).run Try.prog W = .ok (.value (.pointer (some ⟨W.heap.size, 0, none⟩))) (W.alloc (.cells (bols (List.replicate 8 false)) U8 (0, 0))) := by
  unfold execOp
  simp only [ho]
  kernel_rfl
theorem run_build_u (ho : o.op = .build U8 #[]) : (execOp e o).run Try.prog W = .ok (.value (.agg (bols (List.replicate 8 false)))) W := by
  unfold execOp
  simp only [ho]
  kernel_rfl
end
theorem info_8 : (Try.prog.info? T8).map (·.size) = some 8 := by kernel_rfl
theorem info_u : (Try.prog.info? U8).map (·.size) = some 8 := by kernel_rfl
/-- two devices, whose blocks are apart, and three rows that are neither's -/
structure Two (w0 w : World) (g h p q r : Nat) (okd okc : Nat → Prop) (D C : DS) (sure last : List Int) (tou : List Bool) : Prop where
  d : At w0 w okd g D
  c : At w0 w okc h C
  apart : ∀ k, okd k → ¬ okc k
  bd : ∀ k, okd k → k < w.heap.size
  bc : ∀ k, okc k → k < w.heap.size
  od : ¬ okd p ∧ ¬ okd q ∧ ¬ okd r
  oc : ¬ okc p ∧ ¬ okc q ∧ ¬ okc r
  ne : p ≠ q ∧ p ≠ r ∧ q ≠ r
  low : w0.heap.size ≤ p ∧ w0.heap.size ≤ q ∧ w0.heap.size ≤ r
  hp : w.heap[p]? = some (.cells (byts sure) T8 (0, 0))
  hq : w.heap[q]? = some (.cells (byts last) T8 (0, 0))
  hr : w.heap[r]? = some (.cells (bols tou) U8 (0, 0))
def Sv (w0 w : World) (g h p q r : Nat) (D C : DS) (sure last : List Int) (tou : List Bool) : Prop := ∃ okd okc, Two w0 w g h p q r okd okc D C sure last tou
section
variable {w0 w w1 : World} {g h p q r : Nat} {okd okc : Nat → Prop} {D C : DS} {sure last : List Int} {tou : List Bool}
theorem lt_of_blk {W : World} {k : Nat} {o : Obj} (h : W.heap[k]? = some o) : k < W.heap.size := (Array.getElem?_eq_some_iff.1 h).1
theorem Two.lts (H : Two w0 w g h p q r okd okc D C sure last tou) : p < w.heap.size ∧ q < w.heap.size ∧ r < w.heap.size := ⟨lt_of_blk H.hp, lt_of_blk H.hq, lt_of_blk H.hr⟩
theorem Two.step (H : Two w0 w g h p q r okd okc D C sure last tou) (hb : Below w.heap.size w w1) : Two w0 w1 g h p q r okd okc D C sure last tou := by
  obtain ⟨l1, l2, l3⟩ := H.lts
  exact ⟨H.d.step hb, H.c.step hb, H.apart, fun k hk => Nat.lt_of_lt_of_le (H.bd k hk) hb.size, fun k hk => Nat.lt_of_lt_of_le (H.bc k hk) hb.size, H.od, H.oc, H.ne, H.low,
    (hb.block p l1).trans H.hp, (hb.block q l2).trans H.hq, (hb.block r l3).trans H.hr⟩
theorem Sv.step (H : Sv w0 w g h p q r D C sure last tou) (hb : Below w.heap.size w w1) : Sv w0 w1 g h p q r D C sure last tou := by
  obtain ⟨a, b, H⟩ := H
  exact ⟨a, b, H.step hb⟩
/-- the first device has turned -/
theorem Two.left {okd' : Nat → Prop} {D1 : DS} (H : Two w0 w g h p q r okd okc D C sure last tou) (hd : At w0 w1 okd' g D1) (ho : ∀ k, okd' k → okd k ∨ w.heap.size ≤ k) (hc : Chg w w1 okd) :
    Two w0 w1 g h p q r (fun k => okd' k ∧ k < w1.heap.size) okc D1 C sure last tou := by
  obtain ⟨l1, l2, l3⟩ := H.lts
  have hn : ∀ k, k < w.heap.size → ¬ okd k → ¬ okd' k := fun k hk hn hk' => by rcases ho k hk' with h1 | h1; exact hn h1; omega
  refine ⟨hd.bound, ⟨H.c.dev.other hc (fun k hk hd => H.apart k hd hk), H.c.new, hd.below⟩, ?_, fun k hk => hk.2, fun k hk => Nat.lt_of_lt_of_le (H.bc k hk) hc.size,
    ⟨fun hk => hn p l1 H.od.1 hk.1, fun hk => hn q l2 H.od.2.1 hk.1, fun hk => hn r l3 H.od.2.2 hk.1⟩, H.oc, H.ne, H.low,
    (hc.block p l1 H.od.1).trans H.hp, (hc.block q l2 H.od.2.1).trans H.hq, (hc.block r l3 H.od.2.2).trans H.hr⟩
  intro k hk hkc
  exact hn k (H.bc k hkc) (fun hd => H.apart k hd hkc) hk.1
/-- the other device has turned -/
theorem Two.right {okc' : Nat → Prop} {C1 : DS} (H : Two w0 w g h p q r okd okc D C sure last tou) (hd : At w0 w1 okc' h C1) (ho : ∀ k, okc' k → okc k ∨ w.heap.size ≤ k) (hc : Chg w w1 okc) :
    Two w0 w1 g h p q r okd (fun k => okc' k ∧ k < w1.heap.size) D C1 sure last tou := by
  obtain ⟨l1, l2, l3⟩ := H.lts
  have hn : ∀ k, k < w.heap.size → ¬ okc k → ¬ okc' k := fun k hk hn hk' => by rcases ho k hk' with h1 | h1; exact hn h1; omega
  refine ⟨⟨H.d.dev.other hc H.apart, H.d.new, hd.below⟩, hd.bound, ?_, fun k hk => Nat.lt_of_lt_of_le (H.bd k hk) hc.size, fun k hk => hk.2,
    H.od, ⟨fun hk => hn p l1 H.oc.1 hk.1, fun hk => hn q l2 H.oc.2.1 hk.1, fun hk => hn r l3 H.oc.2.2 hk.1⟩, H.ne, H.low,
    (hc.block p l1 H.oc.1).trans H.hp, (hc.block q l2 H.oc.2.1).trans H.hq, (hc.block r l3 H.oc.2.2).trans H.hr⟩
  intro k hk hkc
  exact hn k (H.bd k hk) (H.apart k hk) hkc.1
/-- nothing but block b, a row of the law's own, has turned -/
theorem Two.keep (H : Two w0 w g h p q r okd okc D C sure last tou) {b : Nat} (hb : b = p ∨ b = q ∨ b = r) (hs : w1.heap.size = w.heap.size) (ho : ∀ k, k ≠ b → w1.heap[k]? = w.heap[k]?) (hbe : Below w0.heap.size w0 w1) :
    At w0 w1 okd g D ∧ At w0 w1 okc h C ∧ (∀ k, okd k → k < w1.heap.size) ∧ (∀ k, okc k → k < w1.heap.size) := by
  have h1 : ¬ okd b := by rcases hb with rfl | rfl | rfl; exact H.od.1; exact H.od.2.1; exact H.od.2.2
  have h2 : ¬ okc b := by rcases hb with rfl | rfl | rfl; exact H.oc.1; exact H.oc.2.1; exact H.oc.2.2
  exact ⟨⟨H.d.dev.step (fun k hk _ => ho k (fun e => h1 (e ▸ hk))), H.d.new, hbe⟩, ⟨H.c.dev.step (fun k hk _ => ho k (fun e => h2 (e ▸ hk))), H.c.new, hbe⟩, fun k hk => by rw [hs]; exact H.bd k hk, fun k hk => by rw [hs]; exact H.bc k hk⟩
theorem Sv.setP (H : Sv w0 w g h p q r D C sure last tou) {s : List Int} (hr : RowSet w w1 p (byts s) T8) : Sv w0 w1 g h p q r D C s last tou := by
  obtain ⟨a, b, H⟩ := H
  obtain ⟨k1, k2, k3, k4⟩ := H.keep (.inl rfl) hr.size hr.other (hr.below H.d.below H.low.1)
  exact ⟨a, b, k1, k2, H.apart, k3, k4, H.od, H.oc, H.ne, H.low, hr.at_, (hr.other q (Ne.symm H.ne.1)).trans H.hq, (hr.other r (Ne.symm H.ne.2.1)).trans H.hr⟩
theorem Sv.setR (H : Sv w0 w g h p q r D C sure last tou) {s : List Bool} (hr : RowSet w w1 r (bols s) U8) : Sv w0 w1 g h p q r D C sure last s := by
  obtain ⟨a, b, H⟩ := H
  obtain ⟨k1, k2, k3, k4⟩ := H.keep (.inr (.inr rfl)) hr.size hr.other (hr.below H.d.below H.low.2.2)
  exact ⟨a, b, k1, k2, H.apart, k3, k4, H.od, H.oc, H.ne, H.low, (hr.other p H.ne.2.1).trans H.hp, (hr.other q H.ne.2.2).trans H.hq, hr.at_⟩
theorem Sv.cellQ (H : Sv w0 w g h p q r D C sure last tou) (i : Nat) (c : Int) : Sv w0 (w.setCell ⟨q, i, none⟩ (.int .u8 c)) g h p q r D C sure (last.set i c) tou := by
  obtain ⟨a, b, H⟩ := H
  have hr := cellSet_mk (i := i) (v := .int .u8 c) H.hq
  obtain ⟨k1, k2, k3, k4⟩ := H.keep (.inr (.inl rfl)) hr.size hr.other (hr.below H.d.below H.low.2.1)
  exact ⟨a, b, k1, k2, H.apart, k3, k4, H.od, H.oc, H.ne, H.low, (hr.other p H.ne.1).trans H.hp, by rw [hr.at_, byts_set], (hr.other r (Ne.symm H.ne.2.2)).trans H.hr⟩
theorem Sv.cellR (H : Sv w0 w g h p q r D C sure last tou) (i : Nat) (c : Bool) : Sv w0 (w.setCell ⟨r, i, none⟩ (.bool c)) g h p q r D C sure last (tou.set i c) := by
  obtain ⟨a, b, H⟩ := H
  have hr := cellSet_mk (i := i) (v := .bool c) H.hr
  obtain ⟨k1, k2, k3, k4⟩ := H.keep (.inr (.inr rfl)) hr.size hr.other (hr.below H.d.below H.low.2.2)
  exact ⟨a, b, k1, k2, H.apart, k3, k4, H.od, H.oc, H.ne, H.low, (hr.other p H.ne.2.1).trans H.hp, (hr.other q H.ne.2.2).trans H.hq, by rw [hr.at_, bols_set]⟩
theorem Sv.atP (H : Sv w0 w g h p q r D C sure last tou) : w.heap[p]? = some (.cells (byts sure) T8 (0, 0)) := by obtain ⟨a, b, H⟩ := H; exact H.hp
theorem Sv.atQ (H : Sv w0 w g h p q r D C sure last tou) : w.heap[q]? = some (.cells (byts last) T8 (0, 0)) := by obtain ⟨a, b, H⟩ := H; exact H.hq
theorem Sv.atR (H : Sv w0 w g h p q r D C sure last tou) : w.heap[r]? = some (.cells (bols tou) U8 (0, 0)) := by obtain ⟨a, b, H⟩ := H; exact H.hr
theorem Sv.loadQ (H : Sv w0 w g h p q r D C sure last tou) (j : Nat) (v : Value) (hv : (last.map (Value.int .u8))[j]? = some v) : w.cell? ((⟨q, 0, none⟩ : Addr).add j) = some v := by
  rw [show (⟨q, 0, none⟩ : Addr).add j = ⟨q, j, none⟩ from by unfold Addr.add; by_cases hj : j = 0; (subst hj; rfl); simp [hj], cell_of_row w q j _ _ _ H.atQ]
  simpa [byts] using hv
theorem Sv.cQ (H : Sv w0 w g h p q r D C sure last tou) (i : Nat) (hi : i < last.length) : w.cell? ⟨q, i, none⟩ = some (.int .u8 (last.getD i 0)) := (cell_of_row w q i _ _ _ H.atQ).trans (byts_at _ _ hi)
theorem Sv.cP (H : Sv w0 w g h p q r D C sure last tou) (i : Nat) (hi : i < sure.length) : w.cell? ⟨p, i, none⟩ = some (.int .u8 (sure.getD i 0)) := (cell_of_row w p i _ _ _ H.atP).trans (byts_at _ _ hi)
theorem Sv.cR (H : Sv w0 w g h p q r D C sure last tou) (i : Nat) (hi : i < tou.length) : w.cell? ⟨r, i, none⟩ = some (.bool (tou.getD i false)) := (cell_of_row w r i _ _ _ H.atR).trans (bols_at _ _ hi)
theorem Sv.qr (H : Sv w0 w g h p q r D C sure last tou) : q ≠ r := by obtain ⟨a, b, H⟩ := H; exact H.ne.2.2
theorem Sv.belo (H : Sv w0 w g h p q r D C sure last tou) : Below w0.heap.size w0 w := by obtain ⟨a, b, H⟩ := H; exact H.d.below
/-! calls -/
theorem sv_write_d (H : Sv w0 w g h p q r D C sure last tou) (a : Int) (s : ByteArray) (hs : s.size ≤ 9223372036854775807) (hl : D.wait.length ≤ 1000000) : Calls Try.prog 18 #[.pointer (some ⟨g, 0, none⟩), .int .i64 a, .string s] w fun e w' => e = .returned (.int .i64 (writeD D a s).2) ∧ Sv w0 w' g h p q r (writeD D a s).1 C sure last tou := by
  obtain ⟨x, y, H⟩ := H
  refine (write_at H.d a s hs hl).mono ?_
  rintro e w' ⟨rfl, h1, h2⟩
  exact ⟨rfl, _, _, H.left h1 (fun _ hk => hk) h2⟩
theorem sv_write_c (H : Sv w0 w g h p q r D C sure last tou) (a : Int) (s : ByteArray) (hs : s.size ≤ 9223372036854775807) (hl : C.wait.length ≤ 1000000) : Calls Try.prog 18 #[.pointer (some ⟨h, 0, none⟩), .int .i64 a, .string s] w fun e w' => e = .returned (.int .i64 (writeD C a s).2) ∧ Sv w0 w' g h p q r D (writeD C a s).1 sure last tou := by
  obtain ⟨x, y, H⟩ := H
  refine (write_at H.c a s hs hl).mono ?_
  rintro e w' ⟨rfl, h1, h2⟩
  exact ⟨rfl, _, _, H.right h1 (fun _ hk => hk) h2⟩
theorem sv_sync_d (H : Sv w0 w g h p q r D C sure last tou) : Calls Try.prog 17 #[.pointer (some ⟨g, 0, none⟩)] w fun e w' => e = .returned (.int .i64 (syncD D).2) ∧ Sv w0 w' g h p q r (syncD D).1 C sure last tou := by
  obtain ⟨x, y, H⟩ := H
  refine (sync_at H.d).mono ?_
  rintro e w' ⟨rfl, h1, h2⟩
  exact ⟨rfl, _, _, H.left h1 (fun _ hk => .inl hk) h2⟩
theorem sv_sync_c (H : Sv w0 w g h p q r D C sure last tou) : Calls Try.prog 17 #[.pointer (some ⟨h, 0, none⟩)] w fun e w' => e = .returned (.int .i64 (syncD C).2) ∧ Sv w0 w' g h p q r D (syncD C).1 sure last tou := by
  obtain ⟨x, y, H⟩ := H
  refine (sync_at H.c).mono ?_
  rintro e w' ⟨rfl, h1, h2⟩
  exact ⟨rfl, _, _, H.right h1 (fun _ hk => .inl hk) h2⟩
/-- a crash: what is kept was told before the call -/
theorem sv_crash_d (H : Sv w0 w g h p q r D C sure last tou) (A0 : Option Addr) (c0 : Nat) (keep : List Int) (hk : Kd.F (Kd.int .i64) w (fun k => k < w0.heap.size) A0 keep.length keep) (hl : keep.length ≤ 9223372036854775807) :
    Calls Try.prog 21 #[.pointer (some ⟨g, 0, none⟩), .slice A0 keep.length c0] w fun e w' => e = .returned (.int .i64 0) ∧ Sv w0 w' g h p q r (crashD D keep) C sure last tou := by
  obtain ⟨x, y, H⟩ := H
  refine (crash_at H.d A0 c0 keep (Kd.F_mono hk (fun k hk hn => by have := H.d.new k hn; omega)) hl).mono ?_
  rintro e w' ⟨rfl, h1, h2⟩
  exact ⟨rfl, _, _, H.left h1 (fun _ hk => .inl hk) h2⟩
theorem sv_read_d (H : Sv w0 w g h p q r D C sure last tou) (a : Int) : Calls Try.prog 24 #[.pointer (some ⟨g, 0, none⟩), .int .i64 a] w fun e w' => e = .returned (.tuple #[.string (readD D a).1, .int .i64 (readD D a).2]) ∧ Sv w0 w' g h p q r D C sure last tou := by
  obtain ⟨x, y, H⟩ := H
  refine (read_at H.d a).mono ?_
  rintro e w' ⟨rfl, h1, h2⟩
  exact ⟨rfl, _, _, H.step h2⟩
theorem sv_read_c (H : Sv w0 w g h p q r D C sure last tou) (a : Int) : Calls Try.prog 24 #[.pointer (some ⟨h, 0, none⟩), .int .i64 a] w fun e w' => e = .returned (.tuple #[.string (readD C a).1, .int .i64 (readD C a).2]) ∧ Sv w0 w' g h p q r D C sure last tou := by
  obtain ⟨x, y, H⟩ := H
  refine (read_at H.c a).mono ?_
  rintro e w' ⟨rfl, h1, h2⟩
  exact ⟨rfl, _, _, H.step h2⟩
theorem sv_off_d (H : Sv w0 w g h p q r D C sure last tou) : Calls Try.prog 20 #[.pointer (some ⟨g, 0, none⟩)] w fun e w' => e = .returned (.bool D.off) ∧ w = w' := by
  obtain ⟨x, y, H⟩ := H
  exact off_at H.d
theorem sv_wait_d (H : Sv w0 w g h p q r D C sure last tou) (hl : D.wait.length ≤ 1000000) : Calls Try.prog 23 #[.pointer (some ⟨g, 0, none⟩)] w fun e w' => ∃ A c, e = .returned (.slice A D.wait.length c) ∧ Sv w0 w' g h p q r D C sure last tou ∧ Below w.heap.size w w' := by
  obtain ⟨x, y, H⟩ := H
  refine (waiting_at H.d hl).mono ?_
  rintro e w' ⟨v, rfl, hv, h1, h2⟩
  obtain ⟨A, c, rfl⟩ := Kd.R_slice hv
  exact ⟨A, c, by rw [List.length_map], ⟨_, _, H.step h2⟩, h2⟩
theorem sv_wait_c (H : Sv w0 w g h p q r D C sure last tou) (hl : C.wait.length ≤ 1000000) : Calls Try.prog 23 #[.pointer (some ⟨h, 0, none⟩)] w fun e w' => ∃ A c, e = .returned (.slice A C.wait.length c) ∧ Sv w0 w' g h p q r D C sure last tou ∧ Below w.heap.size w w' := by
  obtain ⟨x, y, H⟩ := H
  refine (waiting_at H.c hl).mono ?_
  rintro e w' ⟨v, rfl, hv, h1, h2⟩
  obtain ⟨A, c, rfl⟩ := Kd.R_slice hv
  exact ⟨A, c, by rw [List.length_map], ⟨_, _, H.step h2⟩, h2⟩
end
end Go.Proofs.Ytgjclhhjigflkab.Dev
