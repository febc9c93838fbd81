/- A device, and the document's, both in memory; what else must stay (X). -/
import Derived.Test.YtgjclhhjigflkabDevRef
import Derived.Test.YtgjclhhjigflkabDevWalk7
import Derived.Test.YtgjclhhjigflkabDx7
namespace Go.Proofs.Ytgjclhhjigflkab.Dev
open Go Go.RowKit Go.Proofs.Ytgjclhhjigflkab.D Go.Proofs.Ytgjclhhjigflkab.MyWords Go.Proofs.Ytgjclhhjigflkab.Hand Go.Proofs.YtgjclhhjigflkabW.PrintWords Go.Proofs.YtgjclhhjigflkabW.PrintLast Go.Proofs.YtgjclhhjigflkabW.PrintMore
set_option linter.unusedVariables false
set_option linter.unusedSimpArgs false
abbrev TQ : Nat := 44
abbrev TS : Nat := 9
abbrev TV : Nat := 122
abbrev kS := k122
structure Pr (w0 w : World) (g : Nat) (v0 v1 : Value) (D C : DS) (X okd P : Nat → Prop) : Prop where
  d : At w0 w okd g D
  s : Kd.R Kd.string TS w w0.heap.size P v0 C.sure
  q : Kd.R kS TV w w0.heap.size P v1 (toS C.wait)
  good : Ok C
  apart : ∀ k, okd k → ¬ P k
  ox : ∀ k, okd k → ¬ X k
  px : ∀ k, P k → ¬ X k
  bd : ∀ k, okd k → k < w.heap.size
  bp : ∀ k, P k → k < w.heap.size
  bx : ∀ k, X k → k < w.heap.size
def Prs (w0 w : World) (g : Nat) (v0 v1 : Value) (D C : DS) (X : Nat → Prop) : Prop := ∃ okd P, Pr w0 w g v0 v1 D C X okd P
def Stay (X : Nat → Prop) (w w1 : World) : Prop := ∀ k, X k → w1.heap[k]? = w.heap[k]?
section
variable {w0 w w1 w2 : World} {g : Nat} {v0 v1 v0' v1' : Value} {D C D1 C1 : DS} {X okd okd' P : Nat → Prop}
theorem Stay.trans (h : Stay X w w1) (k : Stay X w1 w2) : Stay X w w2 := fun i hi => (k i hi).trans (h i hi)
theorem Stay.cell (h : Stay X w w1) {b : Nat} (hx : X b) (i : Nat) : w1.cell? ⟨b, i, none⟩ = w.cell? ⟨b, i, none⟩ := by
  unfold World.cell?
  rw [show w1.heap[(⟨b, i, none⟩ : Addr).block]? = w.heap[(⟨b, i, none⟩ : Addr).block]? from h b hx]
theorem Prs.below (H : Prs w0 w g v0 v1 D C X) : Below w0.heap.size w0 w := by obtain ⟨_, _, H⟩ := H; exact H.d.below
theorem Prs.bx (H : Prs w0 w g v0 v1 D C X) : ∀ k, X k → k < w.heap.size := by obtain ⟨_, _, H⟩ := H; exact H.bx
theorem Prs.good (H : Prs w0 w g v0 v1 D C X) : Ok C := by obtain ⟨_, _, H⟩ := H; exact H.good
theorem Prs.sl (H : Prs w0 w g v0 v1 D C X) : ∃ A c A' c', v0 = .slice A C.sure.length c ∧ v1 = .slice A' C.wait.length c' := by
  obtain ⟨_, _, H⟩ := H
  obtain ⟨A, c, e⟩ := Kd.R_slice H.s
  obtain ⟨A', c', e'⟩ := Kd.R_slice H.q
  rw [toS_len] at e'
  exact ⟨A, c, A', c', e, e'⟩
theorem Stay.of_below (hx : ∀ k, X k → k < w.heap.size) (hb : Below w.heap.size w w1) : Stay X w w1 := fun k hk => hb.block k (hx k hk)
theorem Prs.step (H : Prs w0 w g v0 v1 D C X) (hb : Below w.heap.size w w1) : Prs w0 w1 g v0 v1 D C X := by
  obtain ⟨okd, P, H⟩ := H
  exact ⟨okd, P, H.d.step hb, Kd.R_below H.s hb, Kd.R_below H.q hb, H.good, H.apart, H.ox, H.px, fun k hk => Nat.lt_of_lt_of_le (H.bd k hk) hb.size, fun k hk => Nat.lt_of_lt_of_le (H.bp k hk) hb.size, fun k hk => Nat.lt_of_lt_of_le (H.bx k hk) hb.size⟩
/-- what must stay grows by a new block -/
theorem Prs.guard (H : Prs w0 w g v0 v1 D C X) (hb : Below w.heap.size w w1) {b : Nat} (h0 : w.heap.size ≤ b) (h1 : b < w1.heap.size) : Prs w0 w1 g v0 v1 D C (fun k => X k ∨ k = b) := by
  obtain ⟨okd, P, H⟩ := H
  refine ⟨okd, P, H.d.step hb, Kd.R_below H.s hb, Kd.R_below H.q hb, H.good, H.apart, ?_, ?_, fun k hk => Nat.lt_of_lt_of_le (H.bd k hk) hb.size, fun k hk => Nat.lt_of_lt_of_le (H.bp k hk) hb.size, ?_⟩
  · intro k hk hx
    rcases hx with hx | rfl
    · exact H.ox k hk hx
    · have := H.bd k hk; omega
  · intro k hk hx
    rcases hx with hx | rfl
    · exact H.px k hk hx
    · have := H.bp k hk; omega
  · intro k hx
    rcases hx with hx | rfl
    · exact Nat.lt_of_lt_of_le (H.bx k hx) hb.size
    · exact h1
theorem Prs.less (H : Prs w0 w g v0 v1 D C X) {Y : Nat → Prop} (h : ∀ k, Y k → X k) : Prs w0 w g v0 v1 D C Y := by
  obtain ⟨okd, P, H⟩ := H
  exact ⟨okd, P, H.d, H.s, H.q, H.good, H.apart, fun k hk hx => H.ox k hk (h k hx), fun k hk hx => H.px k hk (h k hx), H.bd, H.bp, fun k hx => H.bx k (h k hx)⟩
/-- a block that must stay for others is written by the law itself -/
theorem Prs.own (H : Prs w0 w g v0 v1 D C X) {b : Nat} (hx : X b) (hs : w1.heap.size = w.heap.size) (ho : ∀ k, k ≠ b → w1.heap[k]? = w.heap[k]?) (hb : Below w0.heap.size w0 w1) : Prs w0 w1 g v0 v1 D C X := by
  obtain ⟨okd, P, H⟩ := H
  have n1 : ∀ k, okd k → k ≠ b := fun k hk e => H.ox k hk (e ▸ hx)
  have n2 : ∀ k, P k → k ≠ b := fun k hk e => H.px k hk (e ▸ hx)
  exact ⟨okd, P, ⟨H.d.dev.step (fun k hk _ => ho k (n1 k hk)), H.d.new, hb⟩, Kd.R_step H.s (fun k hk _ => ho k (n2 k hk)), Kd.R_step H.q (fun k hk _ => ho k (n2 k hk)), H.good, H.apart, H.ox, H.px, fun k hk => by rw [hs]; exact H.bd k hk, fun k hk => by rw [hs]; exact H.bp k hk, fun k hk => by rw [hs]; exact H.bx k hk⟩
/-- the device has turned -/
theorem Pr.device (H : Pr w0 w g v0 v1 D C X okd P) (hd : At w0 w1 okd' g D1) (ho : ∀ k, okd' k → okd k ∨ w.heap.size ≤ k) (hc : Chg w w1 okd) : Prs w0 w1 g v0 v1 D1 C X ∧ Stay X w w1 := by
  refine ⟨⟨fun k => okd' k ∧ k < w1.heap.size, P, hd.bound, ?_, ?_, H.good, ?_, ?_, H.px, fun k hk => hk.2, fun k hk => Nat.lt_of_lt_of_le (H.bp k hk) hc.size, fun k hk => Nat.lt_of_lt_of_le (H.bx k hk) hc.size⟩, ?_⟩
  · exact Kd.R_step H.s (fun k hk hl => hc.block k hl (fun h => H.apart k h hk))
  · exact Kd.R_step H.q (fun k hk hl => hc.block k hl (fun h => H.apart k h hk))
  · intro k hk hp
    rcases ho k hk.1 with h | h
    · exact H.apart k h hp
    · have := H.bp k hp; omega
  · intro k hk hp
    rcases ho k hk.1 with h | h
    · exact H.ox k h hp
    · have := H.bx k hp; omega
  · exact fun k hk => hc.block k (H.bx k hk) (fun h => H.ox k h hk)
/-- the document's device has turned -/
theorem Pr.doc (H : Pr w0 w g v0 v1 D C X okd P) (hs : Kd.R Kd.string TS w1 w0.heap.size (fun k => (P k ∨ P k) ∨ w.heap.size ≤ k) v0' C1.sure) (hq : Kd.R kS TV w1 w0.heap.size (fun k => (P k ∨ P k) ∨ w.heap.size ≤ k) v1' (toS C1.wait)) (hg : Ok C1) (hb : Below w0.heap.size w0 w1)
    (hk : Kept w w1 (fun k => P k ∨ P k)) : Prs w0 w1 g v0' v1' D C1 X ∧ Stay X w w1 := by
  refine ⟨⟨okd, fun k => ((P k ∨ P k) ∨ w.heap.size ≤ k) ∧ k < w1.heap.size, ⟨H.d.dev.step (fun k ho hl => hk.2 k hl (fun h => by rcases h with h | h <;> exact H.apart k ho h)), H.d.new, hb⟩, ?_, ?_, hg, ?_, H.ox, ?_, fun k ho => Nat.lt_of_lt_of_le (H.bd k ho) hk.1, fun k h => h.2, fun k hx => Nat.lt_of_lt_of_le (H.bx k hx) hk.1⟩, ?_⟩
  · exact Kd.R_mono (Kd.R_bound hs) (fun k h => ⟨h.1, h.2.2.1⟩)
  · exact Kd.R_mono (Kd.R_bound hq) (fun k h => ⟨h.1, h.2.2.1⟩)
  · intro k ho hp
    rcases hp.1 with (h | h) | h
    · exact H.apart k ho h
    · exact H.apart k ho h
    · have := H.bd k ho; omega
  · intro k hp hx
    rcases hp.1 with (h | h) | h
    · exact H.px k h hx
    · exact H.px k h hx
    · have := H.bx k hx; omega
  · exact fun k hx => hk.2 k (H.bx k hx) (fun h => by rcases h with h | h <;> exact H.px k h hx)
/-! calls of the device -/
theorem pr_write (H : Prs w0 w g v0 v1 D C X) (a : Int) (s : ByteArray) (hs : s.size ≤ 9223372036854775807) (hl : D.wait.length ≤ 1000000) : Calls Try.prog 18 #[.pointer (some ⟨g, 0, none⟩), .int .i64 a, .string s] w fun e w' => e = .returned (.int .i64 (writeD D a s).2) ∧ Prs w0 w' g v0 v1 (writeD D a s).1 C X ∧ Stay X w w' := by
  obtain ⟨okd, P, H⟩ := H
  refine (write_at H.d a s hs hl).mono ?_
  rintro e w' ⟨rfl, h1, h2⟩
  exact ⟨rfl, H.device h1 (fun _ hk => hk) h2⟩
theorem pr_sync (H : Prs w0 w g v0 v1 D C X) : Calls Try.prog 17 #[.pointer (some ⟨g, 0, none⟩)] w fun e w' => e = .returned (.int .i64 (syncD D).2) ∧ Prs w0 w' g v0 v1 (syncD D).1 C X ∧ Stay X w w' := by
  obtain ⟨okd, P, H⟩ := H
  refine (sync_at H.d).mono ?_
  rintro e w' ⟨rfl, h1, h2⟩
  exact ⟨rfl, H.device h1 (fun _ hk => .inl hk) h2⟩
theorem pr_fuse (H : Prs w0 w g v0 v1 D C X) (n : Int) (hn : n ≤ 9223372036854775807) : Calls Try.prog 16 #[.pointer (some ⟨g, 0, none⟩), .int .i64 n] w fun e w' => e = .returned (.int .i64 0) ∧ Prs w0 w' g v0 v1 (fuseD D n) C X ∧ Stay X w w' := by
  obtain ⟨okd, P, H⟩ := H
  refine (fuse_at H.d n hn).mono ?_
  rintro e w' ⟨rfl, h1, h2⟩
  exact ⟨rfl, H.device h1 (fun _ hk => .inl hk) h2⟩
theorem pr_spoil (H : Prs w0 w g v0 v1 D C X) (a : Int) (s : ByteArray) (hs : s.size ≤ 9223372036854775807) (hl : D.wait.length ≤ 1000000) : Calls Try.prog 29 #[.pointer (some ⟨g, 0, none⟩), .int .i64 a, .string s] w fun e w' => e = .returned (.int .i64 (spoilD D a s).2) ∧ Prs w0 w' g v0 v1 (spoilD D a s).1 C X ∧ Stay X w w' := by
  obtain ⟨okd, P, H⟩ := H
  refine (spoil_calls a s hs hl H.d.dev).mono ?_
  rintro e w' ⟨rfl, hd, hc⟩
  exact ⟨rfl, H.device (H.d.turn hd hc) (fun _ hk => .inl hk) hc⟩
/-- what survives lies in memory that was there ahead of the device, and of the document's -/
theorem pr_crash (H : Prs w0 w g v0 v1 D C X) (A0 : Option Addr) (c0 : Nat) (keep : List Int) (hk : Kd.F (Kd.int .i64) w (fun k => k < w0.heap.size) A0 keep.length keep) (hl : keep.length ≤ 9223372036854775807) :
    Calls Try.prog 21 #[.pointer (some ⟨g, 0, none⟩), .slice A0 keep.length c0] w fun e w' => e = .returned (.int .i64 0) ∧ Prs w0 w' g v0 v1 (crashD D keep) C X ∧ Stay X w w' := by
  obtain ⟨okd, P, H⟩ := H
  refine (crash_at H.d A0 c0 keep (Kd.F_mono hk (fun k hk hn => by have := H.d.new k hn; omega)) hl).mono ?_
  rintro e w' ⟨rfl, h1, h2⟩
  exact ⟨rfl, H.device h1 (fun _ hk => .inl hk) h2⟩
theorem pr_read (H : Prs w0 w g v0 v1 D C X) (a : Int) : Calls Try.prog 24 #[.pointer (some ⟨g, 0, none⟩), .int .i64 a] w fun e w' => e = .returned (.tuple #[.string (readD D a).1, .int .i64 (readD D a).2]) ∧ Prs w0 w' g v0 v1 D C X ∧ Stay X w w' := by
  have H0 := H
  obtain ⟨okd, P, H⟩ := H
  refine (read_at H.d a).mono ?_
  rintro e w' ⟨rfl, h1, h2⟩
  exact ⟨rfl, H0.step h2, Stay.of_below H.bx h2⟩
theorem pr_off (H : Prs w0 w g v0 v1 D C X) : Calls Try.prog 20 #[.pointer (some ⟨g, 0, none⟩)] w fun e w' => e = .returned (.bool D.off) ∧ w = w' := by
  obtain ⟨_, _, H⟩ := H
  exact off_at H.d
theorem pr_size (H : Prs w0 w g v0 v1 D C X) : Calls Try.prog 28 #[.pointer (some ⟨g, 0, none⟩)] w fun e w' => e = .returned (.int .i64 (D.sure.length : Int)) ∧ w = w' := by
  obtain ⟨_, _, H⟩ := H
  exact size_at H.d
theorem pr_wait (H : Prs w0 w g v0 v1 D C X) (hl : D.wait.length ≤ 1000000) : Calls Try.prog 23 #[.pointer (some ⟨g, 0, none⟩)] w fun e w' => ∃ A c, e = .returned (.slice A (D.wait.map (·.at_)).length c) ∧ (D.wait.map (·.at_)).length ≤ c ∧ Kd.C (Kd.int .i64) w' A (D.wait.map (·.at_)).length (D.wait.map (·.at_)) ∧ Prs w0 w' g v0 v1 D C X ∧ Below w.heap.size w w' := by
  have H0 := H
  obtain ⟨okd, P, H⟩ := H
  refine (waiting_at H.d hl).mono ?_
  rintro e w' ⟨v, rfl, hv, h1, h2⟩
  obtain ⟨A, c, rfl⟩ := Kd.R_slice hv
  have := Kd.R_reads' hv
  exact ⟨A, c, rfl, this.2.1, this.2.2, H0.step h2, h2⟩
/-! calls of the document's device -/
abbrev Q0 (v0 v1 : Value) (C : DS) : Value := .agg #[v0, v1, .int .i64 C.fuse, .bool C.off]
theorem pr_put (H : Prs w0 w g v0 v1 D C X) (a : Int) (s : ByteArray) (hl : C.wait.length ≤ 1000000) : Calls Try.prog 66 #[Q0 v0 v1 C, .int .i64 a, .string s] w fun e w' => ∃ v0' v1', e = .returned (.tuple #[Q0 v0' v1' (writeD C a s).1, .int .i64 (writeD C a s).2]) ∧ Prs w0 w' g v0' v1' D (writeD C a s).1 X ∧ Stay X w w' := by
  obtain ⟨okd, P, H⟩ := H
  obtain ⟨k, hk⟩ := (put_ev H.good hl a s).rounds
  refine (peristyleref04_Put.calls k P v0 _ P v1 _ _ _ a s _ _ _ _ _ w0 w H.d.below H.s H.q hk).mono ?_
  rintro e w' ⟨v0', v1', rfl, h1, h2, h3, h4⟩
  exact ⟨v0', v1', rfl, H.doc h1 h2 (write_ok H.good a s) h3 h4⟩
theorem pr_rsync (H : Prs w0 w g v0 v1 D C X) (hl : C.wait.length ≤ 1000000) : Calls Try.prog 67 #[Q0 v0 v1 C] w fun e w' => ∃ v0' v1', e = .returned (.tuple #[Q0 v0' v1' (syncD C).1, .int .i64 (syncD C).2]) ∧ Prs w0 w' g v0' v1' D (syncD C).1 X ∧ Stay X w w' := by
  obtain ⟨okd, P, H⟩ := H
  obtain ⟨k, hk⟩ := (sync_ev H.good hl).rounds
  refine (peristyleref04_Sync.calls k P v0 _ P v1 _ _ _ _ _ _ _ _ w0 w H.d.below H.s H.q hk).mono ?_
  rintro e w' ⟨v0', v1', rfl, h1, h2, h3, h4⟩
  exact ⟨v0', v1', rfl, H.doc h1 h2 (sync_ok H.good) h3 h4⟩
theorem pr_rfuse (H : Prs w0 w g v0 v1 D C X) (n : Int) (hn : n ≤ 9223372036854775807) : Calls Try.prog 68 #[Q0 v0 v1 C, .int .i64 n] w fun e w' => ∃ v0' v1', e = .returned (Q0 v0' v1' (fuseD C n)) ∧ Prs w0 w' g v0' v1' D (fuseD C n) X ∧ Stay X w w' := by
  obtain ⟨okd, P, H⟩ := H
  refine (peristyleref04_Fuse.calls P v0 _ P v1 _ _ _ n _ _ _ _ w0 w H.d.below H.s H.q (fuse_is n)).mono ?_
  rintro e w' ⟨v0', v1', rfl, h1, h2, h3, h4⟩
  exact ⟨v0', v1', rfl, H.doc h1 h2 (fuse_ok H.good n hn) h3 h4⟩
theorem pr_rspoil (H : Prs w0 w g v0 v1 D C X) (a : Int) (s : ByteArray) (hl : C.wait.length ≤ 1000000) : Calls Try.prog 70 #[Q0 v0 v1 C, .int .i64 a, .string s] w fun e w' => ∃ v0' v1', e = .returned (.tuple #[Q0 v0' v1' (spoilD C a s).1, .int .i64 (spoilD C a s).2]) ∧ Prs w0 w' g v0' v1' D (spoilD C a s).1 X ∧ Stay X w w' := by
  obtain ⟨okd, P, H⟩ := H
  obtain ⟨k, hk⟩ := (spoil_ev H.good hl a s).rounds
  refine (peristyleref04_Spoil.calls k P v0 _ P v1 _ _ _ a s _ _ _ _ _ w0 w H.d.below H.s H.q hk).mono ?_
  rintro e w' ⟨v0', v1', rfl, h1, h2, h3, h4⟩
  exact ⟨v0', v1', rfl, H.doc h1 h2 (spoil_ok H.good a s) h3 h4⟩
theorem pr_rread (H : Prs w0 w g v0 v1 D C X) (a : Int) (hl : C.wait.length ≤ 1000000) : Calls Try.prog 71 #[Q0 v0 v1 C, .int .i64 a] w fun e w' => e = .returned (.tuple #[.string (readD C a).1, .int .i64 (readD C a).2]) ∧ Prs w0 w' g v0 v1 D C X ∧ Stay X w w' ∧ Below w.heap.size w w' := by
  have H0 := H
  obtain ⟨okd, P, H⟩ := H
  obtain ⟨k, hk⟩ := (read_ev hl a).rounds
  obtain ⟨A, c, rfl⟩ := Kd.R_slice H.s
  obtain ⟨A', c', rfl⟩ := Kd.R_slice H.q
  have r0 := Kd.R_reads' H.s
  have r1 := Kd.R_reads' H.q
  refine (peristyleref04_Read.calls k A c _ A' c' _ _ _ a _ _ w r0.2.2 r0.2.1 r1.2.2 r1.2.1 hk).mono ?_
  rintro e w' ⟨rfl, h2⟩
  exact ⟨rfl, H0.step h2, Stay.of_below H.bx h2, h2⟩
end
end Go.Proofs.Ytgjclhhjigflkab.Dev
