/- A device that a call has made: its calls, as a law sees them. -/
import Derived.Test.YtgjclhhjigflkabDevWalk3
import Derived.Test.YtgjclhhjigflkabDevWalk6
namespace Go.Proofs.Ytgjclhhjigflkab.Dev
open Go Go.RowKit Go.Proofs.Ytgjclhhjigflkab.MyWords Go.Proofs.Ytgjclhhjigflkab.Hand Go.Proofs.YtgjclhhjigflkabW.PrintWords Go.Proofs.YtgjclhhjigflkabW.PrintLast Go.Proofs.YtgjclhhjigflkabW.PrintMore
set_option linter.unusedVariables false
set_option linter.unusedSimpArgs false
/-- a device made since w0, and nothing of w0 has turned -/
structure At (w0 w : World) (ok : Nat → Prop) (g : Nat) (D : DS) : Prop where
  dev : Dev w w0.heap.size ok g D
  new : ∀ k, ok k → w0.heap.size ≤ k
  below : Below w0.heap.size w0 w
section
variable {w0 w w1 : World} {g : Nat} {D : DS} {ok : Nat → Prop}
theorem At.lt (h : At w0 w ok g D) : g < w.heap.size := h.dev.lt
theorem At.good (h : At w0 w ok g D) : Ok D := h.dev.ok_
theorem At.step (h : At w0 w ok g D) (hb : Below w.heap.size w w1) : At w0 w1 ok g D := ⟨h.dev.below hb, h.new, below_then h.below h.below.size hb⟩
theorem At.turn {D1 : DS} (h : At w0 w ok g D) (hd : Dev w1 w0.heap.size ok g D1) (hc : Chg w w1 ok) : At w0 w1 ok g D1 := ⟨hd, h.new, hc.below h.below h.below.size h.new⟩
theorem At.grow {D1 : DS} (h : At w0 w ok g D) (hd : Dev w1 w0.heap.size (fun k => ok k ∨ w.heap.size ≤ k) g D1) (hc : Chg w w1 ok) : At w0 w1 (fun k => ok k ∨ w.heap.size ≤ k) g D1 :=
  ⟨hd, fun k hk => by rcases hk with hk | hk; exact h.new k hk; exact Nat.le_trans h.below.size hk, hc.below h.below h.below.size h.new⟩
theorem At.wide (h : At w0 w ok g D) : At w0 w (fun k => w0.heap.size ≤ k) g D := ⟨h.dev.mono h.new, fun _ hk => hk, h.below⟩
end
theorem new_at {w0 : World} (n : Int) (w : World) (hb : Below w0.heap.size w0 w) (h0 : 1 ≤ n) (h1 : n ≤ 4096) :
    Calls Try.prog 15 #[.int .i64 n] w fun e w' => ∃ g : Nat, e = .returned (.tuple #[.pointer (some ⟨g, 0, none⟩), .int .i64 0]) ∧ At w0 w' (fun k => w.heap.size ≤ k) g (newD n.toNat) ∧ Below w.heap.size w w' := by
  refine (new_calls n w h0 h1).mono ?_
  rintro e w' ⟨g, rfl, hd, hB⟩
  obtain ⟨h2, h3, h4, v0, v1, hg, r0, r1⟩ := hd
  exact ⟨g, rfl, ⟨⟨h2, Nat.le_trans hb.size h3, h4, v0, v1, hg, Kd.R_lower r0 hb.size, Kd.R_lower r1 hb.size⟩, fun k hk => Nat.le_trans hb.size hk, below_then hb hb.size hB⟩, hB⟩
section
variable {w0 w : World} {g : Nat} {D : DS}
theorem size_at {ok : Nat → Prop} (h : At w0 w ok g D) : Calls Try.prog 28 #[.pointer (some ⟨g, 0, none⟩)] w fun e w' => e = .returned (.int .i64 (D.sure.length : Int)) ∧ w = w' := size_calls h.dev
theorem off_at {ok : Nat → Prop} (h : At w0 w ok g D) : Calls Try.prog 20 #[.pointer (some ⟨g, 0, none⟩)] w fun e w' => e = .returned (.bool D.off) ∧ w = w' := off_calls h.dev
theorem fuse_at {ok : Nat → Prop} (h : At w0 w ok g D) (n : Int) (hn : n ≤ 9223372036854775807) : Calls Try.prog 16 #[.pointer (some ⟨g, 0, none⟩), .int .i64 n] w fun e w' => e = .returned (.int .i64 0) ∧ At w0 w' ok g (fuseD D n) ∧ Chg w w' ok := by
  refine (fuse_calls n hn h.dev).mono ?_
  rintro e w' ⟨rfl, hd, hc⟩
  exact ⟨rfl, h.turn hd hc, hc⟩
theorem read_at {ok : Nat → Prop} (h : At w0 w ok g D) (a : Int) : Calls Try.prog 24 #[.pointer (some ⟨g, 0, none⟩), .int .i64 a] w fun e w' => e = .returned (.tuple #[.string (readD D a).1, .int .i64 (readD D a).2]) ∧ At w0 w' ok g D ∧ Below w.heap.size w w' := by
  refine (read_calls a h.dev).mono ?_
  rintro e w' ⟨rfl, hb⟩
  exact ⟨rfl, h.step hb, hb⟩
theorem write_at {ok : Nat → Prop} (h : At w0 w ok g D) (a : Int) (s : ByteArray) (hs : s.size ≤ 9223372036854775807) (hl : D.wait.length ≤ 1000000) : Calls Try.prog 18 #[.pointer (some ⟨g, 0, none⟩), .int .i64 a, .string s] w fun e w' => e = .returned (.int .i64 (writeD D a s).2) ∧ At w0 w' (fun k => ok k ∨ w.heap.size ≤ k) g (writeD D a s).1 ∧ Chg w w' ok := by
  refine (write_calls a s hs hl h.dev).mono ?_
  rintro e w' ⟨rfl, hd, hc⟩
  exact ⟨rfl, h.grow hd hc, hc⟩
theorem sync_at {ok : Nat → Prop} (h : At w0 w ok g D) : Calls Try.prog 17 #[.pointer (some ⟨g, 0, none⟩)] w fun e w' => e = .returned (.int .i64 (syncD D).2) ∧ At w0 w' ok g (syncD D).1 ∧ Chg w w' ok := by
  refine (sync_calls h.dev).mono ?_
  rintro e w' ⟨rfl, hd, hc⟩
  exact ⟨rfl, h.turn hd hc, hc⟩
theorem waiting_at {ok : Nat → Prop} (h : At w0 w ok g D) (hl : D.wait.length ≤ 1000000) : Calls Try.prog 23 #[.pointer (some ⟨g, 0, none⟩)] w fun e w' => ∃ v, e = .returned v ∧ Kd.R (Kd.int .i64) 3 w' w.heap.size (fun _ => True) v (D.wait.map (·.at_)) ∧ At w0 w' ok g D ∧ Below w.heap.size w w' := by
  refine (waiting_calls h.dev hl).mono ?_
  rintro e w' ⟨v, rfl, hr, hb⟩
  exact ⟨v, rfl, hr, h.step hb, hb⟩
theorem crash_at {ok : Nat → Prop} (h : At w0 w ok g D) (A0 : Option Addr) (c0 : Nat) (keep : List Int) (hk : Kd.F (Kd.int .i64) w (fun k => ¬ ok k) A0 keep.length keep) (hl : keep.length ≤ 9223372036854775807) :
    Calls Try.prog 21 #[.pointer (some ⟨g, 0, none⟩), .slice A0 keep.length c0] w fun e w' => e = .returned (.int .i64 0) ∧ At w0 w' ok g (crashD D keep) ∧ Chg w w' ok := by
  refine (crash_calls A0 c0 keep (Kd.F_now hk) hl hk h.dev).mono ?_
  rintro e w' ⟨rfl, hd, hc⟩
  exact ⟨rfl, h.turn hd hc, hc⟩
end
end Go.Proofs.Ytgjclhhjigflkab.Dev
