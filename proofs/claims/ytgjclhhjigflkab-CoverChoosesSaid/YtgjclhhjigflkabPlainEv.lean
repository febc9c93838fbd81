/- Small words for 'Ev': a test that is decided, whatever the rounds. No Go here. -/
import Derived.Test.YtgjclhhjigflkabWWords
namespace Go.Proofs.Ytgjclhhjigflkab.EvW
open Go.Proofs.YtgjclhhjigflkabW.PrintWords
theorem ev_pos {α : Type} {c : Prop} [Decidable c] {g f : Nat → Option α} {r : α} (h : c) (k : Ev g r) : Ev (fun n => if c then g n else f n) r :=
  Ev.congr (fun _ => if_pos h) k
theorem ev_neg {α : Type} {c : Prop} [Decidable c] {g f : Nat → Option α} {r : α} (h : ¬ c) (k : Ev f r) : Ev (fun n => if c then g n else f n) r :=
  Ev.congr (fun _ => if_neg h) k
end Go.Proofs.Ytgjclhhjigflkab.EvW
