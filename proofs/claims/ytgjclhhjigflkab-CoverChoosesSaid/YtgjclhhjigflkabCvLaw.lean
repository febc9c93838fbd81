/- Cover's contracts as the laws' chains spell them (law 32). -/
import Derived.Test.YtgjclhhjigflkabCvRef3
import Derived.Test.YtgjclhhjigflkabCvLight
import Derived.Test.YtgjclhhjigflkabCvAwake
namespace Go.Proofs.Ytgjclhhjigflkab.Sc
open Go Go.RowKit Go.Proofs.Ytgjclhhjigflkab.C Go.Proofs.Ytgjclhhjigflkab.Hand Go.Proofs.Ytgjclhhjigflkab.EvW Go.Proofs.YtgjclhhjigflkabW.PrintWords
set_option linter.unusedVariables false
set_option linter.unusedSimpArgs false
theorem choose_f (t : Tab) (hg : gtB t = true) (need tested : List Int) (us : List ByteArray) (hn : need.length ≤ 1000000) (ht : tested.length ≤ 1000000) (hu : us.length ≤ 1000000) : Ev (fun k => cover_Choose.f k t.f0 t.f1 t.f2 need tested us) ((chooseP t need tested us).2.1, (chooseP t need tested us).2.2, (chooseP t need tested us).1) := by
  refine Ev.congr (f := fun _ => some ((chooseP t need tested us).2.1, (chooseP t need tested us).2.2, (chooseP t need tested us).1)) (fun k => ?_) (Ev.now _)
  unfold cover_Choose.f
  rw [if_pos (by rw [hg, decide_eq_true hn, decide_eq_true ht, decide_eq_true hu]; rfl)]
theorem choose_len (t : Tab) (hg : gtB t = true) (need tested : List Int) (us : List ByteArray) : (chooseP t need tested us).2.2.length ≤ 1000000 := by
  have hc := (gtB_spec hg).c
  unfold chooseP
  split
  · cases hf : fromsP t need (someP t need tested us) t.f1.length with
    | none => simp
    | some l =>
      have := froms_len hf
      simp only
      omega
  · simp
theorem awake_some : Ev (fun k => (peristylelaw32_awake.f k).bind fun r => some r) true := Ev.bind awake_ev (Ev.now _)
end Go.Proofs.Ytgjclhhjigflkab.Sc
