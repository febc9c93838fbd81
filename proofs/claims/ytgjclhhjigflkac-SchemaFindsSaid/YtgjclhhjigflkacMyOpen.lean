/- What a row's value opens to, by kinds: whole numbers, bools, strings, slices, structs. For the rows of laws over slices of any kind. -/
import Derived.Test.YtgjclhhjigflkacWWords
import Derived.OpenShut
import Derived.ChangeArms
import Derived.ChangeSlices
import Derived.ShutString
import Derived.DataElems
namespace Go.Proofs.Ytgjclhhjigflkac.MyOpen
set_option linter.unusedVariables false
set_option linter.unusedSimpArgs false
open Go.RowKit Go.Proofs.YtgjclhhjigflkacW.PrintWords
/-- every value that can be told at type t is of the kind d, and good -/
def Opens {α : Type} (P : Program) (t : TypeId) (d : Kd α) (good : α → Prop) : Prop :=
  ∀ {H : Type} (enc : TypeId × Value → H) (w : World) (base : Nat) (spare : Nat → Bool) (held : Bool) (fuel : Nat) (cs : List Value) (y : DataW H × List MemPlace),
    DataW.trod enc P w base spare held fuel t cs = some y → ∃ x : α, d.K w x cs ∧ good x
theorem o_int {P : Program} {t : TypeId} {k : IntKind} (ht : P.underlying t = some (.int k)) : Opens P t (Kd.int k) (fun n => (Lit.int k n).wf = true) := by
  intro H enc w base spare held fuel cs y h
  obtain ⟨n, rfl, _, hw⟩ := DataW.trod_int ht h
  exact ⟨n, rfl, hw⟩
theorem o_bool {P : Program} {t : TypeId} (ht : P.underlying t = some .bool) : Opens P t Kd.bool (fun _ => True) := by
  intro H enc w base spare held fuel cs y h
  obtain ⟨n, rfl, _⟩ := DataW.trod_bool ht h
  exact ⟨n, rfl, trivial⟩
theorem o_string {P : Program} {t : TypeId} (ht : P.underlying t = some .string) : Opens P t Kd.string (fun s => s.size ≤ maxLen) := by
  intro H enc w base spare held fuel cs y h
  obtain ⟨n, rfl, _, hw⟩ := DataW.trod_string ht h
  exact ⟨n, rfl, hw⟩
theorem cells_get {w : World} {base : Nat} {a : Addr} {n : Nat} {cs : List Value} (h : w.cells? base a n = some cs) : cs.length = n ∧ ∀ i u, cs[i]? = some u → w.cell? (a.add i) = some u := by
  unfold World.cells? at h
  split at h
  · have hl : cs.length = n := by rw [Go.mapM_some_length h]; simp
    refine ⟨hl, fun i u hu => ?_⟩
    have hi : i < n := by rw [← hl]; exact (List.getElem?_eq_some_iff.1 hu).1
    have := Go.mapM_some_get h i i (by simp [hi])
    rw [this, hu]
  · cases h
theorem choose_list {α : Type} {p : Nat → α → Prop} (n : Nat) (h : ∀ i, i < n → ∃ x, p i x) : ∃ l : List α, l.length = n ∧ ∀ i x, l[i]? = some x → p i x := by
  induction n with
  | zero => exact ⟨[], rfl, fun i x hx => by simp at hx⟩
  | succ n ih =>
    obtain ⟨l, hl, hp⟩ := ih (fun i hi => h i (by omega))
    obtain ⟨x, hx⟩ := h n (by omega)
    refine ⟨l ++ [x], by simp [hl], fun i y hy => ?_⟩
    by_cases hi : i < n
    · rw [List.getElem?_append_left (by omega)] at hy
      exact hp i y hy
    · have hi2 : i < (l ++ [x]).length := (List.getElem?_eq_some_iff.1 hy).1
      have : i = n := by simp at hi2; omega
      subst this
      rw [List.getElem?_append_right (by omega), hl, Nat.sub_self] at hy
      simp at hy
      subst hy
      exact hx
theorem o_slice {α : Type} {P : Program} {t e : TypeId} {d : Kd α} {g : α → Prop} (ht : P.underlying t = some (.slice e)) (hc : P.cellsOf e = d.sz) (he : Opens P e d g) :
    Opens P t (Kd.slice e d) (fun l => l.length ≤ maxLen ∧ ∀ x ∈ l, g x) := by
  intro H enc w base spare held fuel cs y h
  rcases DataW.trod_slice ht h with ⟨rfl, _⟩ | ⟨a, len, cap, elems, rest, n, _, rfl, _, hb, hl, hm, hlen, hel, _, _⟩
  · exact ⟨[], ⟨none, 0, rfl, Nat.le_refl _, rfl, by simp, fun h => by simp at h⟩, by simp, by simp⟩
  · have each : ∀ i, i < len → ∃ x : α, (∃ c, c.length = d.sz ∧ d.K w x c ∧ ∀ j u, c[j]? = some u → w.cell? (a.add (i * d.sz + j)) = some u) ∧ g x := by
      intro i hi
      have h1 := hel i hi
      rw [List.getElem?_eq_getElem (by omega)] at h1
      rw [Option.bind_eq_some_iff] at h1
      obtain ⟨c, hcs, hy⟩ := h1
      obtain ⟨x, hK, hg⟩ := he enc w base spare held n c _ hy
      rw [hc] at hcs
      obtain ⟨hl1, hcell⟩ := cells_get hcs
      refine ⟨x, ⟨c, hl1, hK, fun j u hu => ?_⟩, hg⟩
      have := hcell j u hu
      rwa [Go.Addr.add_add] at this
    obtain ⟨l, hll, hp⟩ := choose_list len each
    subst hll
    have hmm : (maxLen : Nat) ≤ 9223372036854775807 := by unfold maxLen; decide
    refine ⟨l, ⟨some a, cap, rfl, hl, rfl, by omega, fun _ => ⟨a, rfl, fun j p hj => (hp j p hj).1⟩⟩, by omega, fun x hx => ?_⟩
    obtain ⟨i, hi⟩ := List.getElem?_of_mem hx
    exact (hp i x hi).2
theorem o_iso {α β : Type} {P : Program} {t : TypeId} {d : Kd α} {g : α → Prop} {f : β → α} (b : α → β) (hb : ∀ x, f (b x) = x) (h : Opens P t d g) : Opens P t (Kd.iso d f) (fun x => g (f x)) := by
  intro H enc w base spare held fuel cs y hy
  obtain ⟨x, h1, h2⟩ := h enc w base spare held fuel cs y hy
  exact ⟨b x, by show d.K w (f (b x)) cs; rw [hb]; exact h1, by show g (f (b x)); rw [hb]; exact h2⟩
/-- fields, one behind the other -/
def OF {α : Type} (P : Program) (fs : List Field) (o : Nat) (d : Kd α) (good : α → Prop) : Prop :=
  ∀ {H : Type} (enc : TypeId × Value → H) (w : World) (base : Nat) (spare : Nat → Bool) (held : Bool) (n : Nat) (cs : List Value),
    (∀ f ∈ fs, ∃ y, DataW.trod enc P w base spare held n f.type ((cs.drop f.offset).take (P.cellsOf f.type)) = some y) → ∃ x : α, d.K w x ((cs.drop o).take d.sz) ∧ good x
theorem of_one {α : Type} {P : Program} {f : Field} {o : Nat} {d : Kd α} {g : α → Prop} (ho : f.offset = o) (hc : P.cellsOf f.type = d.sz) (h : Opens P f.type d g) : OF P [f] o d g := by
  intro H enc w base spare held n cs hf
  obtain ⟨y, hy⟩ := hf f (by simp)
  rw [ho, hc] at hy
  exact h enc w base spare held n _ y hy
theorem of_cons {α β : Type} {P : Program} {f : Field} {fs : List Field} {o : Nat} {d : Kd α} {d2 : Kd β} {g : α → Prop} {g2 : β → Prop} (ho : f.offset = o) (hc : P.cellsOf f.type = d.sz) (h : Opens P f.type d g) (h2 : OF P fs (o + d.sz) d2 g2) :
    OF P (f :: fs) o (Kd.pair d d2) (fun x => g x.1 ∧ g2 x.2) := by
  intro H enc w base spare held n cs hf
  obtain ⟨x1, k1, g1⟩ := of_one ho hc h enc w base spare held n cs (fun f' hf' => by simp at hf'; subst hf'; exact hf f' (by simp))
  obtain ⟨x2, k2, gg2⟩ := h2 enc w base spare held n cs (fun f' hf' => hf f' (by simp [hf']))
  refine ⟨(x1, x2), ⟨_, _, ?_, k1, k2⟩, g1, gg2⟩
  show (cs.drop o).take (d.sz + d2.sz) = _
  rw [List.take_add, List.drop_drop]
theorem o_struct {α : Type} {P : Program} {t : TypeId} {fs : Array Field} {d : Kd α} {g : α → Prop} (ht : P.underlying t = some (.struct fs)) (hc : P.cellsOf t = d.sz) (h : OF P fs.toList 0 d g) : Opens P t d g := by
  intro H enc w base spare held fuel cs y hy
  obtain ⟨xs, n, _, _, hl, hxl, hel⟩ := DataW.trod_struct ht hy
  obtain ⟨x, h1, h2⟩ := h enc w base spare held n cs (fun f hf => by
    obtain ⟨i, hi⟩ := List.getElem?_of_mem hf
    have hi' : fs[i]? = some f := by simpa using hi
    have hlt : i < fs.size := (Array.getElem?_eq_some_iff.1 hi').1
    exact ⟨xs[i]'(by omega), by rw [hel i f hi', List.getElem?_eq_getElem]⟩)
  rw [List.drop_zero, List.take_of_length_le (by omega)] at h1
  exact ⟨x, h1, h2⟩
/-- a slice that a row hands over -/
theorem open_row {α : Type} {H : Type} {enc : TypeId × Value → H} {P : Program} {W : World} {base : Nat} {spare : Nat → Bool} {held : Bool} {t e : TypeId} {d : Kd α} {g : List α → Prop} {a : Option Addr} {len cap : Nat} {dd : DataW H} {ps : List MemPlace}
    (ho : Opens P t (Kd.slice e d) g) (h : DataW.Trod enc P W base spare held t (.slice a len cap) dd ps) : ∃ l : List α, len = l.length ∧ d.C W a l.length l ∧ l.length ≤ cap ∧ g l := by
  obtain ⟨fuel, hf⟩ := h
  obtain ⟨l, ⟨A, c, e1, h1, h2⟩, hg⟩ := ho enc W base spare held fuel _ _ hf
  have e2 : (Value.slice a len cap) = .slice A l.length c := by
    have : (Value.slice a len cap).cells.toList = [.slice a len cap] := rfl
    rw [this] at e1
    injection e1
  injection e2 with e3 e4 e5
  subst e3 e4 e5
  exact ⟨l, rfl, h2, h1, hg⟩
/-- a struct that a row hands over -/
theorem open_agg {α : Type} {H : Type} {enc : TypeId × Value → H} {P : Program} {W : World} {base : Nat} {spare : Nat → Bool} {held : Bool} {t : TypeId} {fs : Array Field} {d : Kd α} {g : α → Prop} {v : Value} {r : Reach} {b0 : Nat} {dd : DataW H} {ps : List MemPlace}
    (ht : P.underlying t = some (.struct fs)) (ho : Opens P t d g) (hv : Value.okWide P W r b0 t v) (h : DataW.Trod enc P W base spare held t v dd ps) : ∃ x : α, ∃ cs : List Value, d.K W x cs ∧ v = .agg cs.toArray ∧ g x := by
  obtain ⟨a, rfl, _⟩ := Go.WideShapes.okWide_struct ht hv
  obtain ⟨fuel, hf⟩ := h
  obtain ⟨x, hK, hg⟩ := ho enc W base spare held fuel _ _ hf
  exact ⟨x, _, hK, by simp [Value.cells], hg⟩
end Go.Proofs.Ytgjclhhjigflkac.MyOpen
