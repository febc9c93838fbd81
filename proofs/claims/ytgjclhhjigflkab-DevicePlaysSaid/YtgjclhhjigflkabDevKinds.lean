/- A device in memory: what its blocks and its writes that wait read as; what a call leaves as it was. -/
import Derived.Test.YtgjclhhjigflkabMyWords
import Derived.Test.YtgjclhhjigflkabDevPlain
namespace Go.Proofs.Ytgjclhhjigflkab.Dev
open Go Go.RowKit Go.Proofs.Ytgjclhhjigflkab.MyWords Go.Proofs.YtgjclhhjigflkabW.PrintWords Go.Proofs.YtgjclhhjigflkabW.PrintLast Go.Proofs.YtgjclhhjigflkabW.PrintMore
set_option linter.unusedVariables false
set_option linter.unusedSimpArgs false
abbrev TB : Nat := 111
abbrev TW : Nat := 113
abbrev TD : Nat := 56
def blkCells (x : ByteArray) : List Value := nums .u8 (bytesOf x)
theorem blkCells_len (x : ByteArray) : (blkCells x).length = x.size := by rw [blkCells, nums_length, bytesOf_length]
theorem blkCells_one (x : ByteArray) : ∀ u ∈ blkCells x, u.oneCell' = true := by
  intro u hu
  simp only [blkCells, nums, List.mem_map] at hu
  obtain ⟨y, _, rfl⟩ := hu
  rfl
/-- a block of 128 bytes -/
def kB : Kd ByteArray where
  sz := 128
  E := []
  K := fun _ x cs => x.size = 128 ∧ cs = blkCells x
  M := fun _ _ _ x cs => x.size = 128 ∧ cs = blkCells x
  K_len := by
    rintro w x cs ⟨h, rfl⟩
    rw [blkCells_len, h]
  K_one := by
    rintro w x cs ⟨h, rfl⟩
    exact blkCells_one x
  K_below := fun _ h => h
  K_of_M := fun h => h
  M_mono := fun _ h => h
  M_bound := fun h => h
  M_move := fun _ h => h
  M_lower := fun _ h => h
/-- a write that waits -/
def kW : Kd Wr where
  sz := 129
  E := []
  K := fun _ x cs => x.b.size = 128 ∧ cs = .int .i64 x.at_ :: blkCells x.b
  M := fun _ _ _ x cs => x.b.size = 128 ∧ cs = .int .i64 x.at_ :: blkCells x.b
  K_len := by
    rintro w x cs ⟨h, rfl⟩
    rw [List.length_cons, blkCells_len, h]
  K_one := by
    rintro w x cs ⟨h, rfl⟩ u hu
    rcases List.mem_cons.1 hu with rfl | hu
    · rfl
    · exact blkCells_one x.b u hu
  K_below := fun _ h => h
  K_of_M := fun h => h
  M_mono := fun _ h => h
  M_bound := fun h => h
  M_move := fun _ h => h
  M_lower := fun _ h => h
/-- nothing but blocks of ok, and what is new, has turned -/
structure Chg (w w' : World) (ok : Nat → Prop) : Prop where
  os : w'.os = w.os
  tape : w'.tape = w.tape
  output : w'.output = w.output
  size : w.heap.size ≤ w'.heap.size
  block : ∀ k, k < w.heap.size → ¬ ok k → w'.heap[k]? = w.heap[k]?
theorem Chg.refl (w : World) (ok : Nat → Prop) : Chg w w ok := ⟨rfl, rfl, rfl, Nat.le_refl _, fun _ _ _ => rfl⟩
theorem Chg.trans {w w1 w2 : World} {ok : Nat → Prop} (h : Chg w w1 ok) (k : Chg w1 w2 ok) : Chg w w2 ok :=
  ⟨k.os.trans h.os, k.tape.trans h.tape, k.output.trans h.output, Nat.le_trans h.size k.size, fun i hi ho => (k.block i (Nat.lt_of_lt_of_le hi h.size) ho).trans (h.block i hi ho)⟩
theorem Chg.mono {w w1 : World} {ok ok' : Nat → Prop} (h : Chg w w1 ok) (ho : ∀ k, k < w.heap.size → ok k → ok' k) : Chg w w1 ok' := ⟨h.os, h.tape, h.output, h.size, fun i hi hn => h.block i hi (fun hk => hn (ho i hi hk))⟩
/-- what is new since w may be turned, too -/
theorem Chg.then {w w1 w2 : World} {ok ok' : Nat → Prop} (h : Chg w w1 ok) (k : Chg w1 w2 ok') (ho : ∀ i, i < w.heap.size → ok' i → ok i) : Chg w w2 ok :=
  ⟨k.os.trans h.os, k.tape.trans h.tape, k.output.trans h.output, Nat.le_trans h.size k.size, fun i hi hn => (k.block i (Nat.lt_of_lt_of_le hi h.size) (fun hk => hn (ho i hi hk))).trans (h.block i hi hn)⟩
theorem Chg.of_below {w w1 : World} {ok : Nat → Prop} (h : Below w.heap.size w w1) : Chg w w1 ok := ⟨h.os, h.tape, h.output, h.size, fun i hi _ => h.block i hi⟩
theorem Chg.of_grown {w w1 : World} {row : Option Nat} {ok : Nat → Prop} (h : w.grownBy w1 row) (ho : ∀ k, row = some k → ok k) : Chg w w1 ok := ⟨h.os, h.tape, h.output, h.size, fun i hi hn => h.block i hi (fun e => hn (ho i e.symm))⟩
theorem Chg.setCell (w : World) (g j : Nat) (v : Value) {ok : Nat → Prop} (ho : ok g) : Chg w (w.setCell ⟨g, j, none⟩ v) ok :=
  Chg.of_grown (row := some g) ⟨rfl, rfl, rfl, by simp, fun i _ hi => heap_setCell_other w _ i v (fun e => hi (by rw [e]))⟩ (fun k e => by injection e with e; exact e ▸ ho)
theorem Chg.drew (w : World) (ok : Nat → Prop) : Chg w w.drew ok := ⟨rfl, rfl, rfl, Nat.le_refl _, fun _ _ _ => rfl⟩
theorem Chg.drewN (w : World) (n : Nat) (ok : Nat → Prop) : Chg w (w.drewN n) ok := ⟨rfl, rfl, rfl, Nat.le_refl _, fun _ _ _ => rfl⟩
theorem Chg.below {w0 w w' : World} {ok : Nat → Prop} {B : Nat} (h : Chg w w' ok) (hb : Below B w0 w) (hB : B ≤ w.heap.size) (ho : ∀ k, ok k → B ≤ k) : Below B w0 w' :=
  hb.trans ⟨h.os, h.tape, h.output, h.size, fun i hi => h.block i (Nat.lt_of_lt_of_le hi hB) (fun hk => by have := ho i hk; omega)⟩
/-- a device in block g; its blocks lie in ok -/
def Dev (w : World) (base : Nat) (ok : Nat → Prop) (g : Nat) (D : DS) : Prop :=
  ok g ∧ base ≤ g ∧ Ok D ∧ ∃ v0 v1, w.heap[g]? = some (.cells #[v0, v1, .int .i64 D.fuse, .bool D.off] TD (0, 0)) ∧ kB.R TB w base ok v0 D.sure ∧ kW.R TW w base ok v1 D.wait
section
variable {w w1 : World} {base g : Nat} {ok ok' : Nat → Prop} {D : DS}
theorem Dev.ok_ (h : Dev w base ok g D) : Ok D := h.2.2.1
theorem Dev.lt (h : Dev w base ok g D) : g < w.heap.size := by
  obtain ⟨_, _, _, v0, v1, hg, _⟩ := h
  exact (Array.getElem?_eq_some_iff.1 hg).1
theorem Dev.mono (h : Dev w base ok g D) (ho : ∀ k, ok k → ok' k) : Dev w base ok' g D := by
  obtain ⟨h1, h2, h3, v0, v1, hg, r0, r1⟩ := h
  exact ⟨ho _ h1, h2, h3, v0, v1, hg, Kd.R_mono r0 ho, Kd.R_mono r1 ho⟩
theorem Dev.step (h : Dev w base ok g D) (hm : ∀ k, ok k → k < w.heap.size → w1.heap[k]? = w.heap[k]?) : Dev w1 base ok g D := by
  have hl := h.lt
  obtain ⟨h1, h2, h3, v0, v1, hg, r0, r1⟩ := h
  exact ⟨h1, h2, h3, v0, v1, (hm g h1 hl).trans hg, Kd.R_step r0 hm, Kd.R_step r1 hm⟩
theorem Dev.below (h : Dev w base ok g D) (hb : Below w.heap.size w w1) : Dev w1 base ok g D := h.step (fun k _ hk => hb.block k hk)
theorem Dev.bound (h : Dev w base ok g D) : Dev w base (fun k => ok k ∧ k < w.heap.size) g D := by
  have hl := h.lt
  obtain ⟨h1, h2, h3, v0, v1, hg, r0, r1⟩ := h
  exact ⟨⟨h1, hl⟩, h2, h3, v0, v1, hg, Kd.R_mono (Kd.R_bound r0) (fun k hk => ⟨hk.1, hk.2.2.1⟩), Kd.R_mono (Kd.R_bound r1) (fun k hk => ⟨hk.1, hk.2.2.1⟩)⟩
/-- another object has turned -/
theorem Dev.other {S : Nat → Prop} (h : Dev w base ok g D) (hc : Chg w w1 S) (hs : ∀ k, ok k → ¬ S k) : Dev w1 base ok g D := h.step (fun k hk hlt => hc.block k hlt (hs k hk))
theorem Dev.base_le (h : Dev w base ok g D) (hb : ∀ k, ok k → base ≤ k) : base ≤ g := h.2.1
end
end Go.Proofs.Ytgjclhhjigflkab.Dev
