/- The device, plain: what is sure, what waits, the fuse, is it off; and its calls. -/
import Derived.Test.YtgjclhhjigflkabWWords
namespace Go.Proofs.Ytgjclhhjigflkab.Dev
open Go Go.RowKit Go.Proofs.YtgjclhhjigflkabW.PrintWords
set_option linter.unusedVariables false
/-- a write that waits -/
structure Wr where
  at_ : Int
  b : ByteArray
/-- a device -/
structure DS where
  sure : List ByteArray
  wait : List Wr
  fuse : Int
  off : Bool
/-- a device's state may be: blocks of 128 bytes, writes to blocks that there are -/
structure Ok (D : DS) : Prop where
  pos : 0 < D.sure.length
  most : D.sure.length ≤ 4096
  sz : ∀ b ∈ D.sure, b.size = 128
  wsz : ∀ w ∈ D.wait, w.b.size = 128
  wat : ∀ w ∈ D.wait, 0 ≤ w.at_ ∧ w.at_ < D.sure.length
  fuse0 : -1 ≤ D.fuse
  fuse1 : D.fuse ≤ 9223372036854775807
def zeroB : ByteArray := ⟨(List.replicate 128 (0 : UInt8)).toArray⟩
theorem zeroB_size : zeroB.size = 128 := by simp [zeroB, ByteArray.size]
def newD (n : Nat) : DS := ⟨List.replicate n zeroB, [], -1, false⟩
theorem newD_ok (n : Nat) (h0 : 0 < n) (h1 : n ≤ 4096) : Ok (newD n) := by
  refine ⟨by simpa [newD] using h0, by simpa [newD] using h1, fun b hb => ?_, by simp [newD], by simp [newD], by simp [newD], by simp [newD]⟩
  simp only [newD, List.mem_replicate] at hb
  rw [hb.2]
  exact zeroB_size
def hasD (D : DS) (a : Int) : Bool := decide (0 ≤ a ∧ a < D.sure.length)
def blockD (D : DS) (a : Int) : ByteArray := D.wait.foldl (fun b w => if w.at_ = a then w.b else b) (D.sure.getD a.toNat ByteArray.empty)
def readD (D : DS) (a : Int) : ByteArray × Int := if hasD D a = true then (if D.off = true then (ByteArray.empty, 40) else (blockD D a, 0)) else (ByteArray.empty, 1)
def doesD (D : DS) : DS × Bool := if D.off = true then (D, false) else if D.fuse = 0 then (⟨D.sure, D.wait, -1, true⟩, false) else if 0 < D.fuse then (⟨D.sure, D.wait, D.fuse - 1, D.off⟩, true) else (D, true)
def writeD (D : DS) (a : Int) (s : ByteArray) : DS × Int :=
  if hasD D a = true ∧ s.size = 128 then (if (doesD D).2 = true then (⟨(doesD D).1.sure, (doesD D).1.wait ++ [⟨a, s⟩], (doesD D).1.fuse, (doesD D).1.off⟩, 0) else ((doesD D).1, 40)) else (D, 1)
def putW (l : List ByteArray) (w : Wr) : List ByteArray := l.set w.at_.toNat w.b
def syncD (D : DS) : DS × Int := if (doesD D).2 = true then (⟨(doesD D).1.wait.foldl putW (doesD D).1.sure, [], (doesD D).1.fuse, (doesD D).1.off⟩, 0) else ((doesD D).1, 40)
def fuseD (D : DS) (n : Int) : DS := ⟨D.sure, D.wait, if n < -1 then -1 else n, D.off⟩
def keptD (keep : List Int) : List ByteArray → Nat → List Wr → List ByteArray
  | l, _, [] => l
  | l, k, w :: r => keptD keep (if (k : Int) ∈ keep then putW l w else l) (k + 1) r
def crashD (D : DS) (keep : List Int) : DS := ⟨keptD keep D.sure 0 D.wait, [], -1, false⟩
def spoilD (D : DS) (a : Int) (s : ByteArray) : DS × Int :=
  if hasD D a = true ∧ s.size = 128 then (⟨D.sure.set a.toNat s, D.wait.filter (fun w => !decide (w.at_ = a)), D.fuse, D.off⟩, 0) else (D, 1)
/-! what they keep -/
theorem does_sure (D : DS) : (doesD D).1.sure = D.sure ∧ (doesD D).1.wait = D.wait := by
  unfold doesD
  split
  · exact ⟨rfl, rfl⟩
  · split
    · exact ⟨rfl, rfl⟩
    · split <;> exact ⟨rfl, rfl⟩
theorem does_ok {D : DS} (h : Ok D) : Ok (doesD D).1 := by
  have h2 := does_sure D
  refine ⟨by rw [h2.1]; exact h.pos, by rw [h2.1]; exact h.most, by rw [h2.1]; exact h.sz, by rw [h2.2]; exact h.wsz, by rw [h2.1, h2.2]; exact h.wat, ?_, ?_⟩
  · have := h.fuse0
    unfold doesD
    split
    · exact this
    · split
      · exact Int.le_refl _
      · split
        · show -1 ≤ D.fuse - 1
          omega
        · exact this
  · have := h.fuse1
    unfold doesD
    split
    · exact this
    · split
      · show (-1 : Int) ≤ _; decide
      · split
        · show D.fuse - 1 ≤ _
          omega
        · exact this
theorem has_iff {D : DS} {a : Int} : hasD D a = true ↔ 0 ≤ a ∧ a < D.sure.length := by simp [hasD]
theorem write_ok {D : DS} (h : Ok D) (a : Int) (s : ByteArray) : Ok (writeD D a s).1 := by
  unfold writeD
  split
  · rename_i hc
    have h1 := does_ok h
    have h2 := does_sure D
    split
    · refine ⟨h1.pos, h1.most, h1.sz, ?_, ?_, h1.fuse0, h1.fuse1⟩
      · intro w hw
        rcases List.mem_append.1 hw with hw | hw
        · exact h1.wsz w hw
        · rw [List.mem_singleton] at hw
          subst hw
          exact hc.2
      · intro w hw
        rcases List.mem_append.1 hw with hw | hw
        · exact h1.wat w hw
        · rw [List.mem_singleton] at hw
          subst hw
          have := has_iff.1 hc.1
          rw [← h2.1] at this
          exact this
    · exact h1
  · exact h
theorem putW_len (l : List ByteArray) (w : Wr) : (putW l w).length = l.length := by simp [putW]
theorem putW_sz {l : List ByteArray} {w : Wr} (h : ∀ b ∈ l, b.size = 128) (hw : w.b.size = 128) : ∀ b ∈ putW l w, b.size = 128 := by
  intro b hb
  rcases List.mem_or_eq_of_mem_set hb with hb | hb
  · exact h b hb
  · rw [hb]; exact hw
theorem foldl_len : ∀ (r : List Wr) (l : List ByteArray), (r.foldl putW l).length = l.length
  | [], _ => rfl
  | w :: r, l => by rw [List.foldl_cons, foldl_len r, putW_len]
theorem foldl_sz : ∀ (r : List Wr) (l : List ByteArray), (∀ b ∈ l, b.size = 128) → (∀ w ∈ r, w.b.size = 128) → ∀ b ∈ r.foldl putW l, b.size = 128
  | [], _, h, _ => h
  | w :: r, l, h, hr => foldl_sz r _ (putW_sz h (hr w (by simp))) (fun x hx => hr x (by simp [hx]))
theorem kept_len (keep : List Int) : ∀ (r : List Wr) (l : List ByteArray) (k : Nat), (keptD keep l k r).length = l.length
  | [], _, _ => rfl
  | w :: r, l, k => by
    rw [keptD, kept_len keep r]
    split
    · exact putW_len _ _
    · rfl
theorem kept_sz (keep : List Int) : ∀ (r : List Wr) (l : List ByteArray) (k : Nat), (∀ b ∈ l, b.size = 128) → (∀ w ∈ r, w.b.size = 128) → ∀ b ∈ keptD keep l k r, b.size = 128
  | [], _, _, h, _ => h
  | w :: r, l, k, h, hr => by
    rw [keptD]
    refine kept_sz keep r _ _ ?_ (fun x hx => hr x (by simp [hx]))
    split
    · exact putW_sz h (hr w (by simp))
    · exact h
theorem sync_ok {D : DS} (h : Ok D) : Ok (syncD D).1 := by
  unfold syncD
  have h1 := does_ok h
  split
  · exact ⟨by rw [foldl_len]; exact h1.pos, by rw [foldl_len]; exact h1.most, foldl_sz _ _ h1.sz h1.wsz, by simp, by simp, h1.fuse0, h1.fuse1⟩
  · exact h1
theorem crash_ok {D : DS} (h : Ok D) (keep : List Int) : Ok (crashD D keep) := by
  refine ⟨?_, ?_, kept_sz _ _ _ _ h.sz h.wsz, by simp [crashD], by simp [crashD], by simp [crashD], by simp [crashD]⟩
  · show 0 < (keptD keep D.sure 0 D.wait).length
    rw [kept_len]
    exact h.pos
  · show (keptD keep D.sure 0 D.wait).length ≤ 4096
    rw [kept_len]
    exact h.most
theorem fuse_ok {D : DS} (h : Ok D) (n : Int) (hn : n ≤ 9223372036854775807) : Ok (fuseD D n) := by
  refine ⟨h.pos, h.most, h.sz, h.wsz, h.wat, ?_, ?_⟩
  · show -1 ≤ if n < -1 then -1 else n
    split <;> omega
  · show (if n < -1 then -1 else n) ≤ _
    split <;> omega
theorem spoil_ok {D : DS} (h : Ok D) (a : Int) (s : ByteArray) : Ok (spoilD D a s).1 := by
  unfold spoilD
  split
  · rename_i hc
    refine ⟨by simpa using h.pos, by simpa using h.most, ?_, fun w hw => h.wsz w (List.mem_filter.1 hw).1, fun w hw => by simpa using h.wat w (List.mem_filter.1 hw).1, h.fuse0, h.fuse1⟩
    exact fun b hb => by
      rcases List.mem_or_eq_of_mem_set hb with hb | hb
      · exact h.sz b hb
      · rw [hb]; exact hc.2
  · exact h
theorem block_size {D : DS} (h : Ok D) (a : Int) (ha : hasD D a = true) : (blockD D a).size = 128 := by
  have key : ∀ (r : List Wr) (b : ByteArray), (∀ w ∈ r, w.b.size = 128) → b.size = 128 → (r.foldl (fun b w => if w.at_ = a then w.b else b) b).size = 128 := by
    intro r
    induction r with
    | nil => exact fun b _ hb => hb
    | cons w r ih =>
      intro b hr hb
      rw [List.foldl_cons]
      refine ih _ (fun x hx => hr x (by simp [hx])) ?_
      split
      · exact hr w (by simp)
      · exact hb
  refine key _ _ h.wsz ?_
  have h2 := has_iff.1 ha
  have h3 : a.toNat < D.sure.length := by omega
  rw [List.getD_eq_getElem?_getD, List.getElem?_eq_getElem h3]
  exact h.sz _ (List.getElem_mem h3)
end Go.Proofs.Ytgjclhhjigflkab.Dev
