/- The plain law of DeviceSure: what was synced, what was written last, what a later write touched. -/
import Derived.Test.YtgjclhhjigflkabDevAwake
namespace Go.Proofs.Ytgjclhhjigflkab.Dev
open Go
set_option linter.unusedVariables false
set_option linter.unusedSimpArgs false
theorem filledB_zero : filledB 0 = zeroB := by
  apply ByteArray.ext
  unfold filledB zeroB strOfNums
  decide +kernel
structure Pv (i : Nat) (D : DS) (sure last : List Int) (tou : List Bool) : Prop where
  eight : D.sure.length = 8
  off : D.off = false
  fuse : D.fuse = -1
  few : D.wait.length ≤ i
  at_ : ∀ x ∈ D.wait, 0 ≤ x.at_ ∧ x.at_ < 8
  ls : sure.length = 8
  ll : last.length = 8
  lt : tou.length = 8
  bs : ∀ a, a < 8 → D.sure[a]? = some (filledB (sure.getD a 0))
  bl : ∀ a, a < 8 → (D.wait.foldl putW D.sure)[a]? = some (filledB (last.getD a 0))
  bt : ∀ x ∈ D.wait, tou.getD x.at_.toNat false = true
theorem Pv.start : Pv 0 (newD (8 : Int).toNat) (List.replicate 8 0) (List.replicate 8 0) (List.replicate 8 false) := by
  have h : ∀ a, a < 8 → (newD (8 : Int).toNat).sure[a]? = some (filledB ((List.replicate 8 (0 : Int)).getD a 0)) := by
    intro a ha
    have e : (List.replicate 8 (0 : Int)).getD a 0 = 0 := by rw [List.getD_eq_getElem?_getD, List.getElem?_replicate, if_pos ha]; rfl
    rw [e, filledB_zero]
    show (List.replicate 8 zeroB)[a]? = _
    rw [List.getElem?_replicate, if_pos ha]
  exact ⟨rfl, rfl, rfl, Nat.le_refl _, (by intro x hx; cases hx), rfl, rfl, rfl, h, h, (by intro x hx; cases hx)⟩
section
variable {i : Nat} {D : DS} {sure last : List Int} {tou : List Bool}
theorem Pv.does (h : Pv i D sure last tou) : doesD D = (D, true) := by
  unfold doesD
  rw [if_neg (by rw [h.off]; decide), if_neg (by rw [h.fuse]; decide), if_neg (by rw [h.fuse]; decide)]
theorem Pv.write_eq (h : Pv i D sure last tou) (a : Nat) (c : Int) (ha : a < 8) : writeD D (a : Int) (filledB c) = (⟨D.sure, D.wait ++ [⟨(a : Int), filledB c⟩], D.fuse, D.off⟩, 0) := by
  unfold writeD
  rw [if_pos ⟨by simp [hasD, h.eight]; omega, filledB_size c⟩, h.does]
  rfl
theorem Pv.write (h : Pv i D sure last tou) (a : Nat) (c : Int) (ha : a < 8) : Pv (i + 1) (writeD D (a : Int) (filledB c)).1 sure (last.set a c) (tou.set a true) := by
  rw [h.write_eq a c ha]
  refine ⟨h.eight, h.off, h.fuse, ?_, ?_, h.ls, by simp [h.ll], by simp [h.lt], h.bs, ?_, ?_⟩
  · have := h.few
    simp
    omega
  · intro x hx
    rcases List.mem_append.1 hx with hx | hx
    · exact h.at_ x hx
    · obtain rfl := List.mem_singleton.1 hx
      exact ⟨by show (0 : Int) ≤ (a : Int); omega, by show (a : Int) < 8; omega⟩
  · intro b hb
    rw [List.foldl_append]
    show (putW (D.wait.foldl putW D.sure) ⟨(a : Int), filledB c⟩)[b]? = _
    unfold putW
    show ((D.wait.foldl putW D.sure).set (Int.toNat (a : Int)) (filledB c))[b]? = _
    rw [Int.toNat_natCast, List.getElem?_set, List.getD_eq_getElem?_getD, List.getElem?_set]
    have hl : a < (D.wait.foldl putW D.sure).length := by rw [foldl_len, h.eight]; exact ha
    have hl2 : a < last.length := by rw [h.ll]; exact ha
    by_cases e : a = b
    · subst e
      rw [if_pos rfl, if_pos rfl, if_pos hl, if_pos hl2]
      rfl
    · rw [if_neg e, if_neg e, h.bl b hb, List.getD_eq_getElem?_getD]
  · intro x hx
    have ht : a < tou.length := by rw [h.lt]; exact ha
    rcases List.mem_append.1 hx with hx | hx
    · have h2 := h.bt x hx
      rw [List.getD_eq_getElem?_getD] at h2 ⊢
      rw [List.getElem?_set]
      by_cases e : a = x.at_.toNat
      · rw [if_pos e, if_pos ht]
        rfl
      · rw [if_neg e]
        exact h2
    · obtain rfl := List.mem_singleton.1 hx
      show (tou.set a true).getD (Int.toNat (a : Int)) false = true
      rw [Int.toNat_natCast, List.getD_eq_getElem?_getD, List.getElem?_set, if_pos rfl, if_pos ht]
      rfl
theorem Pv.sync_eq (h : Pv i D sure last tou) : syncD D = (⟨D.wait.foldl putW D.sure, [], D.fuse, D.off⟩, 0) := by
  unfold syncD
  rw [h.does]
  rfl
theorem Pv.sync (h : Pv i D sure last tou) : Pv i (syncD D).1 last last (List.replicate 8 false) := by
  rw [h.sync_eq]
  exact ⟨(by show (D.wait.foldl putW D.sure).length = 8; rw [foldl_len, h.eight]), h.off, h.fuse, Nat.zero_le _, (by intro x hx; cases hx), h.ll, h.ll, rfl, h.bl, h.bl, (by intro x hx; cases hx)⟩
theorem kept_all : ∀ (ws : List Wr) (l : List ByteArray) (k : Nat) (keep : List Int), (∀ j, k ≤ j → j < k + ws.length → (j : Int) ∈ keep) → keptD keep l k ws = ws.foldl putW l
  | [], l, k, keep, h => rfl
  | w :: r, l, k, keep, h => by
    rw [keptD, if_pos (h k (Nat.le_refl _) (by simp)), List.foldl_cons]
    exact kept_all r _ _ keep (fun j h1 h2 => h j (by omega) (by simp; omega))
theorem kept_un (a : Nat) (keep : List Int) : ∀ (ws : List Wr) (l : List ByteArray) (k : Nat), (∀ x ∈ ws, x.at_.toNat ≠ a) → (keptD keep l k ws)[a]? = l[a]?
  | [], l, k, h => rfl
  | w :: r, l, k, h => by
    rw [keptD, kept_un a keep r _ _ (fun x hx => h x (List.mem_cons_of_mem _ hx))]
    split
    · unfold putW
      rw [List.getElem?_set, if_neg (h w (List.mem_cons_self ..))]
    · rfl
theorem read_of (l : List ByteArray) (a : Nat) (b : ByteArray) (h : l[a]? = some b) : readD ⟨l, [], -1, false⟩ (a : Int) = (b, 0) := by
  have hl := (List.getElem?_eq_some_iff.1 h).1
  have hh : hasD ⟨l, [], -1, false⟩ (a : Int) = true := by
    rw [has_iff]
    exact ⟨by omega, by show (a : Int) < (l.length : Int); omega⟩
  unfold readD
  rw [if_pos hh, if_neg (by simp)]
  unfold blockD
  show (l.getD (Int.toNat (a : Int)) ByteArray.empty, (0 : Int)) = _
  rw [Int.toNat_natCast, List.getD_eq_getElem?_getD, h]
  rfl
/-- kept whole, a crash is a sync -/
theorem Pv.whole (h : Pv i D sure last tou) (a : Nat) (ha : a < 8) : readD (crashD D ((List.range D.wait.length).map (fun (j : Nat) => (j : Int)))) (a : Int) = (filledB (last.getD a 0), 0) := by
  unfold crashD
  rw [kept_all D.wait D.sure 0 _ (fun j h1 h2 => List.mem_map.2 ⟨j, List.mem_range.2 (by omega), rfl⟩)]
  exact read_of _ a _ (h.bl a ha)
/-- what was synced survives, where nothing was written later -/
theorem Pv.kept (h : Pv i D sure last tou) (keep : List Int) (a : Nat) (ha : a < 8) : ∃ b, readD (crashD D keep) (a : Int) = (b, 0) ∧ (tou.getD a false = false → b = filledB (sure.getD a 0)) := by
  have hl : a < (keptD keep D.sure 0 D.wait).length := by rw [kept_len, h.eight]; exact ha
  refine ⟨_, read_of _ a _ (List.getElem?_eq_getElem hl), fun ht => ?_⟩
  have h2 := kept_un a keep D.wait D.sure 0 (fun x hx e => by
    have := h.bt x hx
    rw [e, ht] at this
    cases this)
  rw [h.bs a ha, List.getElem?_eq_getElem hl] at h2
  exact Option.some.inj h2
theorem Pv.grow (h : Pv i D sure last tou) {j : Nat} (hj : i ≤ j) : Pv j D sure last tou := ⟨h.eight, h.off, h.fuse, Nat.le_trans h.few hj, h.at_, h.ls, h.ll, h.lt, h.bs, h.bl, h.bt⟩
end
end Go.Proofs.Ytgjclhhjigflkab.Dev
