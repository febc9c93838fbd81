/- What the document's device answers: the printed functions of the reference against the plain device. -/
import Derived.Test.YtgjclhhjigflkabDevAwake
import Derived.Test.YtgjclhhjigflkabPlainEv
import Derived.Test.YtgjclhhjigflkabDx8
import Derived.Test.YtgjclhhjigflkabDx7
namespace Go.Proofs.Ytgjclhhjigflkab.Dev
open Go Go.RowKit Go.Proofs.Ytgjclhhjigflkab.D Go.Proofs.Ytgjclhhjigflkab.EvW Go.Proofs.YtgjclhhjigflkabW.PrintWords
set_option linter.unusedVariables false
set_option linter.unusedSimpArgs false
abbrev SW := S122
def toS (l : List Wr) : List SW := l.map fun x => ⟨x.at_, x.b⟩
theorem toS_len (l : List Wr) : (toS l).length = l.length := by simp [toS]
theorem toS_app (l : List Wr) (x : Wr) : toS (l ++ [x]) = toS l ++ [⟨x.at_, x.b⟩] := by simp [toS]
theorem toS_rd (l : List Wr) (i : Nat) (h : i < l.length) : rd_T122 (toS l) (i : Int) = ⟨l[i].at_, l[i].b⟩ := by
  unfold rd_T122 toS
  rw [Int.toNat_natCast, List.getD_eq_getElem?_getD, List.getElem?_map, List.getElem?_eq_getElem h]
  rfl
theorem wrap_nat (i : Nat) (h : i ≤ 100000000) : wrap64 ((i : Int) + 1) = ((i + 1 : Nat) : Int) := by unfold wrap64; omega
section
variable {D : DS}
theorem in_is (q : List SW) (f : Int) (o : Bool) (a : Int) : peristyleref04_in.f D.sure q f o a = some (hasD D a) := by
  unfold peristyleref04_in.f hasD
  by_cases h0 : 0 ≤ a
  · rw [if_pos (by omega)]
    congr 1
    rw [Bool.eq_iff_iff]
    simp [h0]
  · rw [if_neg (by omega)]
    congr 1
    rw [eq_comm, decide_eq_false_iff_not]
    omega
theorem done_is (h : Ok D) : peristyleref04_done.f D.sure (toS D.wait) D.fuse D.off = some ((doesD D).1.sure, toS (doesD D).1.wait, (doesD D).1.fuse, (doesD D).1.off, (doesD D).2) := by
  have h1 := h.fuse1
  unfold peristyleref04_done.f doesD
  by_cases h2 : D.off = true
  · rw [if_pos h2, if_pos h2]
  · rw [if_neg h2, if_neg h2]
    by_cases h3 : D.fuse = 0
    · rw [if_pos h3, if_pos h3]
    · rw [if_neg h3, if_neg h3]
      by_cases h4 : 0 < D.fuse
      · rw [if_pos (by omega), if_pos h4]
        have : wrap64 (D.fuse - 1) = D.fuse - 1 := by unfold wrap64; omega
        rw [this]
      · rw [if_neg (by omega), if_neg h4]
theorem with_is (l : List ByteArray) (a : Int) (s : ByteArray) (h0 : 0 ≤ a) (h1 : a < l.length) (hl : l.length ≤ 4096) : peristyleref04_with.f l a s = some (l.set a.toNat s) := by
  unfold peristyleref04_with.f
  rw [if_pos (by simp; omega)]
  simp only [Option.bind_some, List.nil_append]
  rw [if_pos h0, if_pos h1]
abbrev Tup (D : DS) (e : Int) : List ByteArray × List SW × Int × Bool × Int := (D.sure, toS D.wait, D.fuse, D.off, e)
theorem put_ev (h : Ok D) (hl : D.wait.length ≤ 1000000) (a : Int) (s : ByteArray) : Ev (fun k => peristyleref04_Put.f k D.sure (toS D.wait) D.fuse D.off a s) (Tup (writeD D a s).1 (writeD D a s).2) := by
  unfold peristyleref04_Put.f
  rw [in_is]
  simp only [Option.bind_some]
  have no : Ev (fun k => peristyleref04_Put.j0 k a s true D.sure (toS D.wait) D.fuse D.off) (Tup D 1) := by
    refine Ev.step (f := fun _ => some (Tup D 1)) (fun k => ?_) (Ev.now _)
    rw [peristyleref04_Put.j0, if_pos rfl]
  by_cases hh : hasD D a = true
  · refine ev_pos hh ?_
    by_cases hs : s.size = 128
    · have e1 : ((s.size : Int) != 128) = false := by simp; omega
      rw [e1]
      have e2 : writeD D a s = (if (doesD D).2 = true then (⟨(doesD D).1.sure, (doesD D).1.wait ++ [⟨a, s⟩], (doesD D).1.fuse, (doesD D).1.off⟩, 0) else ((doesD D).1, 40)) := by unfold writeD; rw [if_pos ⟨hh, hs⟩]
      rw [e2]
      have hw : (doesD D).1.wait.length ≤ 1000000 := by rw [(does_sure D).2]; exact hl
      refine Ev.step (f := fun _ => some (Tup (if (doesD D).2 = true then ((⟨(doesD D).1.sure, (doesD D).1.wait ++ [⟨a, s⟩], (doesD D).1.fuse, (doesD D).1.off⟩, 0) : DS × Int) else ((doesD D).1, 40)).1 (if (doesD D).2 = true then ((⟨(doesD D).1.sure, (doesD D).1.wait ++ [⟨a, s⟩], (doesD D).1.fuse, (doesD D).1.off⟩, 0) : DS × Int) else ((doesD D).1, 40)).2)) (fun k => ?_) (Ev.now _)
      rw [peristyleref04_Put.j0, if_neg (by decide), done_is h]
      simp only [Option.bind_some]
      by_cases h2 : (doesD D).2 = true
      · rw [if_pos h2, if_pos h2, if_pos (by rw [toS_len]; simp; omega)]
        simp only [List.nil_append]
        rw [if_pos (by rw [toS_len]; omega)]
        unfold Tup
        rw [toS_app]
      · rw [if_neg h2, if_neg h2]
    · have e1 : ((s.size : Int) != 128) = true := by simp; omega
      rw [e1]
      have e2 : writeD D a s = (D, 1) := by unfold writeD; rw [if_neg (fun x => hs x.2)]
      rw [e2]
      exact no
  · refine ev_neg hh ?_
    have e2 : writeD D a s = (D, 1) := by unfold writeD; rw [if_neg (fun x => hh x.1)]
    rw [e2]
    exact no
theorem sync_l0 (q : List Wr) (hl : q.length ≤ 1000000) (n : Nat) (hn : n ≤ 4096) (hq : ∀ x ∈ q, 0 ≤ x.at_ ∧ x.at_ < (n : Int)) (f : Int) (o : Bool) : ∀ (d i : Nat) (l : List ByteArray), i + d = q.length → l.length = n →
    Ev (fun k => peristyleref04_Sync.l0 k (i : Int) l (toS q) f o) ((q.drop i).foldl putW l, ([] : List SW), f, o, 0) := by
  intro d
  induction d with
  | zero =>
    intro i l hi hll
    refine Ev.step (f := fun _ => some (l, ([] : List SW), f, o, 0)) (fun k => ?_) ?_
    · rw [peristyleref04_Sync.l0, if_neg (by rw [toS_len]; omega)]
    · rw [List.drop_of_length_le (by omega)]
      exact Ev.now _
  | succ d ih =>
    intro i l hi hll
    have hi2 : i < q.length := by omega
    have hx := hq _ (List.getElem_mem hi2)
    refine Ev.step (f := fun k => peristyleref04_Sync.l0 k ((i + 1 : Nat) : Int) (putW l q[i]) (toS q) f o) (fun k => ?_) ?_
    · rw [peristyleref04_Sync.l0, if_pos (by rw [toS_len]; omega), if_pos (by omega), toS_rd q i hi2, with_is l _ _ hx.1 (by rw [hll]; exact hx.2) (by omega)]
      simp only [Option.bind_some]
      rw [wrap_nat i (by omega)]
      rfl
    · rw [List.drop_eq_getElem_cons hi2, List.foldl_cons]
      exact ih (i + 1) _ (by omega) (by rw [putW_len, hll])
theorem sync_ev (h : Ok D) (hl : D.wait.length ≤ 1000000) : Ev (fun k => peristyleref04_Sync.f k D.sure (toS D.wait) D.fuse D.off) (Tup (syncD D).1 (syncD D).2) := by
  unfold peristyleref04_Sync.f
  rw [done_is h]
  simp only [Option.bind_some]
  have h1 := does_ok h
  have h2 := does_sure D
  unfold syncD
  by_cases h3 : (doesD D).2 = true
  · refine ev_pos h3 ?_
    rw [if_pos h3]
    have := sync_l0 (doesD D).1.wait (by rw [h2.2]; exact hl) (doesD D).1.sure.length h1.most h1.wat (doesD D).1.fuse (doesD D).1.off _ 0 (doesD D).1.sure (Nat.zero_add _) rfl
    exact this
  · refine ev_neg h3 ?_
    rw [if_neg h3]
    exact Ev.now _
theorem fuse_is (n : Int) : peristyleref04_Fuse.f D.sure (toS D.wait) D.fuse D.off n = some ((fuseD D n).sure, toS (fuseD D n).wait, (fuseD D n).fuse, (fuseD D n).off) := by
  unfold peristyleref04_Fuse.f fuseD
  have : mx n (-1) = if n < -1 then -1 else n := by unfold mx; split <;> omega
  rw [this]
theorem has_l0 (l : List Int) (hl : l.length ≤ 9223372036854775807) (n : Int) (d : Nat) : ∀ i : Int, i + d = l.length → 0 ≤ i → Ev (fun k => peristyleref04_has.l0 k l n i) (decide (n ∈ l.drop i.toNat)) := by
  induction d with
  | zero =>
    intro i hi h0
    refine Ev.step (f := fun _ => some (decide (n ∈ l.drop i.toNat))) (fun k => ?_) (Ev.now _)
    rw [peristyleref04_has.l0, if_neg (by omega), List.drop_of_length_le (by omega)]
    simp
  | succ d ih =>
    intro i hi h0
    have hlt : i.toNat < l.length := by omega
    have hr : rd l i = l[i.toNat] := by unfold rd; rw [List.getD_eq_getElem?_getD, List.getElem?_eq_getElem hlt]; rfl
    by_cases hx : rd l i = n
    · refine Ev.step (f := fun _ => some (decide (n ∈ l.drop i.toNat))) (fun k => ?_) (Ev.now _)
      rw [peristyleref04_has.l0, if_pos (by omega), if_pos h0, if_pos hx, List.drop_eq_getElem_cons hlt]
      rw [hr] at hx
      simp [hx]
    · refine Ev.step (f := fun k => peristyleref04_has.l0 k l n (i + 1)) (fun k => ?_) ?_
      · rw [peristyleref04_has.l0, if_pos (by omega), if_pos h0, if_neg hx]
        have : wrap64 (i + 1) = i + 1 := by unfold wrap64; omega
        rw [this]
      · have e : decide (n ∈ l.drop i.toNat) = decide (n ∈ l.drop (i + 1).toNat) := by
          rw [List.drop_eq_getElem_cons hlt, show (i + 1).toNat = i.toNat + 1 by omega, ← hr]
          have : ¬ n = rd l i := fun e => hx e.symm
          simp [this]
        rw [e]
        exact ih (i + 1) (by omega) (by omega)
theorem has_ev (l : List Int) (hl : l.length ≤ 9223372036854775807) (n : Int) : Ev (fun k => peristyleref04_has.f k l n) (decide (n ∈ l)) := by
  have := has_l0 l hl n l.length 0 (by omega) (by omega)
  simpa [peristyleref04_has.f] using this
theorem spoil_l0 (D : DS) (hD : Ok D) (hl : D.wait.length ≤ 1000000) (a : Int) (s : ByteArray) (ha : hasD D a = true) : ∀ (d i : Nat) (acc : List Wr), i + d = D.wait.length → acc.length ≤ i →
    Ev (fun k => peristyleref04_Spoil.l0 k a s (toS acc) (i : Int) D.sure (toS D.wait) D.fuse D.off) (D.sure.set a.toNat s, toS (acc ++ (D.wait.drop i).filter (fun w => !decide (w.at_ = a))), D.fuse, D.off, 0) := by
  intro d
  have h2 := has_iff.1 ha
  induction d with
  | zero =>
    intro i acc hi hc
    refine Ev.step (f := fun _ => some (D.sure.set a.toNat s, toS acc, D.fuse, D.off, 0)) (fun k => ?_) ?_
    · rw [peristyleref04_Spoil.l0, if_neg (by rw [toS_len]; omega), with_is D.sure a s h2.1 h2.2 hD.most]
      rfl
    · rw [List.drop_of_length_le (by omega)]
      simp only [List.filter_nil, List.append_nil]
      exact Ev.now _
  | succ d ih =>
    intro i acc hi hc
    have hi2 : i < D.wait.length := by omega
    rw [List.drop_eq_getElem_cons hi2]
    by_cases hx : D.wait[i].at_ = a
    · refine Ev.step (f := fun k => peristyleref04_Spoil.l0 k a s (toS acc) ((i + 1 : Nat) : Int) D.sure (toS D.wait) D.fuse D.off) (fun k => ?_) ?_
      · rw [peristyleref04_Spoil.l0, if_pos (by rw [toS_len]; omega), if_pos (by omega), toS_rd _ i hi2, if_pos hx, wrap_nat i (by omega)]
      · rw [List.filter_cons_of_neg (by simp [hx])]
        exact ih (i + 1) acc (by omega) (by omega)
    · refine Ev.step (f := fun k => peristyleref04_Spoil.l0 k a s (toS (acc ++ [D.wait[i]])) ((i + 1 : Nat) : Int) D.sure (toS D.wait) D.fuse D.off) (fun k => ?_) ?_
      · rw [peristyleref04_Spoil.l0, if_pos (by rw [toS_len]; omega), if_pos (by omega), toS_rd _ i hi2, if_neg hx, if_pos (by rw [toS_len]; omega), wrap_nat i (by omega), toS_app]
      · rw [List.filter_cons_of_pos (by simp [hx])]
        have := ih (i + 1) (acc ++ [D.wait[i]]) (by omega) (by simp; omega)
        rw [List.append_assoc] at this
        exact this
theorem spoil_ev (h : Ok D) (hl : D.wait.length ≤ 1000000) (a : Int) (s : ByteArray) : Ev (fun k => peristyleref04_Spoil.f k D.sure (toS D.wait) D.fuse D.off a s) (Tup (spoilD D a s).1 (spoilD D a s).2) := by
  unfold peristyleref04_Spoil.f
  rw [in_is]
  simp only [Option.bind_some]
  have no : Ev (fun k => peristyleref04_Spoil.j0 k a s true D.sure (toS D.wait) D.fuse D.off) (Tup D 1) := by
    refine Ev.step (f := fun _ => some (Tup D 1)) (fun k => ?_) (Ev.now _)
    rw [peristyleref04_Spoil.j0, if_pos rfl]
  by_cases hh : hasD D a = true
  · refine ev_pos hh ?_
    by_cases hs : s.size = 128
    · have e1 : ((s.size : Int) != 128) = false := by simp; omega
      rw [e1]
      have e2 : spoilD D a s = (⟨D.sure.set a.toNat s, D.wait.filter (fun w => !decide (w.at_ = a)), D.fuse, D.off⟩, 0) := by unfold spoilD; rw [if_pos ⟨hh, hs⟩]
      rw [e2]
      refine Ev.step (f := fun k => peristyleref04_Spoil.l0 k a s ([] : List SW) 0 D.sure (toS D.wait) D.fuse D.off) (fun k => ?_) ?_
      · rw [peristyleref04_Spoil.j0, if_neg (by decide)]
      · exact spoil_l0 D h hl a s hh _ 0 [] (Nat.zero_add _) (Nat.le_refl _)
    · have e1 : ((s.size : Int) != 128) = true := by simp; omega
      rw [e1]
      have e2 : spoilD D a s = (D, 1) := by unfold spoilD; rw [if_neg (fun x => hs x.2)]
      rw [e2]
      exact no
  · refine ev_neg hh ?_
    have e2 : spoilD D a s = (D, 1) := by unfold spoilD; rw [if_neg (fun x => hh x.1)]
    rw [e2]
    exact no
theorem read_l0 (D : DS) (hl : D.wait.length ≤ 1000000) (a : Int) (ha : hasD D a = true) : ∀ (i : Nat), i ≤ D.wait.length →
    Ev (fun k => peristyleref04_Read.l0 k a ((i : Int) - 1) D.sure (toS D.wait) D.fuse D.off) ((D.wait.take i).foldl (fun b w => if w.at_ = a then w.b else b) (D.sure.getD a.toNat ByteArray.empty), 0) := by
  intro i
  have h2 := has_iff.1 ha
  induction i with
  | zero =>
    intro hi
    refine Ev.step (f := fun _ => some (D.sure.getD a.toNat ByteArray.empty, 0)) (fun k => ?_) (Ev.now _)
    rw [peristyleref04_Read.l0, if_neg (by omega), if_pos h2.1, if_pos h2.2]
    rfl
  | succ i ih =>
    intro hi
    have hi2 : i < D.wait.length := by omega
    rw [List.take_succ_eq_append_getElem hi2, List.foldl_append]
    show Ev _ (if D.wait[i].at_ = a then D.wait[i].b else _, _)
    by_cases hx : D.wait[i].at_ = a
    · rw [if_pos hx]
      refine Ev.step (f := fun _ => some (D.wait[i].b, 0)) (fun k => ?_) (Ev.now _)
      rw [peristyleref04_Read.l0, show ((i + 1 : Nat) : Int) - 1 = (i : Int) by omega, if_pos (by omega), if_pos (by omega), if_pos (by rw [toS_len]; omega), toS_rd _ i hi2, if_pos hx]
    · rw [if_neg hx]
      refine Ev.step (f := fun k => peristyleref04_Read.l0 k a ((i : Int) - 1) D.sure (toS D.wait) D.fuse D.off) (fun k => ?_) (ih (by omega))
      have : wrap64 ((i : Int) - 1) = (i : Int) - 1 := by unfold wrap64; omega
      rw [peristyleref04_Read.l0, show ((i + 1 : Nat) : Int) - 1 = (i : Int) by omega, if_pos (by omega), if_pos (by omega), if_pos (by rw [toS_len]; omega), toS_rd _ i hi2, if_neg hx, this]
theorem read_ev (hl : D.wait.length ≤ 1000000) (a : Int) : Ev (fun k => peristyleref04_Read.f k D.sure (toS D.wait) D.fuse D.off a) (readD D a) := by
  unfold peristyleref04_Read.f
  rw [in_is]
  simp only [Option.bind_some]
  unfold readD
  by_cases hh : hasD D a = true
  · refine ev_pos hh ?_
    rw [if_pos hh]
    by_cases ho : D.off = true
    · refine ev_pos ho ?_
      rw [if_pos ho]
      exact Ev.now _
    · refine ev_neg ho ?_
      rw [if_neg ho]
      have := read_l0 D hl a hh D.wait.length (Nat.le_refl _)
      rw [List.take_length] at this
      have e : wrap64 (((toS D.wait).length : Int) - 1) = (D.wait.length : Int) - 1 := by rw [toS_len]; unfold wrap64; omega
      rw [e]
      exact this
  · refine ev_neg hh ?_
    rw [if_neg hh]
    exact Ev.now _
theorem new_l0 (n : Nat) (hn : n ≤ 4096) : ∀ (d i : Nat), i + d = n → Ev (fun k => peristyleref04_New.l0 k (n : Int) (List.replicate i zeroB) zeroB (i : Int)) (List.replicate n zeroB, ([] : List SW), -1, false, 0) := by
  intro d
  induction d with
  | zero =>
    intro i hi
    obtain rfl : i = n := by omega
    refine Ev.step (f := fun _ => some (List.replicate i zeroB, ([] : List SW), -1, false, 0)) (fun k => ?_) (Ev.now _)
    rw [peristyleref04_New.l0, if_neg (by omega)]
  | succ d ih =>
    intro i hi
    refine Ev.step (f := fun k => peristyleref04_New.l0 k (n : Int) (List.replicate (i + 1) zeroB) zeroB ((i + 1 : Nat) : Int)) (fun k => ?_) (ih (i + 1) (by omega))
    rw [peristyleref04_New.l0, if_pos (by omega), if_pos (by simp; omega), wrap_nat i (by omega), List.replicate_succ']
theorem new_ev (n : Nat) (h0 : 1 ≤ n) (hn : n ≤ 4096) : Ev (fun k => peristyleref04_New.f k (n : Int)) (Tup (newD n) 0) := by
  unfold peristyleref04_New.f
  refine ev_neg (by omega) ?_
  have e : decide ((n : Int) > 4096) = false := decide_eq_false (by omega)
  rw [e]
  refine Ev.step (f := fun k => peristyleref04_New.l0 k (n : Int) ([] : List ByteArray) zeroB 0) (fun k => ?_) (new_l0 n hn n 0 (Nat.zero_add _))
  rw [peristyleref04_New.j0, if_neg (by decide), if_pos (by decide)]
  have e2 : strOfNums (List.replicate 128 0) = zeroB := by
    apply ByteArray.ext
    unfold zeroB strOfNums
    decide +kernel
  rw [e2]
theorem same_l0 (l : List Int) (hl : l.length ≤ 1000000) (d : Nat) : ∀ i : Int, i + d = l.length → 0 ≤ i → Ev (fun k => peristyleref01_Same.l0 k l l i) true := by
  induction d with
  | zero =>
    intro i hi h0
    refine Ev.step (f := fun _ => some true) (fun k => ?_) (Ev.now true)
    rw [peristyleref01_Same.l0, if_neg (by omega)]
  | succ d ih =>
    intro i hi h0
    refine Ev.step (f := fun k => peristyleref01_Same.l0 k l l (i + 1)) (fun k => ?_) (ih (i + 1) (by omega) (by omega))
    have : wrap64 (i + 1) = i + 1 := by unfold wrap64; omega
    simp only [peristyleref01_Same.l0, this]
    rw [if_pos (by omega), if_pos (by omega), if_pos (by omega)]
    first | rw [if_pos rfl] | rfl
theorem same_ev (l : List Int) (hl : l.length ≤ 1000000) : Ev (fun k => peristyleref01_Same.f k l l) true := ev_pos rfl (same_l0 l hl l.length 0 (by omega) (by omega))
end
end Go.Proofs.Ytgjclhhjigflkab.Dev
