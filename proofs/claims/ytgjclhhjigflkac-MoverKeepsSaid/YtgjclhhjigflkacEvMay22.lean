/- Mover: whether a live row may be (by the reference), and which rows are seen. -/
import Derived.Test.YtgjclhhjigflkacMx8
import Derived.Test.YtgjclhhjigflkacMx6
import Derived.Test.YtgjclhhjigflkacEvRput
import Derived.Test.YtgjclhhjigflkacEvVec
namespace Go.Proofs.Ytgjclhhjigflkac.Mv
set_option linter.unusedVariables false
set_option linter.unusedSimpArgs false
open Go.RowKit Go.Proofs.Ytgjclhhjigflkac.M Go.Proofs.Ytgjclhhjigflkac.Vi Go.Proofs.Ytgjclhhjigflkac.EvW Go.Proofs.Ytgjclhhjigflkac.Ru Go.Proofs.YtgjclhhjigflkacW.PrintWords Go.Proofs.YtgjclhhjigflkacW.PrintLast Go.Proofs.YtgjclhhjigflkacW.PrintMore
theorem rdC (l : List C) (i : Nat) (h : i < l.length) : rd_T98 l (i : Int) = l[i] := by
  unfold rd_T98
  rw [Int.toNat_natCast, List.getD_eq_getElem?_getD, List.getElem?_eq_getElem h]
  rfl
theorem cmay (c : C) : ∃ b, peristyleref06_May.f c.f0 c.f1 c.f2 = some b ∧ (b = true → c.f0 = 2 → c.f2.size ≤ 32) := by
  unfold peristyleref06_May.f
  by_cases h0 : c.f0 = 0
  · rw [if_pos h0]
    split
    · exact ⟨_, rfl, fun _ h => by omega⟩
    · exact ⟨_, rfl, fun h => by cases h⟩
  · rw [if_neg h0]
    by_cases h1 : c.f0 = 1
    · rw [if_pos h1]
      exact ⟨_, rfl, fun _ h => by omega⟩
    · rw [if_neg h1]
      by_cases h2 : c.f0 = 2
      · rw [if_pos h2]
        split
        · exact ⟨_, rfl, fun h _ => by have := of_decide_eq_true h; omega⟩
        · exact ⟨_, rfl, fun h => by cases h⟩
      · rw [if_neg h2]
        exact ⟨_, rfl, fun h => by cases h⟩
theorem vput_size (n : Int) (h : wf64 n) : (vputB n).size ≤ 10 := by
  rw [← data_length, vput_data n h]
  have := zz_lt n h
  exact (vbu_len 9 (zz n) (by rw [p64]; omega)).2.1
theorem cbytes (c : C) (hw : wf64 c.f1) (h2 : c.f0 = 2 → c.f2.size ≤ 32) : ∃ B : ByteArray, Ev (fun k => peristyleref06_bytes.f k c.f0 c.f1 c.f2) B ∧ B.size ≤ 100 := by
  by_cases h1 : c.f0 = 1
  · have hs : (strOfNums ([c.f0 % 256] : List Int)).size = 1 := by rw [strOfNums_size]; rfl
    have hv := vput_size c.f1 hw
    refine ⟨strOfNums ([c.f0 % 256] : List Int) ++ vputB c.f1, Ev.congr (fun k => by rw [peristyleref06_bytes.f, Option.bind_some]) (ev_pos h1 (Ev.bind (Vr.rput_ev _ hw) ?_)), ?_⟩
    · exact ev_pos (by omega) (Ev.now _)
    · rw [ByteArray.size_append]
      omega
  · by_cases h3 : c.f0 = 2
    · have hs : (strOfNums ([c.f0 % 256] : List Int)).size = 1 := by rw [strOfNums_size]; rfl
      have hs2 : (strOfNums ([(c.f2.size : Int) % 256] : List Int)).size = 1 := by rw [strOfNums_size]; rfl
      have hv := h2 h3
      refine ⟨_, Ev.congr (fun k => by rw [peristyleref06_bytes.f, Option.bind_some]) (ev_neg h1 (ev_pos h3 (Ev.congr (fun k => by rw [Option.bind_some]) (ev_pos (by omega) (ev_pos (by rw [ByteArray.size_append]; omega) (Ev.now _)))))), ?_⟩
      rw [ByteArray.size_append, ByteArray.size_append]
      omega
    · have hs : (strOfNums ([c.f0 % 256] : List Int)).size = 1 := by rw [strOfNums_size]; rfl
      refine ⟨_, Ev.congr (fun k => by rw [peristyleref06_bytes.f, Option.bind_some]) (ev_neg h1 (ev_neg h3 (Ev.now _))), ?_⟩
      omega
theorem rowput_l0 (l : List C) (hl : l.length ≤ 20) (hw : ∀ c ∈ l, wf64 c.f1) (d : Nat) : ∀ (i : Nat) (acc : ByteArray), i + d = l.length → acc.size ≤ 1 + 100 * i → ∃ r, Ev (fun k => peristyleref06_Put.l0 k l acc (i : Int)) r := by
  induction d with
  | zero =>
    intro i acc h ha
    exact ⟨_, Ev.step (fun k => by rw [peristyleref06_Put.l0]) (ev_neg (by omega) (Ev.now _))⟩
  | succ d ih =>
    intro i acc h ha
    have hi : i < l.length := by omega
    obtain ⟨b, hb, hb2⟩ := cmay l[i]
    cases b with
    | false => exact ⟨_, Ev.step (fun k => by rw [peristyleref06_Put.l0, rdC l i hi, hb, Option.bind_some]) (ev_pos (by omega) (ev_pos (by omega) (ev_neg (by decide) (Ev.now _))))⟩
    | true =>
      obtain ⟨B, hB, hs⟩ := cbytes l[i] (hw _ (List.getElem_mem hi)) (hb2 rfl)
      obtain ⟨r, hr⟩ := ih (i + 1) (acc ++ B) (by omega) (by rw [ByteArray.size_append]; omega)
      refine ⟨r, Ev.step (fun k => by rw [peristyleref06_Put.l0, rdC l i hi, hb, Option.bind_some]) (ev_pos (by omega) (ev_pos (by omega) (ev_pos rfl (Ev.bind hB ?_))))⟩
      refine ev_pos (by omega) ?_
      rw [w64 _ (by omega) (by omega)]
      rw [Int.natCast_add] at hr
      exact hr
theorem rowput_ev (l : List C) (hl : l.length ≤ 20) (hw : ∀ c ∈ l, wf64 c.f1) : ∃ r, Ev (fun k => peristyleref06_Put.f k l) r := by
  obtain ⟨r, hr⟩ := rowput_l0 l hl hw l.length 0 (strOfNums ([(l.length : Int) % 256])) (by omega) (by rw [strOfNums_size]; simp)
  exact ⟨r, ev_neg (by omega) hr⟩
theorem epoch_some (n : Int) : ∃ b, peristyleref22_epoch.f n = some b ∧ (b = true → 1 ≤ n ∧ n ≤ 1099511627776) := by
  unfold peristyleref22_epoch.f
  by_cases h : n ≥ 1
  · rw [if_pos h]
    exact ⟨_, rfl, fun hb => ⟨h, of_decide_eq_true hb⟩⟩
  · rw [if_neg h]
    exact ⟨_, rfl, fun hb => by cases hb⟩
/-- the epochs of a live row that may be -/
def goodL (x : L) : Prop := (1 ≤ x.f1 ∧ x.f1 ≤ 1099511627776) ∧ (x.f2 = 0 ∨ 1 ≤ x.f2 ∧ x.f2 ≤ 1099511627776)
theorem may22_ev (x : L) (hl : x.f0.length ≤ 20) (hw : ∀ c ∈ x.f0, wf64 c.f1) : ∃ b, Ev (fun k => peristyleref22_May.f k x.f0 x.f1 x.f2) b ∧ (b = true → goodL x) := by
  obtain ⟨r, hr⟩ := rowput_ev x.f0 hl hw
  by_cases h0 : r.2 = 0
  · obtain ⟨b1, e1, g1⟩ := epoch_some x.f1
    obtain ⟨b2, e2, g2⟩ := epoch_some x.f2
    cases b1 with
    | false => exact ⟨false, Ev.bind hr (ev_pos h0 (Ev.congr (fun k => by rw [e1, Option.bind_some]) (ev_neg (by decide) (Ev.now _)))), fun h => by cases h⟩
    | true =>
      by_cases hz : x.f2 = 0
      · exact ⟨true, Ev.bind hr (ev_pos h0 (Ev.congr (fun k => by rw [e1, Option.bind_some]) (ev_pos rfl (ev_pos hz (Ev.now _))))), fun _ => ⟨g1 rfl, .inl hz⟩⟩
      · exact ⟨b2, Ev.bind hr (ev_pos h0 (Ev.congr (fun k => by rw [e1, Option.bind_some]) (ev_pos rfl (ev_neg hz (Ev.congr (fun k => by rw [e2, Option.bind_some]) (Ev.now _)))))), fun h => ⟨g1 rfl, .inr (g2 h)⟩⟩
  · exact ⟨false, Ev.bind hr (ev_neg h0 (Ev.now _)), fun h => by cases h⟩
/-! the rows that are seen -/
def seesB (e : Int) (x : L) : Bool := decide (x.f1 ≤ e) && (decide (x.f2 = 0) || decide (x.f2 > e))
theorem sees_is (e : Int) (x : L) : peristyleref21_Sees.f x.f1 x.f2 e = some (seesB e x) := by
  unfold peristyleref21_Sees.f seesB
  by_cases h1 : x.f1 ≤ e
  · by_cases h2 : x.f2 = 0
    · simp [h1, h2]
    · simp [h1, h2]
  · simp [h1]
def seenS (e : Int) (l : List L) : List (List C) := (l.filter (seesB e)).map (·.f0)
theorem seenS_len (e : Int) (l : List L) : (seenS e l).length ≤ l.length := by
  unfold seenS
  rw [List.length_map]
  exact List.length_filter_le _ _
theorem seen_l0 (e : Int) (l : List L) (hl : l.length ≤ 1000000) : ∀ (rest done : List L) (out : List (List C)), l = done ++ rest → out.length ≤ done.length →
    Ev (fun k => peristylelaw27_seen.l0 k l e out (done.length : Int)) (out ++ seenS e rest) := by
  intro rest
  induction rest with
  | nil =>
    intro done out h _
    exact Ev.step (fun k => by rw [peristylelaw27_seen.l0]) (ev_neg (by rw [h]; simp) (Ev.congr (fun _ => by simp [seenS]) (Ev.now _)))
  | cons r rest ih =>
    intro done out h ho
    have hlen : l.length = done.length + 1 + rest.length := by rw [h]; simp; omega
    have hr : rd_T28 l (done.length : Int) = r := by rw [h]; exact rdL_mid done rest r
    have hl2 : l = (done ++ [r]) ++ rest := by rw [h]; simp
    have hw : wrap64 ((done.length : Int) + 1) = ((done ++ [r]).length : Int) := by rw [w64 _ (by omega) (by omega)]; simp
    refine Ev.step (fun k => by rw [peristylelaw27_seen.l0, hr, hw, sees_is, Option.bind_some]) (ev_pos (by omega) (ev_pos (by omega) ?_))
    cases hs : seesB e r with
    | true =>
      refine ev_pos rfl (ev_pos (by omega) ?_)
      have := ih (done ++ [r]) (out ++ [r.f0]) hl2 (by simp; omega)
      rw [List.append_assoc] at this
      unfold seenS at this ⊢
      rw [List.filter_cons, if_pos hs]
      exact this
    | false =>
      refine ev_neg (by decide) ?_
      have := ih (done ++ [r]) out hl2 (by simp; omega)
      unfold seenS at this ⊢
      rw [List.filter_cons, if_neg (by rw [hs]; decide)]
      exact this
theorem seen_ev (e : Int) (l : List L) (hl : l.length ≤ 1000000) : Ev (fun k => peristylelaw27_seen.f k l e) (seenS e l) := by
  have := seen_l0 e l hl l [] [] rfl (by simp)
  rw [List.nil_append] at this
  exact this
theorem seen_merge (low e : Int) (h : low ≤ e) (a b : List L) : seenS e ((a ++ b).filter fun x => !goneB low x) = seenS e a ++ seenS e b := by
  unfold seenS
  rw [← List.map_append, ← List.filter_append, List.filter_filter]
  congr 1
  apply List.filter_congr
  intro x _
  unfold seesB goneB
  by_cases h1 : x.f1 ≤ e <;> by_cases h2 : x.f2 = 0 <;> by_cases h3 : x.f2 > e <;> simp [h1, h2, h3] <;> omega
/-! apart, and together again -/
theorem marks_at : ∀ (l : List L) (i : Nat), ∀ m ∈ marksS i l, (i : Int) ≤ m.f0 ∧ m.f0 < (i : Int) + l.length
  | [], _ => by simp [marksS]
  | r :: l, i => by
    intro m hm
    rw [marksS] at hm
    have ih := marks_at l (i + 1)
    split at hm
    · have := ih m hm
      simp only [List.length_cons]
      omega
    · rcases List.mem_cons.1 hm with rfl | hm
      · simp only [List.length_cons]
        omega
      · have := ih m hm
        simp only [List.length_cons]
        omega
theorem marks_good : ∀ (l : List L) (i : Nat) (p : Int), p < i → i + l.length ≤ 4096 → (∀ x ∈ l, goodL x) → goodS p (marksS i l) = true
  | [], _, _, _, _, _ => by simp [marksS, goodS]
  | r :: l, i, p, hp, hi, hg => by
    have h1 := hg r (by simp)
    have h2 := fun x hx => hg x (List.mem_cons_of_mem _ hx)
    simp only [List.length_cons] at hi
    rw [marksS]
    split
    · exact marks_good l (i + 1) p (by omega) (by omega) h2
    · rename_i hz
      have h3 : 1 ≤ r.f2 ∧ r.f2 ≤ 1099511627776 := h1.2.resolve_left hz
      rw [goodS, if_neg (by show ¬ (i : Int) ≤ p; omega), if_neg (by show ¬ (i : Int) ≥ 4096; omega), if_pos h3]
      exact marks_good l (i + 1) i (by omega) (by omega) h2
theorem gone_low : ∀ (ms : List Mk) (i : Int), (∀ m ∈ ms, i < m.f0) → goneS i ms = 0
  | [], _, _ => rfl
  | m :: ms, i, h => by
    rw [goneS, if_neg (by have := h m (by simp); omega)]
    exact gone_low ms i (fun x hx => h x (List.mem_cons_of_mem _ hx))
theorem gone_marks : ∀ (l : List L) (j i : Nat) (h : i < l.length), goneS ((j + i : Nat) : Int) (marksS j l) = l[i].f2
  | [], _, _, h => by simp at h
  | r :: l, j, 0, _ => by
    rw [marksS]
    have hlow : ∀ m ∈ marksS (j + 1) l, ((j + 0 : Nat) : Int) < m.f0 := fun m hm => by have := (marks_at l (j + 1) m hm).1; omega
    split
    · rename_i hz
      rw [gone_low _ _ hlow]
      exact hz.symm
    · rw [goneS, if_pos (by simp)]
      rfl
  | r :: l, j, i + 1, h => by
    have h2 : i < l.length := by simpa using h
    have ih := gone_marks l (j + 1) i h2
    rw [show j + 1 + i = j + (i + 1) by omega] at ih
    rw [marksS]
    split
    · simpa using ih
    · rw [goneS, if_neg (by show ¬ (j : Int) = _; omega)]
      simpa using ih
theorem vecS_1 (l : List L) : (vecS l).1 = l.map (·.f0) := rfl
theorem vecS_2 (l : List L) : (vecS l).2.1 = ofS (l.map (·.f1)) := rfl
theorem vecS_3 (l : List L) : (vecS l).2.2 = marksS 0 l := rfl
theorem lives_back (l : List L) (hl : l.length ≤ 60) (hg : ∀ x ∈ l, goodL x) : livesS (vecS l).1 (vecS l).2.1 (vecS l).2.2 = (l, 0) := by
  rw [vecS_1, vecS_2, vecS_3]
  have hi := ofS_inv (l.map (·.f1)) (by rw [List.length_map]; omega)
  have hm := marks_at l 0
  have htail : tailB (l.map (·.f0)) (marksS 0 l) = false := by
    unfold tailB
    by_cases h0 : ((marksS 0 l).length : Int) > 0
    · rw [if_pos h0]
      have hlen := marksS_len l 0
      obtain ⟨n, hn⟩ : ∃ n, (marksS 0 l).length = n + 1 := ⟨(marksS 0 l).length - 1, by omega⟩
      have e : wrap64 (((marksS 0 l).length : Int) - 1) = ((n : Nat) : Int) := by rw [w64 _ (by omega) (by omega)]; omega
      rw [e, rdM _ n (by omega), List.length_map]
      have := (hm _ (List.getElem_mem (show n < (marksS 0 l).length by omega))).2
      exact decide_eq_false (by omega)
    · rw [if_neg h0]
  unfold livesS
  rw [if_pos ⟨by rw [hi.cnt], marks_good l 0 (-1) (by omega) (by omega) hg, by rw [hi.flat, List.length_map, List.length_map], htail⟩, hi.flat]
  congr 1
  apply List.ext_getElem
  · simp
  · intro i h1 h2
    have hi2 : i < l.length := h2
    rw [List.getElem_map, List.getElem_range']
    unfold rowS
    rw [Nat.zero_add, Nat.one_mul, rdRow _ i (by rw [List.length_map]; omega), rd_at _ i (by rw [List.length_map]; omega), List.getElem_map, List.getElem_map]
    have := gone_marks l 0 i hi2
    rw [Nat.zero_add] at this
    rw [this]
end Go.Proofs.Ytgjclhhjigflkac.Mv
