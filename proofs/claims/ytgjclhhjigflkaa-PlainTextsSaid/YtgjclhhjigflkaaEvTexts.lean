/- Texts, each behind its length: what plain's and the reference's TakeTexts come to. -/
import Derived.Test.YtgjclhhjigflkaaMx10
import Derived.Test.YtgjclhhjigflkaaMx9
import Derived.Test.YtgjclhhjigflkaaEvInts
namespace Go.Proofs.Ytgjclhhjigflkaa.Pl
set_option linter.unusedVariables false
set_option linter.unusedSimpArgs false
open Go.RowKit Go.Proofs.Ytgjclhhjigflkaa.M Go.Proofs.Ytgjclhhjigflkaa.EvW Go.Proofs.Ytgjclhhjigflkaa.Vi Go.Proofs.YtgjclhhjigflkaaW.PrintWords Go.Proofs.YtgjclhhjigflkaaW.PrintLast Go.Proofs.YtgjclhhjigflkaaW.PrintMore

/-- the texts of bytes -/
def txt (s : List UInt8) : Option (List ByteArray) :=
  match s with
  | [] => some []
  | c :: t => if c.toNat ≤ 32 ∧ c.toNat ≤ t.length then (txt (t.drop c.toNat)).map fun r => ⟨(t.take c.toNat).toArray⟩ :: r else none
termination_by s.length
decreasing_by simp; omega
theorem txt_nil : txt [] = some [] := by rw [txt]
theorem txt_cons (c : UInt8) (t : List UInt8) : txt (c :: t) = if c.toNat ≤ 32 ∧ c.toNat ≤ t.length then (txt (t.drop c.toNat)).map fun r => ⟨(t.take c.toNat).toArray⟩ :: r else none := by rw [txt]
theorem txt_length (L : Nat) : ∀ s : List UInt8, s.length ≤ L → ∀ r, txt s = some r → r.length ≤ s.length := by
  induction L with
  | zero => intro s h r e; rw [List.length_eq_zero_iff.1 (by omega : s.length = 0), txt_nil] at e; cases e; simp
  | succ L ih =>
    intro s h r e
    cases s with
    | nil => rw [txt_nil] at e; cases e; simp
    | cons c t =>
      rw [txt_cons] at e
      split at e
      · rename_i hc
        rw [Option.map_eq_some_iff] at e
        obtain ⟨r', e1, rfl⟩ := e
        have := ih (t.drop c.toNat) (by rw [List.length_drop]; simp at h; omega) r' e1
        rw [List.length_drop] at this
        simp; omega
      · cases e
/-- so many texts -/
def textsS (s : List UInt8) (n : Int) : List ByteArray × Int := match txt s with
  | some r => if (r.length : Int) = n then (r, 0) else ([], 20)
  | none => ([], 20)
theorem bt0 (s : ByteArray) (c : UInt8) (t : List UInt8) (h : s.data.toList = c :: t) : bt s 0 = (c.toNat : Int) := by
  have := bt_get s 0 (by rw [h]; simp)
  simp only [h, List.getElem_cons_zero] at this
  exact this
theorem ext_data (s : ByteArray) (a b : Nat) : s.extract a b = ⟨((s.data.toList.drop a).take (b - a)).toArray⟩ := Lib.extract_eq s a b
theorem nil_iff (s : ByteArray) : s.toList = [] ↔ s.data.toList = [] := by rw [Lib.toList_data]
theorem ev_if {α : Type} (c : Prop) [Decidable c] (a b : α) : Ev (fun _ => if c then some a else some b) (if c then a else b) := Ev.congr (fun _ => by split <;> rfl) (Ev.now (if c then a else b))
theorem ttake_l0 (n : Int) (L : Nat) : ∀ (s : ByteArray) (out : List ByteArray), s.size ≤ L → out.length + L ≤ 1000000 →
    Ev (fun k => plain_TakeTexts.l0 k s n out) (match txt s.data.toList with | some r => if ((out ++ r).length : Int) = n then (out ++ r, 0) else ([], 20) | none => ([], 20)) := by
  induction L with
  | zero =>
    intro s out h1 h2
    have e : s.data.toList = [] := List.length_eq_zero_iff.1 (by rw [data_length]; omega)
    rw [e, txt_nil]
    refine Ev.step (fun k => by rw [plain_TakeTexts.l0]) (ev_pos ((nil_iff s).2 e) ?_)
    simp only [List.append_nil]
    exact ev_if _ _ _
  | succ L ih =>
    intro s out h1 h2
    cases hd : s.data.toList with
    | nil =>
      rw [txt_nil]
      refine Ev.step (fun k => by rw [plain_TakeTexts.l0]) (ev_pos ((nil_iff s).2 hd) ?_)
      simp only [List.append_nil]
      exact ev_if _ _ _
    | cons c t =>
      have hs : s.size = t.length + 1 := by rw [← data_length, hd]; rfl
      have hc := c.toNat_lt
      have hb := bt0 s c t hd
      rw [txt_cons]
      refine Ev.step (fun k => by rw [plain_TakeTexts.l0, hb, w64 (c.toNat : Int) (by omega) (by omega)]) (ev_neg (fun h => by rw [(nil_iff s).1 h] at hd; cases hd) (ev_pos (by omega) ?_))
      by_cases h32 : (c.toNat : Int) > 32
      · rw [if_neg (by omega)]
        exact ev_pos h32 (Ev.now _)
      · refine ev_neg h32 ?_
        by_cases hl : (c.toNat : Int) ≥ (s.size : Int)
        · rw [if_neg (by omega)]
          exact ev_pos hl (Ev.now _)
        · rw [if_pos (by omega)]
          refine ev_neg hl ?_
          rw [w64 (1 + (c.toNat : Int)) (by omega) (by omega)]
          refine ev_pos (by omega) (ev_pos (by omega) (ev_pos (by omega) (ev_pos (by omega) ?_)))
          have e1 : s.extract 1 ((1 + (c.toNat : Int)) : Int).toNat = ⟨(t.take c.toNat).toArray⟩ := by
            rw [ext_data, hd, show (1 + (c.toNat : Int)).toNat - 1 = c.toNat by omega]
            rfl
          have e2 : (s.extract ((1 + (c.toNat : Int)) : Int).toNat s.size).data.toList = t.drop c.toNat := by
            rw [ext_data, hd, show (1 + (c.toNat : Int)).toNat = c.toNat + 1 by omega, List.drop_succ_cons]
            exact List.take_of_length_le (by rw [List.length_drop]; omega)
          have := ih (s.extract ((1 + (c.toNat : Int)) : Int).toNat s.size) (out ++ [⟨(t.take c.toNat).toArray⟩]) (by rw [← data_length, e2, List.length_drop]; omega) (by simp; omega)
          rw [e2] at this
          rw [e1]
          cases hx : txt (t.drop c.toNat) with
          | none => rw [hx] at this; exact this
          | some r =>
            rw [hx] at this
            simp only [List.append_assoc, List.cons_append, List.nil_append] at this
            exact this
theorem ttake_ev (s : ByteArray) (n : Int) (hs : s.size ≤ 1000000) : Ev (fun k => plain_TakeTexts.f k s n) (textsS s.data.toList n) := by
  have := ttake_l0 n s.size s [] (Nat.le_refl _) (by simpa using hs)
  simp only [List.nil_append] at this
  exact Ev.congr (fun k => rfl) this
theorem rttake_l0 (s : ByteArray) (hs : s.size ≤ 1000000) (n : Int) (hn : n ≤ s.size) (d : Nat) : ∀ (out : List ByteArray) (at_ : Nat) (i : Int), 0 ≤ i → i + d = n → at_ ≤ s.size → out.length + d ≤ 1000000 →
    Ev (fun k => peristyleref07_TakeTexts.l0 k s n out (at_ : Int) i) (match txt (s.data.toList.drop at_) with | some r => if r.length = d then (out ++ r, 0) else ([], 20) | none => ([], 20)) := by
  induction d with
  | zero =>
    intro out at_ i h0 h1 h2 h3
    refine Ev.step (fun k => by rw [peristyleref07_TakeTexts.l0]) (ev_neg (by omega) ?_)
    by_cases he : at_ = s.size
    · refine ev_pos (by omega) ?_
      rw [List.drop_of_length_le (by rw [data_length]; omega), txt_nil]
      simp only [List.append_nil]
      exact Ev.now _
    · refine ev_neg (by omega) ?_
      have hlt : at_ < s.data.toList.length := by rw [data_length]; omega
      rw [List.drop_eq_getElem_cons hlt, txt_cons]
      split
      · rename_i r hr
        split at hr
        · rw [Option.map_eq_some_iff] at hr
          obtain ⟨r', _, rfl⟩ := hr
          exact Ev.now _
        · cases hr
      · exact Ev.now _
  | succ d ih =>
    intro out at_ i h0 h1 h2 h3
    refine Ev.step (fun k => by rw [peristyleref07_TakeTexts.l0]) (ev_pos (by omega) ?_)
    by_cases he : (at_ : Int) ≥ (s.size : Int)
    · refine ev_pos he ?_
      rw [List.drop_of_length_le (by rw [data_length]; omega), txt_nil]
      exact Ev.now _
    · refine ev_neg he (ev_pos (by omega) (ev_pos (by omega) ?_))
      have hlt : at_ < s.data.toList.length := by rw [data_length]; omega
      have hb := bt_get s at_ hlt
      obtain ⟨c, hcc⟩ : ∃ c, s.data.toList[at_]'hlt = c := ⟨_, rfl⟩
      rw [hcc] at hb
      have hc := c.toNat_lt
      rw [List.drop_eq_getElem_cons hlt, hcc, txt_cons, hb]
      have hlen : (s.data.toList.drop (at_ + 1)).length = s.size - at_ - 1 := by rw [List.length_drop, data_length]; omega
      by_cases h32 : (c.toNat : Int) > 32
      · rw [if_neg (by omega)]
        exact ev_pos h32 (Ev.now _)
      · refine ev_neg h32 ?_
        rw [w64 ((s.size : Int) - at_) (by omega) (by omega), w64 ((s.size : Int) - at_ - 1) (by omega) (by omega), w64 (c.toNat : Int) (by omega) (by omega), w64 ((at_ : Int) + 1) (by omega) (by omega), w64 ((at_ : Int) + 1 + c.toNat) (by omega) (by omega)]
        by_cases hl : (s.size : Int) - at_ - 1 < (c.toNat : Int)
        · rw [if_neg (by omega)]
          exact ev_pos hl (Ev.now _)
        · rw [if_pos (by omega)]
          refine ev_neg hl (ev_pos (by omega) (ev_pos (by omega) (ev_pos (by omega) (ev_pos (by omega) ?_))))
          have e1 : s.extract ((at_ : Int) + 1).toNat ((at_ : Int) + 1 + c.toNat).toNat = ⟨((s.data.toList.drop (at_ + 1)).take c.toNat).toArray⟩ := by
            rw [ext_data, show ((at_ : Int) + 1).toNat = at_ + 1 by omega, show ((at_ : Int) + 1 + c.toNat).toNat - (at_ + 1) = c.toNat by omega]
          have := ih (out ++ [⟨((s.data.toList.drop (at_ + 1)).take c.toNat).toArray⟩]) (at_ + 1 + c.toNat) (i + 1) (by omega) (by omega) (by omega) (by simp; omega)
          rw [show s.data.toList.drop (at_ + 1 + c.toNat) = (s.data.toList.drop (at_ + 1)).drop c.toNat by rw [List.drop_drop]] at this
          rw [e1, w64 (i + 1) (by omega) (by omega), show (at_ : Int) + 1 + (c.toNat : Int) = ((at_ + 1 + c.toNat : Nat) : Int) by omega]
          cases hx : txt ((s.data.toList.drop (at_ + 1)).drop c.toNat) with
          | none => rw [hx] at this; exact this
          | some r =>
            rw [hx] at this
            simp only [List.append_assoc, List.cons_append, List.nil_append] at this
            simp only [Option.map_some, List.length_cons, Nat.add_right_cancel_iff]
            exact this
theorem rttake_ev (s : ByteArray) (n : Int) (hs : s.size ≤ 1000000) : Ev (fun k => peristyleref07_TakeTexts.f k s n) (textsS s.data.toList n) := by
  have hlen : ∀ r, txt s.data.toList = some r → (r.length : Int) ≤ s.size := fun r e => by
    have := txt_length s.data.toList.length s.data.toList (Nat.le_refl _) r e
    rw [data_length] at this
    omega
  have stop : ∀ (h : ∀ r, txt s.data.toList = some r → (r.length : Int) ≠ n), Ev (fun k => peristyleref07_TakeTexts.j0 k s n true) (textsS s.data.toList n) := by
    intro h
    have e : textsS s.data.toList n = ([], 20) := by
      unfold textsS
      cases hx : txt s.data.toList with
      | none => rfl
      | some r => exact if_neg (h r hx)
    rw [e]
    exact Ev.step (fun k => by rw [peristyleref07_TakeTexts.j0, if_pos rfl]) (Ev.now _)
  by_cases h0 : n < 0
  · exact ev_pos h0 (stop (fun r e => by omega))
  · refine ev_neg h0 ?_
    by_cases h1 : n > (s.size : Int)
    · rw [decide_eq_true h1]
      exact stop (fun r e => by have := hlen r e; omega)
    · rw [decide_eq_false h1]
      refine Ev.step (fun k => by rw [peristyleref07_TakeTexts.j0]) (ev_neg (by decide) ?_)
      have := rttake_l0 s hs n (by omega) n.toNat [] 0 0 (by omega) (by omega) (by omega) (by simp; omega)
      rw [List.drop_zero] at this
      simp only [List.nil_append] at this
      unfold textsS
      cases hx : txt s.data.toList with
      | none => rw [hx] at this; exact this
      | some r =>
        rw [hx] at this
        by_cases hr : (r.length : Int) = n
        · simp only [if_pos hr]
          simp only [if_pos (show r.length = n.toNat by omega)] at this
          exact this
        · simp only [if_neg hr]
          simp only [if_neg (show ¬ (r.length = n.toNat) by omega)] at this
          exact this
/-! there and back -/
theorem ptexts_cons (s : ByteArray) (l : List ByteArray) : ptexts (s :: l) = ptext s ++ ptexts l := by simp [ptexts]
theorem txt_put (l : List ByteArray) (h : l.all short = true) : txt (ptexts l) = some l := by
  induction l with
  | nil => rw [show ptexts [] = [] from rfl, txt_nil]
  | cons s l ih =>
    rw [List.all_cons, Bool.and_eq_true] at h
    have h1 : s.size ≤ 32 := of_decide_eq_true h.1
    have hl : s.data.toList.length = s.size := data_length s
    rw [ptexts_cons, ptext, List.cons_append, txt_cons, u8n _ (by omega), if_pos ⟨h1, by rw [List.length_append]; omega⟩, List.drop_left' hl, List.take_left' hl, ih h.2]
    rfl
theorem put_txt (L : Nat) : ∀ s : List UInt8, s.length ≤ L → ∀ r, txt s = some r → ptexts r = s ∧ r.all short = true := by
  induction L with
  | zero => intro s h r e; rw [List.length_eq_zero_iff.1 (by omega : s.length = 0), txt_nil] at e; cases e; rw [List.length_eq_zero_iff.1 (by omega : s.length = 0)]; exact ⟨rfl, rfl⟩
  | succ L ih =>
    intro s h r e
    cases s with
    | nil => rw [txt_nil] at e; cases e; exact ⟨rfl, rfl⟩
    | cons c t =>
      rw [txt_cons] at e
      split at e
      · rename_i hc
        rw [Option.map_eq_some_iff] at e
        obtain ⟨r', e1, rfl⟩ := e
        obtain ⟨i1, i2⟩ := ih (t.drop c.toNat) (by rw [List.length_drop]; simp at h; omega) r' e1
        have hsz : (⟨(t.take c.toNat).toArray⟩ : ByteArray).size = c.toNat := by
          rw [← data_length, List.length_take]
          omega
        refine ⟨?_, ?_⟩
        · rw [ptexts_cons, ptext, hsz, i1, List.cons_append, UInt8.ofNat_toNat]
          rw [List.take_append_drop]
        · rw [List.all_cons, i2, Bool.and_true]
          exact decide_eq_true (by rw [hsz]; exact hc.1)
      · cases e
end Go.Proofs.Ytgjclhhjigflkaa.Pl
