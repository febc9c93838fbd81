/- The walk of mover.Merge: two rows one behind the other, without the elements that are gone. -/
import Derived.Test.YtgjclhhjigflkacDeleteLive
import Derived.Outline
namespace Go.Proofs.Ytgjclhhjigflkac.M
open Go Go.RowKit Go.Proofs.Ytgjclhhjigflkac.MyWords Go.Proofs.Ytgjclhhjigflkac.Hand Go.Proofs.YtgjclhhjigflkacW.PrintWords Go.Proofs.YtgjclhhjigflkacW.PrintLast Go.Proofs.YtgjclhhjigflkacW.PrintMore
set_option linter.unusedVariables false
set_option linter.unusedSimpArgs false
abbrev TLive := S28
theorem grow_live (n : Nat) (hn : n ≤ 1000000) (w : World) :
    Calls Try.prog 92 #[.slice none 0 0, .int .i64 (n : Int)] w fun e w' => ∃ v0_ : Value, e = .returned (v0_) ∧ Kd.N k28 28 w' w.heap.size (fun k_ => w.heap.size ≤ k_) v0_ [] ∧ Below w.heap.size w w' := by
  by_cases h0 : n = 0
  · subst h0
    go_enter Try.func92, Try.ntmps92
    go_wp2
    go_ret
    exact ⟨_, rfl, Kd.N_nil _ _ _ _ _, Below.refl _ _⟩
  · have hpos : (0 : Int) < (n : Int) := by omega
    go_enter Try.func92, Try.ntmps92
    go_wp2_with (first | ((with_reducible refine gate_builtin (b := .append) (xs := #[.tmp 20, .tmp 21]) rfl ?_); at_builtin; refine Kd.N_append_zeros k28 (w0 := w) w.heap.size rfl (.tmp 20) (.tmp 21) 22 3 28 (.agg #[(.slice none 0 0), (.int .i64 0), (.int .i64 0)]) 40 rfl Try.underlying22 Try.underlying3 info28 rfl (by decide) (by omega) (.slice none 0 0) ([] : List TLive) z28 (kx := .i64) (n : Int) (fun k_ => w.heap.size ≤ k_) rfl rfl ?aZ (fun _ hk => hk) (Kd.N_nil _ _ _ _ _) (by omega) (Below.refl _ _) (Nat.le_refl _) (by simp; omega) ?_; (case aZ => exact k28_mkF _ _ z28 (by simp [z28]) (Kd.F_nil _ _ _)); intro v1 w1 ho hb hg hat; have HO := Aside0.mk ho; have HB := Aside0.mk hb; clear ho hb hg hat; obtain ⟨A1, c1, rfl⟩ := Kd.N_slice HO.out))
    go_ret
    exact ⟨_, rfl, Kd.N_take (m := 0) HO.out (Nat.zero_le _), HB.out⟩
theorem two_le (k : Nat) (h : k ≤ 2) : k = 0 ∨ k = 1 ∨ k = 2 := by omega
set_option maxHeartbeats 2000000 in
set_option maxRecDepth 100000 in
theorem concat_live (P0_ P1_ : Nat → Prop) (A0 : Option Addr) (c0 : Nat) (l0 : List TLive) (A1 : Option Addr) (c1 : Nat) (l1 : List TLive) (g : Nat) (w : World) (hs0 : Kd.V k28 28 w w.heap.size (fun k_ => P0_ k_) (.slice A0 l0.length c0) l0) (hs1 : Kd.V k28 28 w w.heap.size (fun k_ => P1_ k_) (.slice A1 l1.length c1) l1)
    (hg : w.heap[g]? = some (.cells #[.slice A0 l0.length c0, .slice A1 l1.length c1] 22 (0, 0))) (hl : l0.length + l1.length ≤ 1000000) :
    Calls Try.prog 47 #[.slice (some ⟨g, 0, none⟩) 2 2] w fun e w' => ∃ v0_ : Value, e = .returned (v0_) ∧ Kd.N k28 28 w' w.heap.size (fun k_ => ((P0_ k_ ∨ P1_ k_) ∨ w.heap.size ≤ k_)) v0_ (l0 ++ l1) ∧ Below w.heap.size w w' := by
  have hgl : g < w.heap.size := (Array.getElem?_eq_some_iff.1 hg).1
  have HS0 := Aside0.mk (Kd.F_bound (Kd.V_F hs0))
  have HS1 := Aside0.mk (Kd.F_bound (Kd.V_F hs1))
  have HG := Aside0.mk hg
  have hcell0 : w.cell? ⟨g, 0, none⟩ = some (.slice A0 l0.length c0) := (cell_of_row w g 0 _ _ _ hg).trans rfl
  have hcell1 : w.cell? ⟨g, 1, none⟩ = some (.slice A1 l1.length c1) := (cell_of_row w g 1 _ _ _ hg).trans rfl
  clear hs0 hs1 hg
  obtain ⟨N, hN⟩ : ∃ N, l0.length + l1.length = N := ⟨_, rfl⟩
  have HN := Aside0.mk hN
  have hN1 : (l0.length : Int) + (l1.length : Int) = (N : Int) := by omega
  have HN1 := Aside0.mk hN1
  have hNl : N ≤ 1000000 := by omega
  clear hN hN1
  go_enter Try.func47, Try.ntmps47
  go_wp2
  go_loopw [3, 11] (fun v3 v11 wr => ∃ k : Nat, k ≤ 2 ∧ v11 = .int .i64 (k : Int) ∧ v3 = .int .i64 (if k = 0 then 0 else if k = 1 then (l0.length : Int) else (N : Int)) ∧ wr = w) (fun _ v11 _ => 2 - (intOf v11).toNat)
  case atStart => exact ⟨0, by omega, rfl, rfl, rfl⟩
  case round =>
    obtain ⟨k, hk, rfl, rfl, hw⟩ := hrel
    subst hw
    rcases two_le k hk with rfl | rfl | rfl
    · go_wp2
      exact ⟨⟨1, by omega, rfl, rfl, trivial⟩, by simp [intOf]⟩
    · go_wp2
      exact ⟨⟨2, by omega, rfl, by simp [HN1.out], trivial⟩, by simp [intOf]⟩
    · obtain ⟨wo, rfl⟩ : ∃ wo : World, wo = wr := ⟨_, rfl⟩
      go_wp2_with (first | (go_at_call 92; (with_reducible refine (grow_live N hNl _).mono ?_); rintro e w1 ⟨vg, rfl, ho, hb⟩; have HO := Aside0.mk ho; have HB := Aside0.mk hb; clear ho hb))
      have hcz0 := (HB.out.cell (p := ⟨g, 0, none⟩) hgl).trans hcell0
      have hcz1 := (HB.out.cell (p := ⟨g, 1, none⟩) hgl).trans hcell1
      clear hcz0 hcz1
      have HC0 := Aside0.mk hcell0
      have HC1 := Aside0.mk hcell1
      clear hcell0 hcell1
      go_loopw [6, 27] (fun v6 v27 w' => ∃ k : Nat, k ≤ 2 ∧ v27 = .int .i64 (k : Int) ∧ Aside0 (Kd.N k28 28 w' wo.heap.size (fun k_ => ((P0_ k_ ∨ P1_ k_) ∨ wo.heap.size ≤ k_)) v6 (if k = 0 then [] else if k = 1 then l0 else l0 ++ l1)) ∧ Aside0 (Below wo.heap.size wo w')) (fun _ v27 _ => 2 - (intOf v27).toNat)
      case atStart => exact ⟨0, by omega, rfl, ⟨Kd.N_mono HO.out (fun _ hk => .inr hk)⟩, HB⟩
      case round =>
        clear HO HB
        obtain ⟨k, hk, rfl, HO, HB⟩ := hrel
        have hcz0 := (HB.out.cell (p := ⟨g, 0, none⟩) hgl).trans HC0.out
        have hcz1 := (HB.out.cell (p := ⟨g, 1, none⟩) hgl).trans HC1.out
        rcases two_le k hk with rfl | rfl | rfl
        · have HO : Aside0 (Kd.N k28 28 wr wo.heap.size (fun k_ => ((P0_ k_ ∨ P1_ k_) ∨ wo.heap.size ≤ k_)) u6 []) := HO
          go_wp2_with (first | ((with_reducible refine gate_builtin (b := .append) (xs := #[.tmp 31, .tmp 32]) rfl ?_); at_builtin; refine Kd.N_append_rows k28 (w0 := wo) wo.heap.size rfl (.tmp 31) (.tmp 32) 22 28 (.agg #[(.slice none 0 0), (.int .i64 0), (.int .i64 0)]) 40 rfl Try.underlying22 info28 rfl (by decide) (by omega) u6 ([] : List TLive) l0 _ _ _ (fun k_ => ((P0_ k_ ∨ P1_ k_) ∨ wo.heap.size ≤ k_)) (fun k_ => P0_ k_ ∧ k_ < wo.heap.size) rfl rfl HO.out (Kd.F_below HS0.out HB.out) (fun k_ hk => ⟨.inl (.inl hk.1), fun he => by have := Kd.N_base HO.out k_ he.symm; have := hk.2; omega⟩) (fun k_ hk => .inr (Nat.le_trans HB.out.size hk)) HB.out HB.out.size (by first | omega | (simp; omega)) ?_; intro v1 w1 ho hb hgr hat; have HO1 := Aside0.mk ho; have HB1 := Aside0.mk hb; clear ho hb hgr hat))
          exact ⟨⟨1, by omega, rfl, ⟨HO1.out⟩, HB1⟩, by simp [intOf]⟩
        · have HO : Aside0 (Kd.N k28 28 wr wo.heap.size (fun k_ => ((P0_ k_ ∨ P1_ k_) ∨ wo.heap.size ≤ k_)) u6 l0) := HO
          go_wp2_with (first | ((with_reducible refine gate_builtin (b := .append) (xs := #[.tmp 31, .tmp 32]) rfl ?_); at_builtin; refine Kd.N_append_rows k28 (w0 := wo) wo.heap.size rfl (.tmp 31) (.tmp 32) 22 28 (.agg #[(.slice none 0 0), (.int .i64 0), (.int .i64 0)]) 40 rfl Try.underlying22 info28 rfl (by decide) (by omega) u6 l0 l1 _ _ _ (fun k_ => ((P0_ k_ ∨ P1_ k_) ∨ wo.heap.size ≤ k_)) (fun k_ => P1_ k_ ∧ k_ < wo.heap.size) rfl rfl HO.out (Kd.F_below HS1.out HB.out) (fun k_ hk => ⟨.inl (.inr hk.1), fun he => by have := Kd.N_base HO.out k_ he.symm; have := hk.2; omega⟩) (fun k_ hk => .inr (Nat.le_trans HB.out.size hk)) HB.out HB.out.size (by first | omega | (simp; omega)) ?_; intro v1 w1 ho hb hgr hat; have HO1 := Aside0.mk ho; have HB1 := Aside0.mk hb; clear ho hb hgr hat))
          exact ⟨⟨2, by omega, rfl, ⟨HO1.out⟩, HB1⟩, by simp [intOf]⟩
        · have HO : Aside0 (Kd.N k28 28 wr wo.heap.size (fun k_ => ((P0_ k_ ∨ P1_ k_) ∨ wo.heap.size ≤ k_)) u6 (l0 ++ l1)) := HO
          go_wp2
          go_ret
          exact ⟨_, rfl, HO.out, HB.out⟩
/-- is an element gone, for a least epoch -/
def goneB (low : Int) (x : TLive) : Bool := x.f2 != 0 && decide (x.f2 ≤ low)
theorem gone_calls (low : Int) (gb : Nat) (v : Value) (b g : Int) (l : List S98) (w : World) (hv : v.oneCell' = true) (hgb : w.heap[gb]? = some (.cells #[.int .i64 low] 3 (0, 0))) :
    Calls Try.prog 48 #[.agg #[v, .int .i64 b, .int .i64 g], .pointer (some ⟨gb, 0, none⟩)] w fun e w' => e = .returned (.bool (goneB low ⟨l, b, g⟩)) ∧ Below w.heap.size w w' := by
  have hcell : w.cell? ⟨gb, 0, none⟩ = some (.int .i64 low) := (cell_of_row w gb 0 _ _ _ hgb).trans rfl
  have hlt : gb < w.heap.size := (Array.getElem?_eq_some_iff.1 hgb).1
  have hlt2 : ¬ gb = w.heap.size := by omega
  clear hgb
  by_cases h1 : g = 0
  · subst h1
    go_enter Try.func48, Try.ntmps48
    go_wp2
    go_ret
    exact ⟨by simp [goneB], (Below.refl _ _).alloc (Nat.le_refl _) _⟩
  · have h1b : (g != 0) = true := by simp [h1]
    go_enter Try.func48, Try.ntmps48
    go_wp2
    go_ret
    exact ⟨by simp [goneB, h1], (Below.refl _ _).alloc (Nat.le_refl _) _⟩
theorem blk_alloc {w : World} {g : Nat} {o o2 : Obj} (h : w.heap[g]? = some o) : (w.alloc o2).heap[g]? = some o := by
  exact (heap_alloc_old w o2 (Array.getElem?_eq_some_iff.1 h).1).trans h
theorem merge_delete (low : Int) (gb : Nat) (W w : World) (ok : Nat → Prop) (A : Option Addr) (c : Nat) (xs : List TLive) (hN : Kd.N k28 28 w W.heap.size ok (.slice A xs.length c) xs) (hB : Below W.heap.size W w) (hl : xs.length ≤ 1000000)
    (hgb : W.heap[gb]? = some (.cells #[.int .i64 low] 3 (0, 0))) :
    Calls Try.prog 46 #[.slice A xs.length c, .func (.func 48) #[] #[.pointer (some ⟨gb, 0, none⟩)]] w fun e w' => ∃ v0_ : Value, e = .returned (v0_) ∧ Kd.N k28 28 w' W.heap.size ok v0_ (xs.filter fun x => !goneB low x) ∧ Below W.heap.size W w' := by
  have hlt : gb < W.heap.size := (Array.getElem?_eq_some_iff.1 hgb).1
  refine delete_live _ (goneB low) (fun w => w.heap[gb]? = some (.cells #[.int .i64 low] 3 (0, 0))) (fun w1 w2 h1 h2 => blk_below h1 h2) W.heap.size ok W w A c xs hN hB hB.size hl (blk_below hgb hB) (fun w1 w2 h1 h2 => ?_) (fun i hi cs w1 hI hcl hK => ?_)
  · have hne : some gb ≠ (Value.slice A xs.length c).ownBlock := fun he => by
      have := Kd.N_base hN gb he.symm
      omega
    rw [h2.block gb (Array.getElem?_eq_some_iff.1 h1).1 hne]
    exact h1
  · obtain ⟨A0, c0, rfl, _, _⟩ := k28_open hK
    refine CallsV.of Try.func48 (by kernel_rfl) rfl ?_
    exact gone_calls low gb _ _ _ xs[i].f0 w1 rfl hI
def mover_Merge.f (l0 : List TLive) (l1 : List TLive) (a2 : Int) : Option (List TLive) := if l0.length + l1.length ≤ 1000000 then some ((l0 ++ l1).filter fun x => !goneB a2 x) else none
theorem below_block {W w1 : World} {B g : Nat} {o : Obj} (h : Below B W w1) (hg : W.heap[g]? = some o) (hl : g < B) : w1.heap[g]? = some o := (h.block g hl).trans hg
set_option maxHeartbeats 2000000 in
set_option maxRecDepth 100000 in
theorem mover_Merge.calls (P0_ : Nat → Prop) (A0 : Option Addr) (c0 : Nat) (l0 : List TLive) (P1_ : Nat → Prop) (A1 : Option Addr) (c1 : Nat) (l1 : List TLive) (a2 : Int) (r : List TLive) (w : World) (hs0 : Kd.V k28 28 w w.heap.size (fun k_ => P0_ k_) (.slice A0 l0.length c0) l0) (hs1 : Kd.V k28 28 w w.heap.size (fun k_ => P1_ k_) (.slice A1 l1.length c1) l1) (h : mover_Merge.f l0 l1 a2 = some r) :
    Calls Try.prog 12 #[.slice A0 l0.length c0, .slice A1 l1.length c1, .int .i64 a2] w fun e w' => ∃ v0_ : Value, e = .returned (v0_) ∧ Kd.N k28 28 w' w.heap.size (fun k_ => ((P0_ k_ ∨ P1_ k_) ∨ w.heap.size ≤ k_)) v0_ r ∧ Below w.heap.size w w' := by
  unfold mover_Merge.f at h
  by_cases hl : l0.length + l1.length ≤ 1000000
  · rw [if_pos hl] at h
    have hr := Option.some.inj h
    subst hr
    clear h
    have HS0 := Aside0.mk hs0
    have HS1 := Aside0.mk hs1
    clear hs0 hs1
    obtain ⟨L, hL⟩ : ∃ L : List TLive, L = l0 ++ l1 := ⟨_, rfl⟩
    have HLL := Aside0.mk hL
    have hLl : L.length ≤ 1000000 := by rw [hL]; simp; omega
    rw [← hL]
    clear hL
    go_enter Try.func12, Try.ntmps12
    go_wp2_with (first | ((with_reducible refine gate_dst (N := 5) rfl ?_); refine box_event ?hg (N := 5) ?hd (cs := #[.int .i64 a2]) (t := 3) ?hr ?_; (case hd => rfl); (case hg => rfl); (case hr => first | (go_simp; done) | (go_simp; rfl)); intro gb hgb w7 hbox hb; have HBX := Aside0.mk hb; have BK := Aside0.mk hbox; have HGB := Aside0.mk hgb; clear hb hbox hgb) | (go_at_call 47; (refine (concat_live (fun k_ => P0_ k_ ∧ k_ < w.heap.size) (fun k_ => P1_ k_ ∧ k_ < w.heap.size) A0 c0 l0 A1 c1 l1 w7.heap.size (w7.alloc (Obj.cells #[Value.slice A0 l0.length c0, Value.slice A1 l1.length c1] 22)) (Kd.V_alloc (Kd.V_below (Kd.V_bound HS0.out) HBX.out) _) (Kd.V_alloc (Kd.V_below (Kd.V_bound HS1.out) HBX.out) _) (heap_alloc_new w7 _) hl).mono ?_); rintro e w2 ⟨v1, rfl, ho, hb⟩; rw [← HLL.out] at ho; have HO := Aside0.mk ho; have HB := Aside0.mk hb; clear ho hb; obtain ⟨A2, c2, hv2⟩ := Kd.N_slice HO.out; subst hv2) | (go_at_call 46; (refine (merge_delete a2 gb (w7.alloc (Obj.cells #[Value.slice A0 l0.length c0, Value.slice A1 l1.length c1] 22)) w2 _ A2 c2 L HO.out HB.out hLl (blk_alloc BK.out)).mono ?_); rintro e w3 ⟨v3, rfl, ho3, hb3⟩; have HO3 := Aside0.mk ho3; have HB3 := Aside0.mk hb3; clear ho3 hb3))
    go_ret
    have h7 := HBX.out.size
    refine ⟨_, rfl, Kd.N_lower (Kd.N_mono HO3.out ?_) (by simp; omega), below_then (below_alloc HBX.out _) (by simp; omega) HB3.out⟩
    rintro k ((hk | hk) | hk)
    · exact .inl (.inl hk.1)
    · exact .inl (.inr hk.1)
    · simp at hk
      exact .inr (by omega)
  · rw [if_neg hl] at h
    cases h
end Go.Proofs.Ytgjclhhjigflkac.M
