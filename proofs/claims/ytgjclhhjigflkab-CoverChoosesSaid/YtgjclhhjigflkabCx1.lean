-- written by mkprint.py, a program of this session, over the kit's printer
import Derived.Test.YtgjclhhjigflkabCx0
namespace Go.Proofs.Ytgjclhhjigflkab.C
open Go.RowKit Go.Proofs.YtgjclhhjigflkabW.PrintWords Go.Proofs.YtgjclhhjigflkabW.PrintLast Go.Proofs.YtgjclhhjigflkabW.PrintMore
attribute [local go_sem] max2_int min2_int max_two min_two max_three min_three max_four min_four   -- for this text's walks alone
set_option linter.unusedVariables false
set_option linter.unusedSimpArgs false
/-! ### peristyleref25_Light: function 74 -/
mutual
def peristyleref25_Light.l0 : Nat → List (S63) → Int → Option (Bool)
 | 0, _, _ => none
 | k + 1, x0, x3 => if x3 < (x0.length : Int) then (peristyleref25_Light.j1 k x0 x3 (decide (x3 < 10))) else (peristyleref25_Light.j1 k x0 x3 false)
def peristyleref25_Light.j1 : Nat → List (S63) → Int → Bool → Option (Bool)
 | 0, _, _, _ => none
 | k + 1, x0, x3, x14 => if x14 = true then (if 0 ≤ x3 then (if x3 < (x0.length : Int) then (if (((rd_T63 x0 x3).f0).size : Int) > 40 then (peristyleref25_Light.j2 k x0 x3 true ((rd_T63 x0 x3).f0) ((rd_T63 x0 x3).f1) ((rd_T63 x0 x3).f2)) else (if (((rd_T63 x0 x3).f1).length : Int) > 12 then (peristyleref25_Light.j2 k x0 x3 true ((rd_T63 x0 x3).f0) ((rd_T63 x0 x3).f1) ((rd_T63 x0 x3).f2)) else (peristyleref25_Light.j2 k x0 x3 (decide ((((rd_T63 x0 x3).f2).length : Int) > 10)) ((rd_T63 x0 x3).f0) ((rd_T63 x0 x3).f1) ((rd_T63 x0 x3).f2)))) else (none)) else (none)) else (some (decide ((x0.length : Int) ≤ 10)))
def peristyleref25_Light.j2 : Nat → List (S63) → Int → Bool → ByteArray → List (S177) → List (S138) → Option (Bool)
 | 0, _, _, _, _, _, _ => none
 | k + 1, x0, x3, x36, x103000, x103001, x103002 => if x36 = true then (some false) else (peristyleref25_Light.l1 k x0 x3 0 x103000 x103001 x103002)
def peristyleref25_Light.l1 : Nat → List (S63) → Int → Int → ByteArray → List (S177) → List (S138) → Option (Bool)
 | 0, _, _, _, _, _, _ => none
 | k + 1, x0, x3, x5, x103000, x103001, x103002 => if x5 < (x103001.length : Int) then (if 0 ≤ x5 then (if (((rd_T177 x103001 x5).f0).size : Int) > 40 then (some false) else (peristyleref25_Light.l1 k x0 x3 (wrap64 (x5 + 1)) x103000 x103001 x103002)) else (none)) else (peristyleref25_Light.l2 k x0 x3 0 x103000 x103001 x103002)
def peristyleref25_Light.l2 : Nat → List (S63) → Int → Int → ByteArray → List (S177) → List (S138) → Option (Bool)
 | 0, _, _, _, _, _, _ => none
 | k + 1, x0, x3, x6, x103000, x103001, x103002 => if x6 < (x103002.length : Int) then (if 0 ≤ x6 then (if (((rd_T138 x103002 x6).f0).size : Int) > 40 then (some false) else (if (((rd_T138 x103002 x6).f1).length : Int) > 12 then (some false) else (peristyleref25_Light.l2 k x0 x3 (wrap64 (x6 + 1)) x103000 x103001 x103002))) else (none)) else (peristyleref25_Light.l0 k x0 (wrap64 (x3 + 1)))
end
def peristyleref25_Light.f (k : Nat) (l0 : List (S63)) : Option (Bool) := peristyleref25_Light.l0 k l0 0
theorem peristyleref25_Light.mono_l : ∀ k, (∀ y0 y1, LeO (peristyleref25_Light.l0 k y0 y1) (peristyleref25_Light.l0 (k + 1) y0 y1)) ∧ (∀ y0 y1 y2, LeO (peristyleref25_Light.j1 k y0 y1 y2) (peristyleref25_Light.j1 (k + 1) y0 y1 y2)) ∧ (∀ y0 y1 y2 y3 y4 y5, LeO (peristyleref25_Light.j2 k y0 y1 y2 y3 y4 y5) (peristyleref25_Light.j2 (k + 1) y0 y1 y2 y3 y4 y5)) ∧ (∀ y0 y1 y2 y3 y4 y5, LeO (peristyleref25_Light.l1 k y0 y1 y2 y3 y4 y5) (peristyleref25_Light.l1 (k + 1) y0 y1 y2 y3 y4 y5)) ∧ (∀ y0 y1 y2 y3 y4 y5, LeO (peristyleref25_Light.l2 k y0 y1 y2 y3 y4 y5) (peristyleref25_Light.l2 (k + 1) y0 y1 y2 y3 y4 y5))
 | 0 => ⟨fun _ _ r h => by simp [peristyleref25_Light.l0] at h, fun _ _ _ r h => by simp [peristyleref25_Light.j1] at h, fun _ _ _ _ _ _ r h => by simp [peristyleref25_Light.j2] at h, fun _ _ _ _ _ _ r h => by simp [peristyleref25_Light.l1] at h, fun _ _ _ _ _ _ r h => by simp [peristyleref25_Light.l2] at h⟩
 | k + 1 => by
  obtain ⟨ih0, ih1, ih2, ih3, ih4⟩ := peristyleref25_Light.mono_l k
  refine ⟨?_, ?_, ?_, ?_, ?_⟩
  ·
   intro y0 y1
   unfold peristyleref25_Light.l0
   repeat' first
   | (with_reducible exact ih0 _ _)
   | (with_reducible exact ih1 _ _ _)
   | (with_reducible exact ih2 _ _ _ _ _ _)
   | (with_reducible exact ih3 _ _ _ _ _ _)
   | (with_reducible exact ih4 _ _ _ _ _ _)
   | (with_reducible exact LeO.refl _)
   | (with_reducible exact LeO.none _)
   | (with_reducible refine LeO.ite ?_ ?_)
   | (with_reducible refine LeO.bind ?_ (fun _ => ?_))
   | exact ih0 _ _
   | exact ih1 _ _ _
   | exact ih2 _ _ _ _ _ _
   | exact ih3 _ _ _ _ _ _
   | exact ih4 _ _ _ _ _ _
   | exact LeO.none _
   | refine LeO.ite ?_ ?_
   | refine LeO.bind ?_ (fun _ => ?_)
  ·
   intro y0 y1 y2
   unfold peristyleref25_Light.j1
   repeat' first
   | (with_reducible exact ih0 _ _)
   | (with_reducible exact ih1 _ _ _)
   | (with_reducible exact ih2 _ _ _ _ _ _)
   | (with_reducible exact ih3 _ _ _ _ _ _)
   | (with_reducible exact ih4 _ _ _ _ _ _)
   | (with_reducible exact LeO.refl _)
   | (with_reducible exact LeO.none _)
   | (with_reducible refine LeO.ite ?_ ?_)
   | (with_reducible refine LeO.bind ?_ (fun _ => ?_))
   | exact ih0 _ _
   | exact ih1 _ _ _
   | exact ih2 _ _ _ _ _ _
   | exact ih3 _ _ _ _ _ _
   | exact ih4 _ _ _ _ _ _
   | exact LeO.none _
   | refine LeO.ite ?_ ?_
   | refine LeO.bind ?_ (fun _ => ?_)
  ·
   intro y0 y1 y2 y3 y4 y5
   unfold peristyleref25_Light.j2
   repeat' first
   | (with_reducible exact ih0 _ _)
   | (with_reducible exact ih1 _ _ _)
   | (with_reducible exact ih2 _ _ _ _ _ _)
   | (with_reducible exact ih3 _ _ _ _ _ _)
   | (with_reducible exact ih4 _ _ _ _ _ _)
   | (with_reducible exact LeO.refl _)
   | (with_reducible exact LeO.none _)
   | (with_reducible refine LeO.ite ?_ ?_)
   | (with_reducible refine LeO.bind ?_ (fun _ => ?_))
   | exact ih0 _ _
   | exact ih1 _ _ _
   | exact ih2 _ _ _ _ _ _
   | exact ih3 _ _ _ _ _ _
   | exact ih4 _ _ _ _ _ _
   | exact LeO.none _
   | refine LeO.ite ?_ ?_
   | refine LeO.bind ?_ (fun _ => ?_)
  ·
   intro y0 y1 y2 y3 y4 y5
   unfold peristyleref25_Light.l1
   repeat' first
   | (with_reducible exact ih0 _ _)
   | (with_reducible exact ih1 _ _ _)
   | (with_reducible exact ih2 _ _ _ _ _ _)
   | (with_reducible exact ih3 _ _ _ _ _ _)
   | (with_reducible exact ih4 _ _ _ _ _ _)
   | (with_reducible exact LeO.refl _)
   | (with_reducible exact LeO.none _)
   | (with_reducible refine LeO.ite ?_ ?_)
   | (with_reducible refine LeO.bind ?_ (fun _ => ?_))
   | exact ih0 _ _
   | exact ih1 _ _ _
   | exact ih2 _ _ _ _ _ _
   | exact ih3 _ _ _ _ _ _
   | exact ih4 _ _ _ _ _ _
   | exact LeO.none _
   | refine LeO.ite ?_ ?_
   | refine LeO.bind ?_ (fun _ => ?_)
  ·
   intro y0 y1 y2 y3 y4 y5
   unfold peristyleref25_Light.l2
   repeat' first
   | (with_reducible exact ih0 _ _)
   | (with_reducible exact ih1 _ _ _)
   | (with_reducible exact ih2 _ _ _ _ _ _)
   | (with_reducible exact ih3 _ _ _ _ _ _)
   | (with_reducible exact ih4 _ _ _ _ _ _)
   | (with_reducible exact LeO.refl _)
   | (with_reducible exact LeO.none _)
   | (with_reducible refine LeO.ite ?_ ?_)
   | (with_reducible refine LeO.bind ?_ (fun _ => ?_))
   | exact ih0 _ _
   | exact ih1 _ _ _
   | exact ih2 _ _ _ _ _ _
   | exact ih3 _ _ _ _ _ _
   | exact ih4 _ _ _ _ _ _
   | exact LeO.none _
   | refine LeO.ite ?_ ?_
   | refine LeO.bind ?_ (fun _ => ?_)
set_option maxHeartbeats 8000000 in
set_option maxRecDepth 100000 in
theorem peristyleref25_Light.calls (k : Nat) (A0 : Option Addr) (c0 : Nat) (l0 : List (S63)) (r : Bool) (w : World) (hr0 : Kd.C k63 w A0 l0.length l0) (hc0 : l0.length ≤ c0) (h : peristyleref25_Light.f k l0 = some r) :
  Calls Try.prog 74 #[.slice A0 l0.length c0] w fun e w' => e = .returned (.bool r) ∧ Below w.heap.size w w' := by
 have hu63 := Try.underlying63
 have HR0 := Aside0.mk hr0
 have HC0 := Aside0.mk hc0
 clear hr0 hc0
 have HB := Aside0.mk (Below.refl w.heap.size w)
 have H : (peristyleref25_Light.l0 k l0 0) = some r := h
 clear h
 have H' := Aside0.mk H
 clear H
 go_enter Try.func74, Try.ntmps74
 go_wp2
 go_loopg [3] k (fun kq v3 w' => ∃ (x3_1 : Int), v3 = .int .i64 x3_1 ∧ Aside0 (peristyleref25_Light.l0 kq l0 x3_1 = some r) ∧ Aside0 (kq ≤ k) ∧ Aside0 (Below w.heap.size w w'))
 case atStart => exact ⟨(0), (by rfl), H', ⟨Nat.le_refl _⟩, ⟨HB.out⟩⟩
 case round =>
  clear H'
  obtain ⟨x3_1, rfl, HA, HK1, HB⟩ := hrel
  cases gk with
  | zero => exact absurd HA.out (by simp [peristyleref25_Light.l0])
  | succ k1 =>
   have H := HA.out
   clear HA
   simp only [peristyleref25_Light.l0] at H
   have HC2 := Aside0.mk H
   clear H
   go_upto_region 2 with fail
   go_cut [14] (fun v14 wc => ∃ (kq : Nat) (x14_1 : Bool), v14 = .bool x14_1 ∧ Aside0 (peristyleref25_Light.j1 kq l0 x3_1 x14_1 = some r) ∧ Aside0 (kq ≤ k1) ∧ Aside0 (Below w.heap.size w wc))
   case first =>
    have H := HC2.out
    clear HC2
    by_cases c3 : x3_1 < (l0.length : Int)
    ·
     rw [if_pos c3] at H
     have c3b0 : decide (x3_1 < (l0.length : Int)) = true := decide_eq_true c3
     clear c3
     have H' := Aside0.mk H
     clear H
     go_wp2
     go_meet
     case rel => exact ⟨_, (decide (x3_1 < 10)), (by rfl), H', ⟨by have := HK1.out; omega⟩, ⟨HB.out⟩⟩
    ·
     rw [if_neg c3] at H
     have c3b0 : decide (x3_1 < (l0.length : Int)) = false := decide_eq_false c3
     clear c3
     have H' := Aside0.mk H
     clear H
     go_wp2
     go_meet
     case rel => exact ⟨_, (false), (by rfl), H', ⟨by have := HK1.out; omega⟩, ⟨HB.out⟩⟩
   case rest =>
    clear HC2
    obtain ⟨kq, x14_1, rfl, HA, HJ1, HB⟩ := hcut
    cases kq with
    | zero => exact absurd HA.out (by simp [peristyleref25_Light.j1])
    | succ kj1 =>
     have H := HA.out
     clear HA
     simp only [peristyleref25_Light.j1] at H
     by_cases c4 : x14_1 = true
     ·
      subst c4
      have H1 : (if 0 ≤ x3_1 then (if x3_1 < (l0.length : Int) then (if (((rd_T63 l0 x3_1).f0).size : Int) > 40 then (peristyleref25_Light.j2 kj1 l0 x3_1 true ((rd_T63 l0 x3_1).f0) ((rd_T63 l0 x3_1).f1) ((rd_T63 l0 x3_1).f2)) else (if (((rd_T63 l0 x3_1).f1).length : Int) > 12 then (peristyleref25_Light.j2 kj1 l0 x3_1 true ((rd_T63 l0 x3_1).f0) ((rd_T63 l0 x3_1).f1) ((rd_T63 l0 x3_1).f2)) else (peristyleref25_Light.j2 kj1 l0 x3_1 (decide ((((rd_T63 l0 x3_1).f2).length : Int) > 10)) ((rd_T63 l0 x3_1).f0) ((rd_T63 l0 x3_1).f1) ((rd_T63 l0 x3_1).f2)))) else (none)) else (none)) = some r := by rw [if_pos rfl] at H; exact H
      clear H
      have H := H1
      clear H1
      by_cases c5 : 0 ≤ x3_1
      ·
       rw [if_pos c5] at H
       have c5b0 : decide (0 ≤ x3_1) = true := decide_eq_true c5
       clear c5
       by_cases c6 : x3_1 < (l0.length : Int)
       ·
        rw [if_pos c6] at H
        have c6b0 : decide (x3_1 < (l0.length : Int)) = true := decide_eq_true c6
        clear c6
        have HC7 := Aside0.mk H
        clear H
        have p101 : 0 ≤ (x3_1 : Int) := of_decide_eq_true (by (with_reducible assumption))
        have q101 : x3_1 < (l0.length : Int) := of_decide_eq_true (by (with_reducible assumption))
        obtain ⟨ad101, A101_1, c101_1, A101_2, c101_2, e101, hx101_0, hx101_1, hx101_2, hl101_1, hi101_1, hl101_2, hi101_2⟩ := at_T63 HR0.out x3_1 p101 q101
        cases e101
        replace hx101_0 := (HB.out.cell (World.block_lt_of_cell? w _ hx101_0)).trans hx101_0
        replace hx101_1 := (HB.out.cell (World.block_lt_of_cell? w _ hx101_1)).trans hx101_1
        replace hx101_2 := (HB.out.cell (World.block_lt_of_cell? w _ hx101_2)).trans hx101_2
        have HR101_1 := Aside0.mk hi101_1
        have HC101_1 := Aside0.mk hl101_1
        clear hi101_1 hl101_1
        have HR101_2 := Aside0.mk hi101_2
        have HC101_2 := Aside0.mk hl101_2
        clear hi101_2 hl101_2
        replace p101 := eq_true p101
        replace q101 := eq_true q101
        go_upto_region 5 with (((with_reducible refine gate_dst (N := 4) rfl ?_); (try (refine gate_guard (by rfl) ?_; dsimp only)); refine box_event ?hg (N := 4) ?hd (cs := #[.string (⟨#[]⟩ : ByteArray), .slice none 0 0, .slice none 0 0]) (t := 63) ?hr ?_; (case hd => rfl); (case hg => rfl); (case hr => (go_simp; done)); intro gb102 hg w8 hbox hb; have n0_ := Aside0.mk (below_step HB.out hb); have n1_ := Aside0.mk (hbox); have n2_ := Aside0.mk ((by rw [hg]; exact (below_size HB.out) : w.heap.size ≤ gb102)); have n3_ := Aside0.mk ((by rw [hg]; exact (below_size HB.out) : w.heap.size ≤ gb102)); clear HB; have HB := n0_; have BK102 := n1_; have GW102 := n2_; have GE102 := n3_; clear n0_ n1_ n2_ n3_ hb hbox hg; have hcz9_0 : w8.cell? ⟨gb102, 0, none⟩ = some (.string (⟨#[]⟩ : ByteArray)) := (blk_cell BK102.out 0).trans rfl; have hcz9_1 : w8.cell? ⟨gb102, 1, none⟩ = some (.slice none 0 0) := (blk_cell BK102.out 1).trans rfl; have hcz9_2 : w8.cell? ⟨gb102, 2, none⟩ = some (.slice none 0 0) := (blk_cell BK102.out 2).trans rfl; have hfz9_0 := blk_frozen BK102.out 0; have hfz9_1 := blk_frozen BK102.out 1; have hfz9_2 := blk_frozen BK102.out 2))
        go_cut [36] (fun v36 wc => ∃ (kq : Nat) (x36_6 : Bool), v36 = .bool x36_6 ∧ Aside0 (peristyleref25_Light.j2 kq l0 x3_1 x36_6 ((rd_T63 l0 x3_1).f0) ((rd_T63 l0 x3_1).f1) ((rd_T63 l0 x3_1).f2) = some r) ∧ Aside0 (kq ≤ kj1) ∧ Aside0 (wc.heap[gb102]? = some (.cells #[.string ((rd_T63 l0 x3_1).f0), (.slice A101_1 ((rd_T63 l0 x3_1).f1).length c101_1), (.slice A101_2 ((rd_T63 l0 x3_1).f2).length c101_2)] 63 (0, 0))) ∧ Aside0 (Below w.heap.size w wc))
        case first =>
         have H := HC7.out
         clear HC7
         by_cases c10 : (((rd_T63 l0 x3_1).f0).size : Int) > 40
         ·
          rw [if_pos c10] at H
          have c10b0 : decide (40 < (((rd_T63 l0 x3_1).f0).size : Int)) = true := decide_eq_true c10
          have c10b1 : decide (40 < ((rd_T63 l0 x3_1).f0).size) = true := decide_eq_true (by omega)
          clear c10
          have H' := Aside0.mk H
          clear H
          have hcz11_0 : w8.cell? ⟨gb102, 0, none⟩ = some (.string (⟨#[]⟩ : ByteArray)) := (blk_cell BK102.out 0).trans rfl
          have hcz11_1 : w8.cell? ⟨gb102, 1, none⟩ = some (.slice none 0 0) := (blk_cell BK102.out 1).trans rfl
          have hcz11_2 : w8.cell? ⟨gb102, 2, none⟩ = some (.slice none 0 0) := (blk_cell BK102.out 2).trans rfl
          have hfz11_0 := blk_frozen BK102.out 0
          have hfz11_1 := blk_frozen BK102.out 1
          have hfz11_2 := blk_frozen BK102.out 2
          go_wp2
          go_meet
          case rel => exact ⟨_, (true), (by rfl), H', ⟨by have := HK1.out; have := HJ1.out; omega⟩, ⟨by refine blk_put (cs := #[.string ((rd_T63 l0 x3_1).f0), .slice A101_1 ((rd_T63 l0 x3_1).f1).length c101_1, .slice none 0 0]) ?_ 2 _ rfl; refine blk_put (cs := #[.string ((rd_T63 l0 x3_1).f0), .slice none 0 0, .slice none 0 0]) ?_ 1 _ rfl; refine blk_put (cs := #[.string (⟨#[]⟩ : ByteArray), .slice none 0 0, .slice none 0 0]) ?_ 0 _ rfl; exact BK102.out⟩, ⟨by repeat ((with_reducible first | exact HB.out | refine below_set ?_ GE102.out))⟩⟩
         ·
          rw [if_neg c10] at H
          have c10b0 : decide (40 < (((rd_T63 l0 x3_1).f0).size : Int)) = false := decide_eq_false c10
          have c10b1 : decide (40 < ((rd_T63 l0 x3_1).f0).size) = false := decide_eq_false (by omega)
          clear c10
          by_cases c12 : (((rd_T63 l0 x3_1).f1).length : Int) > 12
          ·
           rw [if_pos c12] at H
           have c12b0 : decide (12 < (((rd_T63 l0 x3_1).f1).length : Int)) = true := decide_eq_true c12
           have c12b1 : decide (12 < ((rd_T63 l0 x3_1).f1).length) = true := decide_eq_true (by omega)
           clear c12
           have H' := Aside0.mk H
           clear H
           have hcz13_0 : w8.cell? ⟨gb102, 0, none⟩ = some (.string (⟨#[]⟩ : ByteArray)) := (blk_cell BK102.out 0).trans rfl
           have hcz13_1 : w8.cell? ⟨gb102, 1, none⟩ = some (.slice none 0 0) := (blk_cell BK102.out 1).trans rfl
           have hcz13_2 : w8.cell? ⟨gb102, 2, none⟩ = some (.slice none 0 0) := (blk_cell BK102.out 2).trans rfl
           have hfz13_0 := blk_frozen BK102.out 0
           have hfz13_1 := blk_frozen BK102.out 1
           have hfz13_2 := blk_frozen BK102.out 2
           go_wp2
           go_meet
           case rel => exact ⟨_, (true), (by rfl), H', ⟨by have := HK1.out; have := HJ1.out; omega⟩, ⟨by refine blk_put (cs := #[.string ((rd_T63 l0 x3_1).f0), .slice A101_1 ((rd_T63 l0 x3_1).f1).length c101_1, .slice none 0 0]) ?_ 2 _ rfl; refine blk_put (cs := #[.string ((rd_T63 l0 x3_1).f0), .slice none 0 0, .slice none 0 0]) ?_ 1 _ rfl; refine blk_put (cs := #[.string (⟨#[]⟩ : ByteArray), .slice none 0 0, .slice none 0 0]) ?_ 0 _ rfl; exact BK102.out⟩, ⟨by repeat ((with_reducible first | exact HB.out | refine below_set ?_ GE102.out))⟩⟩
          ·
           rw [if_neg c12] at H
           have c12b0 : decide (12 < (((rd_T63 l0 x3_1).f1).length : Int)) = false := decide_eq_false c12
           have c12b1 : decide (12 < ((rd_T63 l0 x3_1).f1).length) = false := decide_eq_false (by omega)
           clear c12
           have H' := Aside0.mk H
           clear H
           have hcz14_0 : w8.cell? ⟨gb102, 0, none⟩ = some (.string (⟨#[]⟩ : ByteArray)) := (blk_cell BK102.out 0).trans rfl
           have hcz14_1 : w8.cell? ⟨gb102, 1, none⟩ = some (.slice none 0 0) := (blk_cell BK102.out 1).trans rfl
           have hcz14_2 : w8.cell? ⟨gb102, 2, none⟩ = some (.slice none 0 0) := (blk_cell BK102.out 2).trans rfl
           have hfz14_0 := blk_frozen BK102.out 0
           have hfz14_1 := blk_frozen BK102.out 1
           have hfz14_2 := blk_frozen BK102.out 2
           go_wp2
           go_meet
           case rel => exact ⟨_, (decide ((((rd_T63 l0 x3_1).f2).length : Int) > 10)), (by rfl), H', ⟨by have := HK1.out; have := HJ1.out; omega⟩, ⟨by refine blk_put (cs := #[.string ((rd_T63 l0 x3_1).f0), .slice A101_1 ((rd_T63 l0 x3_1).f1).length c101_1, .slice none 0 0]) ?_ 2 _ rfl; refine blk_put (cs := #[.string ((rd_T63 l0 x3_1).f0), .slice none 0 0, .slice none 0 0]) ?_ 1 _ rfl; refine blk_put (cs := #[.string (⟨#[]⟩ : ByteArray), .slice none 0 0, .slice none 0 0]) ?_ 0 _ rfl; exact BK102.out⟩, ⟨by repeat ((with_reducible first | exact HB.out | refine below_set ?_ GE102.out))⟩⟩
        case rest =>
         clear HC7
         try clear c5b0
         try clear c6b0
         try clear hcz9_0
         try clear hcz9_1
         try clear hcz9_2
         try clear hfz9_0
         try clear hfz9_1
         try clear hfz9_2
         try clear hx101_0
         try clear hx101_1
         try clear hx101_2
         try clear p101
         try clear q101
         obtain ⟨kq, x36_6, rfl, HA, HJ6, BK102, HB⟩ := hcut
         cases kq with
         | zero => exact absurd HA.out (by simp [peristyleref25_Light.j2])
         | succ kj6 =>
          have H := HA.out
          clear HA
          simp only [peristyleref25_Light.j2] at H
          by_cases c15 : x36_6 = true
          ·
           subst c15
           have H1 : (some false) = some r := by rw [if_pos rfl] at H; exact H
           clear H
           have H := H1
           clear H1
           obtain rfl := Option.some.inj H
           go_wp2
           go_ret
           exact ⟨by rfl, by repeat exact HB.out⟩
          ·
           replace c15 := Bool.eq_false_iff.mpr c15
           subst c15
           have H1 : (peristyleref25_Light.l1 kj6 l0 x3_1 0 ((rd_T63 l0 x3_1).f0) ((rd_T63 l0 x3_1).f1) ((rd_T63 l0 x3_1).f2)) = some r := by rw [if_neg (show ¬ (false = true) by decide)] at H; exact H
           clear H
           have H := H1
           clear H1
           have H' := Aside0.mk H
           clear H
           go_wp2
           go_loopg [5] kj6 (fun kq v5 w' => ∃ (x5_4 : Int), v5 = .int .i64 x5_4 ∧ Aside0 (peristyleref25_Light.l1 kq l0 x3_1 x5_4 ((rd_T63 l0 x3_1).f0) ((rd_T63 l0 x3_1).f1) ((rd_T63 l0 x3_1).f2) = some r) ∧ Aside0 (kq ≤ kj6) ∧ Aside0 (w'.heap[gb102]? = some (.cells #[.string ((rd_T63 l0 x3_1).f0), (.slice A101_1 ((rd_T63 l0 x3_1).f1).length c101_1), (.slice A101_2 ((rd_T63 l0 x3_1).f2).length c101_2)] 63 (0, 0))) ∧ Aside0 (Below w.heap.size w w'))
           case atStart => exact ⟨(0), (by rfl), H', ⟨Nat.le_refl _⟩, ⟨BK102.out⟩, ⟨HB.out⟩⟩
           case round =>
            clear H'
            obtain ⟨x5_4, rfl, HA, HK4, BK102, HB⟩ := hrel
            cases gk with
            | zero => exact absurd HA.out (by simp [peristyleref25_Light.l1])
            | succ k4 =>
             have H := HA.out
             clear HA
             simp only [peristyleref25_Light.l1] at H
             by_cases c16 : x5_4 < (((rd_T63 l0 x3_1).f1).length : Int)
             ·
              rw [if_pos c16] at H
              have c16b0 : decide (x5_4 < (((rd_T63 l0 x3_1).f1).length : Int)) = true := decide_eq_true c16
              clear c16
              by_cases c17 : 0 ≤ x5_4
              ·
               rw [if_pos c17] at H
               have c17b0 : decide (0 ≤ x5_4) = true := decide_eq_true c17
               clear c17
               by_cases c18 : (((rd_T177 ((rd_T63 l0 x3_1).f1) x5_4).f0).size : Int) > 40
               ·
                rw [if_pos c18] at H
                have c18b0 : decide (40 < (((rd_T177 ((rd_T63 l0 x3_1).f1) x5_4).f0).size : Int)) = true := decide_eq_true c18
                have c18b1 : decide (40 < ((rd_T177 ((rd_T63 l0 x3_1).f1) x5_4).f0).size) = true := decide_eq_true (by omega)
                clear c18
                obtain rfl := Option.some.inj H
                have hcz19_0 : wr.cell? ⟨gb102, 0, none⟩ = some (.string ((rd_T63 l0 x3_1).f0)) := (blk_cell BK102.out 0).trans rfl
                have hcz19_1 : wr.cell? ⟨gb102, 1, none⟩ = some (.slice A101_1 ((rd_T63 l0 x3_1).f1).length c101_1) := (blk_cell BK102.out 1).trans rfl
                have hcz19_2 : wr.cell? ⟨gb102, 2, none⟩ = some (.slice A101_2 ((rd_T63 l0 x3_1).f2).length c101_2) := (blk_cell BK102.out 2).trans rfl
                have hfz19_0 := blk_frozen BK102.out 0
                have hfz19_1 := blk_frozen BK102.out 1
                have hfz19_2 := blk_frozen BK102.out 2
                have p103 : 0 ≤ (x5_4 : Int) := of_decide_eq_true (by (with_reducible assumption))
                have q103 : x5_4 < (((rd_T63 l0 x3_1).f1).length : Int) := of_decide_eq_true (by (with_reducible assumption))
                obtain ⟨ad103, e103, hx103_0, hx103_1, hx103_2⟩ := at_T177 HR101_1.out x5_4 p103 q103
                cases e103
                replace hx103_0 := (HB.out.cell (World.block_lt_of_cell? w _ hx103_0)).trans hx103_0
                replace hx103_1 := (HB.out.cell (World.block_lt_of_cell? w _ hx103_1)).trans hx103_1
                replace hx103_2 := (HB.out.cell (World.block_lt_of_cell? w _ hx103_2)).trans hx103_2
                replace p103 := eq_true p103
                replace q103 := eq_true q103
                go_wp2
                go_ret
                exact ⟨by rfl, by repeat exact HB.out⟩
               ·
                rw [if_neg c18] at H
                have c18b0 : decide (40 < (((rd_T177 ((rd_T63 l0 x3_1).f1) x5_4).f0).size : Int)) = false := decide_eq_false c18
                have c18b1 : decide (40 < ((rd_T177 ((rd_T63 l0 x3_1).f1) x5_4).f0).size) = false := decide_eq_false (by omega)
                clear c18
                have H' := Aside0.mk H
                clear H
                have hcz20_0 : wr.cell? ⟨gb102, 0, none⟩ = some (.string ((rd_T63 l0 x3_1).f0)) := (blk_cell BK102.out 0).trans rfl
                have hcz20_1 : wr.cell? ⟨gb102, 1, none⟩ = some (.slice A101_1 ((rd_T63 l0 x3_1).f1).length c101_1) := (blk_cell BK102.out 1).trans rfl
                have hcz20_2 : wr.cell? ⟨gb102, 2, none⟩ = some (.slice A101_2 ((rd_T63 l0 x3_1).f2).length c101_2) := (blk_cell BK102.out 2).trans rfl
                have hfz20_0 := blk_frozen BK102.out 0
                have hfz20_1 := blk_frozen BK102.out 1
                have hfz20_2 := blk_frozen BK102.out 2
                have p103 : 0 ≤ (x5_4 : Int) := of_decide_eq_true (by (with_reducible assumption))
                have q103 : x5_4 < (((rd_T63 l0 x3_1).f1).length : Int) := of_decide_eq_true (by (with_reducible assumption))
                obtain ⟨ad103, e103, hx103_0, hx103_1, hx103_2⟩ := at_T177 HR101_1.out x5_4 p103 q103
                cases e103
                replace hx103_0 := (HB.out.cell (World.block_lt_of_cell? w _ hx103_0)).trans hx103_0
                replace hx103_1 := (HB.out.cell (World.block_lt_of_cell? w _ hx103_1)).trans hx103_1
                replace hx103_2 := (HB.out.cell (World.block_lt_of_cell? w _ hx103_2)).trans hx103_2
                replace p103 := eq_true p103
                replace q103 := eq_true q103
                go_wp2
                go_roundg k4
                case measure => have := HK1.out; have := HJ1.out; have := HJ6.out; have := HK4.out; omega
                case rel => exact ⟨(wrap64 (x5_4 + 1)), (by rfl), H', ⟨by have := HK1.out; have := HJ1.out; have := HJ6.out; have := HK4.out; omega⟩, ⟨BK102.out⟩, ⟨HB.out⟩⟩
              ·
               rw [if_neg c17] at H
               exact absurd H (by simp)
             ·
              rw [if_neg c16] at H
              have c16b0 : decide (x5_4 < (((rd_T63 l0 x3_1).f1).length : Int)) = false := decide_eq_false c16
              clear c16
              have H' := Aside0.mk H
              clear H
              have hcz21_0 : wr.cell? ⟨gb102, 0, none⟩ = some (.string ((rd_T63 l0 x3_1).f0)) := (blk_cell BK102.out 0).trans rfl
              have hcz21_1 : wr.cell? ⟨gb102, 1, none⟩ = some (.slice A101_1 ((rd_T63 l0 x3_1).f1).length c101_1) := (blk_cell BK102.out 1).trans rfl
              have hcz21_2 : wr.cell? ⟨gb102, 2, none⟩ = some (.slice A101_2 ((rd_T63 l0 x3_1).f2).length c101_2) := (blk_cell BK102.out 2).trans rfl
              have hfz21_0 := blk_frozen BK102.out 0
              have hfz21_1 := blk_frozen BK102.out 1
              have hfz21_2 := blk_frozen BK102.out 2
              go_wp2
              go_loopg [6] k4 (fun kq v6 w' => ∃ (x6_5 : Int), v6 = .int .i64 x6_5 ∧ Aside0 (peristyleref25_Light.l2 kq l0 x3_1 x6_5 ((rd_T63 l0 x3_1).f0) ((rd_T63 l0 x3_1).f1) ((rd_T63 l0 x3_1).f2) = some r) ∧ Aside0 (kq ≤ k4) ∧ Aside0 (w'.heap[gb102]? = some (.cells #[.string ((rd_T63 l0 x3_1).f0), (.slice A101_1 ((rd_T63 l0 x3_1).f1).length c101_1), (.slice A101_2 ((rd_T63 l0 x3_1).f2).length c101_2)] 63 (0, 0))) ∧ Aside0 (Below w.heap.size w w'))
              case atStart => exact ⟨(0), (by rfl), H', ⟨Nat.le_refl _⟩, ⟨BK102.out⟩, ⟨HB.out⟩⟩
              case round =>
               clear H'
               try clear c16b0
               try clear hcz21_0
               try clear hcz21_1
               try clear hcz21_2
               try clear hfz21_0
               try clear hfz21_1
               try clear hfz21_2
               obtain ⟨x6_5, rfl, HA, HK5, BK102, HB⟩ := hrel
               cases gk with
               | zero => exact absurd HA.out (by simp [peristyleref25_Light.l2])
               | succ k5 =>
                have H := HA.out
                clear HA
                simp only [peristyleref25_Light.l2] at H
                by_cases c22 : x6_5 < (((rd_T63 l0 x3_1).f2).length : Int)
                ·
                 rw [if_pos c22] at H
                 have c22b0 : decide (x6_5 < (((rd_T63 l0 x3_1).f2).length : Int)) = true := decide_eq_true c22
                 clear c22
                 by_cases c23 : 0 ≤ x6_5
                 ·
                  rw [if_pos c23] at H
                  have c23b0 : decide (0 ≤ x6_5) = true := decide_eq_true c23
                  clear c23
                  by_cases c24 : (((rd_T138 ((rd_T63 l0 x3_1).f2) x6_5).f0).size : Int) > 40
                  ·
                   rw [if_pos c24] at H
                   have c24b0 : decide (40 < (((rd_T138 ((rd_T63 l0 x3_1).f2) x6_5).f0).size : Int)) = true := decide_eq_true c24
                   have c24b1 : decide (40 < ((rd_T138 ((rd_T63 l0 x3_1).f2) x6_5).f0).size) = true := decide_eq_true (by omega)
                   clear c24
                   obtain rfl := Option.some.inj H
                   have hcz25_0 : wr.cell? ⟨gb102, 0, none⟩ = some (.string ((rd_T63 l0 x3_1).f0)) := (blk_cell BK102.out 0).trans rfl
                   have hcz25_1 : wr.cell? ⟨gb102, 1, none⟩ = some (.slice A101_1 ((rd_T63 l0 x3_1).f1).length c101_1) := (blk_cell BK102.out 1).trans rfl
                   have hcz25_2 : wr.cell? ⟨gb102, 2, none⟩ = some (.slice A101_2 ((rd_T63 l0 x3_1).f2).length c101_2) := (blk_cell BK102.out 2).trans rfl
                   have hfz25_0 := blk_frozen BK102.out 0
                   have hfz25_1 := blk_frozen BK102.out 1
                   have hfz25_2 := blk_frozen BK102.out 2
                   have p104 : 0 ≤ (x6_5 : Int) := of_decide_eq_true (by (with_reducible assumption))
                   have q104 : x6_5 < (((rd_T63 l0 x3_1).f2).length : Int) := of_decide_eq_true (by (with_reducible assumption))
                   obtain ⟨ad104, A104_1, c104_1, e104, hx104_0, hx104_1, hx104_2, hl104_1, hi104_1⟩ := at_T138 HR101_2.out x6_5 p104 q104
                   cases e104
                   replace hx104_0 := (HB.out.cell (World.block_lt_of_cell? w _ hx104_0)).trans hx104_0
                   replace hx104_1 := (HB.out.cell (World.block_lt_of_cell? w _ hx104_1)).trans hx104_1
                   replace hx104_2 := (HB.out.cell (World.block_lt_of_cell? w _ hx104_2)).trans hx104_2
                   have HR104_1 := Aside0.mk hi104_1
                   have HC104_1 := Aside0.mk hl104_1
                   clear hi104_1 hl104_1
                   replace p104 := eq_true p104
                   replace q104 := eq_true q104
                   go_wp2
                   go_ret
                   exact ⟨by rfl, by repeat exact HB.out⟩
                  ·
                   rw [if_neg c24] at H
                   have c24b0 : decide (40 < (((rd_T138 ((rd_T63 l0 x3_1).f2) x6_5).f0).size : Int)) = false := decide_eq_false c24
                   have c24b1 : decide (40 < ((rd_T138 ((rd_T63 l0 x3_1).f2) x6_5).f0).size) = false := decide_eq_false (by omega)
                   clear c24
                   by_cases c26 : (((rd_T138 ((rd_T63 l0 x3_1).f2) x6_5).f1).length : Int) > 12
                   ·
                    rw [if_pos c26] at H
                    have c26b0 : decide (12 < (((rd_T138 ((rd_T63 l0 x3_1).f2) x6_5).f1).length : Int)) = true := decide_eq_true c26
                    have c26b1 : decide (12 < ((rd_T138 ((rd_T63 l0 x3_1).f2) x6_5).f1).length) = true := decide_eq_true (by omega)
                    clear c26
                    obtain rfl := Option.some.inj H
                    have hcz27_0 : wr.cell? ⟨gb102, 0, none⟩ = some (.string ((rd_T63 l0 x3_1).f0)) := (blk_cell BK102.out 0).trans rfl
                    have hcz27_1 : wr.cell? ⟨gb102, 1, none⟩ = some (.slice A101_1 ((rd_T63 l0 x3_1).f1).length c101_1) := (blk_cell BK102.out 1).trans rfl
                    have hcz27_2 : wr.cell? ⟨gb102, 2, none⟩ = some (.slice A101_2 ((rd_T63 l0 x3_1).f2).length c101_2) := (blk_cell BK102.out 2).trans rfl
                    have hfz27_0 := blk_frozen BK102.out 0
                    have hfz27_1 := blk_frozen BK102.out 1
                    have hfz27_2 := blk_frozen BK102.out 2
                    have p104 : 0 ≤ (x6_5 : Int) := of_decide_eq_true (by (with_reducible assumption))
                    have q104 : x6_5 < (((rd_T63 l0 x3_1).f2).length : Int) := of_decide_eq_true (by (with_reducible assumption))
                    obtain ⟨ad104, A104_1, c104_1, e104, hx104_0, hx104_1, hx104_2, hl104_1, hi104_1⟩ := at_T138 HR101_2.out x6_5 p104 q104
                    cases e104
                    replace hx104_0 := (HB.out.cell (World.block_lt_of_cell? w _ hx104_0)).trans hx104_0
                    replace hx104_1 := (HB.out.cell (World.block_lt_of_cell? w _ hx104_1)).trans hx104_1
                    replace hx104_2 := (HB.out.cell (World.block_lt_of_cell? w _ hx104_2)).trans hx104_2
                    have HR104_1 := Aside0.mk hi104_1
                    have HC104_1 := Aside0.mk hl104_1
                    clear hi104_1 hl104_1
                    replace p104 := eq_true p104
                    replace q104 := eq_true q104
                    have p105 : 0 ≤ (x6_5 : Int) := of_decide_eq_true (by (with_reducible assumption))
                    have q105 : x6_5 < (((rd_T63 l0 x3_1).f2).length : Int) := of_decide_eq_true (by (with_reducible assumption))
                    obtain ⟨ad105, A105_1, c105_1, e105, hx105_0, hx105_1, hx105_2, hl105_1, hi105_1⟩ := at_T138 HR101_2.out x6_5 p105 q105
                    obtain rfl : ad104 = ad105 := (by injection e105)
                    replace hx105_0 := (HB.out.cell (World.block_lt_of_cell? w _ hx105_0)).trans hx105_0
                    replace hx105_1 := (HB.out.cell (World.block_lt_of_cell? w _ hx105_1)).trans hx105_1
                    replace hx105_2 := (HB.out.cell (World.block_lt_of_cell? w _ hx105_2)).trans hx105_2
                    have HR105_1 := Aside0.mk hi105_1
                    have HC105_1 := Aside0.mk hl105_1
                    clear hi105_1 hl105_1
                    replace p105 := eq_true p105
                    replace q105 := eq_true q105
                    have ea_ := Option.some.inj (hx104_1.symm.trans hx105_1)
                    injection ea_ with ea_ en_ ec_
                    subst ea_
                    subst ec_
                    clear en_
                    go_wp2
                    go_ret
                    exact ⟨by rfl, by repeat exact HB.out⟩
                   ·
                    rw [if_neg c26] at H
                    have c26b0 : decide (12 < (((rd_T138 ((rd_T63 l0 x3_1).f2) x6_5).f1).length : Int)) = false := decide_eq_false c26
                    have c26b1 : decide (12 < ((rd_T138 ((rd_T63 l0 x3_1).f2) x6_5).f1).length) = false := decide_eq_false (by omega)
                    clear c26
                    have H' := Aside0.mk H
                    clear H
                    have hcz28_0 : wr.cell? ⟨gb102, 0, none⟩ = some (.string ((rd_T63 l0 x3_1).f0)) := (blk_cell BK102.out 0).trans rfl
                    have hcz28_1 : wr.cell? ⟨gb102, 1, none⟩ = some (.slice A101_1 ((rd_T63 l0 x3_1).f1).length c101_1) := (blk_cell BK102.out 1).trans rfl
                    have hcz28_2 : wr.cell? ⟨gb102, 2, none⟩ = some (.slice A101_2 ((rd_T63 l0 x3_1).f2).length c101_2) := (blk_cell BK102.out 2).trans rfl
                    have hfz28_0 := blk_frozen BK102.out 0
                    have hfz28_1 := blk_frozen BK102.out 1
                    have hfz28_2 := blk_frozen BK102.out 2
                    have p104 : 0 ≤ (x6_5 : Int) := of_decide_eq_true (by (with_reducible assumption))
                    have q104 : x6_5 < (((rd_T63 l0 x3_1).f2).length : Int) := of_decide_eq_true (by (with_reducible assumption))
                    obtain ⟨ad104, A104_1, c104_1, e104, hx104_0, hx104_1, hx104_2, hl104_1, hi104_1⟩ := at_T138 HR101_2.out x6_5 p104 q104
                    cases e104
                    replace hx104_0 := (HB.out.cell (World.block_lt_of_cell? w _ hx104_0)).trans hx104_0
                    replace hx104_1 := (HB.out.cell (World.block_lt_of_cell? w _ hx104_1)).trans hx104_1
                    replace hx104_2 := (HB.out.cell (World.block_lt_of_cell? w _ hx104_2)).trans hx104_2
                    have HR104_1 := Aside0.mk hi104_1
                    have HC104_1 := Aside0.mk hl104_1
                    clear hi104_1 hl104_1
                    replace p104 := eq_true p104
                    replace q104 := eq_true q104
                    have p105 : 0 ≤ (x6_5 : Int) := of_decide_eq_true (by (with_reducible assumption))
                    have q105 : x6_5 < (((rd_T63 l0 x3_1).f2).length : Int) := of_decide_eq_true (by (with_reducible assumption))
                    obtain ⟨ad105, A105_1, c105_1, e105, hx105_0, hx105_1, hx105_2, hl105_1, hi105_1⟩ := at_T138 HR101_2.out x6_5 p105 q105
                    obtain rfl : ad104 = ad105 := (by injection e105)
                    replace hx105_0 := (HB.out.cell (World.block_lt_of_cell? w _ hx105_0)).trans hx105_0
                    replace hx105_1 := (HB.out.cell (World.block_lt_of_cell? w _ hx105_1)).trans hx105_1
                    replace hx105_2 := (HB.out.cell (World.block_lt_of_cell? w _ hx105_2)).trans hx105_2
                    have HR105_1 := Aside0.mk hi105_1
                    have HC105_1 := Aside0.mk hl105_1
                    clear hi105_1 hl105_1
                    replace p105 := eq_true p105
                    replace q105 := eq_true q105
                    have ea_ := Option.some.inj (hx104_1.symm.trans hx105_1)
                    injection ea_ with ea_ en_ ec_
                    subst ea_
                    subst ec_
                    clear en_
                    go_wp2
                    go_roundg k5
                    case measure => have := HK1.out; have := HJ1.out; have := HJ6.out; have := HK4.out; have := HK5.out; omega
                    case rel => exact ⟨(wrap64 (x6_5 + 1)), (by rfl), H', ⟨by have := HK1.out; have := HJ1.out; have := HJ6.out; have := HK4.out; have := HK5.out; omega⟩, ⟨BK102.out⟩, ⟨HB.out⟩⟩
                 ·
                  rw [if_neg c23] at H
                  exact absurd H (by simp)
                ·
                 rw [if_neg c22] at H
                 have c22b0 : decide (x6_5 < (((rd_T63 l0 x3_1).f2).length : Int)) = false := decide_eq_false c22
                 clear c22
                 have H' := Aside0.mk H
                 clear H
                 have hcz29_0 : wr.cell? ⟨gb102, 0, none⟩ = some (.string ((rd_T63 l0 x3_1).f0)) := (blk_cell BK102.out 0).trans rfl
                 have hcz29_1 : wr.cell? ⟨gb102, 1, none⟩ = some (.slice A101_1 ((rd_T63 l0 x3_1).f1).length c101_1) := (blk_cell BK102.out 1).trans rfl
                 have hcz29_2 : wr.cell? ⟨gb102, 2, none⟩ = some (.slice A101_2 ((rd_T63 l0 x3_1).f2).length c101_2) := (blk_cell BK102.out 2).trans rfl
                 have hfz29_0 := blk_frozen BK102.out 0
                 have hfz29_1 := blk_frozen BK102.out 1
                 have hfz29_2 := blk_frozen BK102.out 2
                 go_wp2
                 go_roundg k5
                 case measure => have := HK1.out; have := HJ1.out; have := HJ6.out; have := HK4.out; have := HK5.out; omega
                 case rel => exact ⟨(wrap64 (x3_1 + 1)), (by rfl), H', ⟨by have := HK1.out; have := HJ1.out; have := HJ6.out; have := HK4.out; have := HK5.out; omega⟩, ⟨HB.out⟩⟩
       ·
        rw [if_neg c6] at H
        exact absurd H (by simp)
      ·
       rw [if_neg c5] at H
       exact absurd H (by simp)
     ·
      replace c4 := Bool.eq_false_iff.mpr c4
      subst c4
      have H1 : (some (decide ((l0.length : Int) ≤ 10))) = some r := by rw [if_neg (show ¬ (false = true) by decide)] at H; exact H
      clear H
      have H := H1
      clear H1
      obtain rfl := Option.some.inj H
      go_wp2
      go_ret
      exact ⟨by rfl, by repeat exact HB.out⟩
/-! ### peristylelaw32_light: function 30 -/
mutual
def peristylelaw32_light.l0 : Nat → List Int → List ByteArray → Int → ByteArray → List (S177) → List (S138) → Option (Bool)
 | 0, _, _, _, _, _, _ => none
 | k + 1, x1, x2, x7, x107000, x107001, x107002 => if x7 < (x2.length : Int) then (peristylelaw32_light.j1 k x1 x2 x7 (decide (x7 < 20)) x107000 x107001 x107002) else (peristylelaw32_light.j1 k x1 x2 x7 false x107000 x107001 x107002)
def peristylelaw32_light.j1 : Nat → List Int → List ByteArray → Int → Bool → ByteArray → List (S177) → List (S138) → Option (Bool)
 | 0, _, _, _, _, _, _, _ => none
 | k + 1, x1, x2, x7, x15, x107000, x107001, x107002 => if x15 = true then (if 0 ≤ x7 then (if x7 < (x2.length : Int) then (if ((rdOf ByteArray.empty x2 x7).size : Int) > 40 then (some false) else (peristylelaw32_light.l0 k x1 x2 (wrap64 (x7 + 1)) x107000 x107001 x107002)) else (none)) else (none)) else ((peristyleref25_Light.f k (([(⟨x107000, x107001, x107002⟩ : S63)] : List (S63)))).bind fun t111 => (if t111 = true then (if (x1.length : Int) ≤ 20 then (some (decide ((x2.length : Int) ≤ 20))) else (some false)) else (some false)))
end
def peristylelaw32_light.f (k : Nat) (a0_0 : ByteArray) (l0_1 : List (S177)) (l0_2 : List (S138)) (l1 : List Int) (l2 : List ByteArray) : Option (Bool) := peristylelaw32_light.l0 k l1 l2 0 a0_0 l0_1 l0_2
set_option maxHeartbeats 8000000 in
set_option maxRecDepth 100000 in
theorem peristylelaw32_light.calls (k : Nat) (a0_0 : ByteArray) (P0_1_ : Nat → Prop) (A0_1 : Option Addr) (c0_1 : Nat) (l0_1 : List (S177)) (P0_2_ : Nat → Prop) (A0_2 : Option Addr) (c0_2 : Nat) (l0_2 : List (S138)) (A1 : Option Addr) (c1 : Nat) (l1 : List Int) (A2 : Option Addr) (c2 : Nat) (l2 : List ByteArray) (r : Bool) (w : World) (hs0_1 : Kd.V k177 177 w w.heap.size (fun k_ => P0_1_ k_) (.slice A0_1 l0_1.length c0_1) l0_1) (hs0_2 : Kd.V k138 138 w w.heap.size (fun k_ => P0_2_ k_) (.slice A0_2 l0_2.length c0_2) l0_2) (hr1 : Kd.C (Kd.int .i64) w A1 l1.length l1) (hc1 : l1.length ≤ c1) (hr2 : Kd.C Kd.string w A2 l2.length l2) (hc2 : l2.length ≤ c2) (h : peristylelaw32_light.f k a0_0 l0_1 l0_2 l1 l2 = some r) :
  Calls Try.prog 30 #[.agg #[.string a0_0, .slice A0_1 l0_1.length c0_1, .slice A0_2 l0_2.length c0_2], .slice A1 l1.length c1, .slice A2 l2.length c2] w fun e w' => e = .returned (.bool r) ∧ Below w.heap.size w w' := by
 have hu63 := Try.underlying63
 have HO0_1 := Aside0.mk (show Kd.V k177 177 w w.heap.size (fun k_ => ((P0_1_ k_ ∨ P0_2_ k_) ∨ w.heap.size ≤ k_)) (.slice A0_1 l0_1.length c0_1) l0_1 from Kd.V_mono hs0_1 (fun k_ hk => .inl (.inl hk)))
 have HO0_2 := Aside0.mk (show Kd.V k138 138 w w.heap.size (fun k_ => ((P0_1_ k_ ∨ P0_2_ k_) ∨ w.heap.size ≤ k_)) (.slice A0_2 l0_2.length c0_2) l0_2 from Kd.V_mono hs0_2 (fun k_ hk => .inl (.inr hk)))
 have HR1 := Aside0.mk hr1
 have HC1 := Aside0.mk hc1
 clear hr1 hc1
 have HR2 := Aside0.mk hr2
 have HC2 := Aside0.mk hc2
 clear hr2 hc2
 have HB := Aside0.mk (Below.refl w.heap.size w)
 have H : (peristylelaw32_light.l0 k l1 l2 0 a0_0 l0_1 l0_2) = some r := h
 clear h
 have H' := Aside0.mk H
 clear H
 go_enter Try.func30, Try.ntmps30
 go_wp2_with (((with_reducible refine gate_dst (N := 3) rfl ?_); (try (refine gate_guard (by rfl) ?_; dsimp only)); refine box_event ?hg (N := 3) ?hd (cs := #[.string a0_0, .slice A0_1 l0_1.length c0_1, .slice A0_2 l0_2.length c0_2]) (t := 63) ?hr ?_; (case hd => rfl); (case hg => rfl); (case hr => (go_simp; done)); intro gb106 hg w4 hbox hb; have n0_ := Aside0.mk (Kd.V_below (Kd.V_elderB HO0_1.out gb106 (Nat.le_of_eq hg.symm)) hb); have n1_ := Aside0.mk (Kd.V_below (Kd.V_elderB HO0_2.out gb106 (Nat.le_of_eq hg.symm)) hb); have n2_ := Aside0.mk (below_step HB.out hb); have n3_ := Aside0.mk (hbox); have n4_ := Aside0.mk ((by rw [hg]; exact (below_size HB.out) : w.heap.size ≤ gb106)); have n5_ := Aside0.mk ((by rw [hg]; exact (below_size HB.out) : w.heap.size ≤ gb106)); clear HO0_1 HO0_2 HB; have HO0_1 := n0_; have HO0_2 := n1_; have HB := n2_; have BK106 := n3_; have GW106 := n4_; have GE106 := n5_; clear n0_ n1_ n2_ n3_ n4_ n5_ hb hbox hg))
 go_loopg [7] k (fun kq v7 w' => ∃ (x7_1 : Int), v7 = .int .i64 x7_1 ∧ Aside0 (peristylelaw32_light.l0 kq l1 l2 x7_1 a0_0 l0_1 l0_2 = some r) ∧ Aside0 (kq ≤ k) ∧ Aside0 (Kd.V k177 177 w' w.heap.size (fun k_ => ((P0_1_ k_ ∨ P0_2_ k_) ∨ w.heap.size ≤ k_) ∧ k_ ≠ gb106) (.slice A0_1 l0_1.length c0_1) l0_1) ∧ Aside0 (Kd.V k138 138 w' w.heap.size (fun k_ => ((P0_1_ k_ ∨ P0_2_ k_) ∨ w.heap.size ≤ k_) ∧ k_ ≠ gb106) (.slice A0_2 l0_2.length c0_2) l0_2) ∧ Aside0 (w'.heap[gb106]? = some (.cells #[.string a0_0, (.slice A0_1 l0_1.length c0_1), (.slice A0_2 l0_2.length c0_2)] 63 (0, 0))) ∧ Aside0 (Below w.heap.size w w'))
 case atStart => exact ⟨(0), (by rfl), H', ⟨Nat.le_refl _⟩, ⟨HO0_1.out⟩, ⟨HO0_2.out⟩, ⟨BK106.out⟩, ⟨HB.out⟩⟩
 case round =>
  clear H'
  obtain ⟨x7_1, rfl, HA, HK1, HO_107001, HO_107002, BK106, HB⟩ := hrel
  cases gk with
  | zero => exact absurd HA.out (by simp [peristylelaw32_light.l0])
  | succ k1 =>
   have H := HA.out
   clear HA
   simp only [peristylelaw32_light.l0] at H
   have HC5 := Aside0.mk H
   clear H
   go_upto_region 2 with fail
   go_cut [15] (fun v15 wc => ∃ (kq : Nat) (x15_4 : Bool), v15 = .bool x15_4 ∧ Aside0 (peristylelaw32_light.j1 kq l1 l2 x7_1 x15_4 a0_0 l0_1 l0_2 = some r) ∧ Aside0 (kq ≤ k1) ∧ Aside0 (Kd.V k177 177 wc w.heap.size (fun k_ => ((P0_1_ k_ ∨ P0_2_ k_) ∨ w.heap.size ≤ k_) ∧ k_ ≠ gb106) (.slice A0_1 l0_1.length c0_1) l0_1) ∧ Aside0 (Kd.V k138 138 wc w.heap.size (fun k_ => ((P0_1_ k_ ∨ P0_2_ k_) ∨ w.heap.size ≤ k_) ∧ k_ ≠ gb106) (.slice A0_2 l0_2.length c0_2) l0_2) ∧ Aside0 (wc.heap[gb106]? = some (.cells #[.string a0_0, (.slice A0_1 l0_1.length c0_1), (.slice A0_2 l0_2.length c0_2)] 63 (0, 0))) ∧ Aside0 (Below w.heap.size w wc))
   case first =>
    have H := HC5.out
    clear HC5
    by_cases c6 : x7_1 < (l2.length : Int)
    ·
     rw [if_pos c6] at H
     have c6b0 : decide (x7_1 < (l2.length : Int)) = true := decide_eq_true c6
     clear c6
     have H' := Aside0.mk H
     clear H
     go_wp2
     go_meet
     case rel => exact ⟨_, (decide (x7_1 < 20)), (by rfl), H', ⟨by have := HK1.out; omega⟩, ⟨HO_107001.out⟩, ⟨HO_107002.out⟩, ⟨BK106.out⟩, ⟨HB.out⟩⟩
    ·
     rw [if_neg c6] at H
     have c6b0 : decide (x7_1 < (l2.length : Int)) = false := decide_eq_false c6
     clear c6
     have H' := Aside0.mk H
     clear H
     go_wp2
     go_meet
     case rel => exact ⟨_, (false), (by rfl), H', ⟨by have := HK1.out; omega⟩, ⟨HO_107001.out⟩, ⟨HO_107002.out⟩, ⟨BK106.out⟩, ⟨HB.out⟩⟩
   case rest =>
    clear HC5
    obtain ⟨kq, x15_4, rfl, HA, HJ4, HO_107001, HO_107002, BK106, HB⟩ := hcut
    cases kq with
    | zero => exact absurd HA.out (by simp [peristylelaw32_light.j1])
    | succ kj4 =>
     have H := HA.out
     clear HA
     simp only [peristylelaw32_light.j1] at H
     by_cases c7 : x15_4 = true
     ·
      subst c7
      have H1 : (if 0 ≤ x7_1 then (if x7_1 < (l2.length : Int) then (if ((rdOf ByteArray.empty l2 x7_1).size : Int) > 40 then (some false) else (peristylelaw32_light.l0 kj4 l1 l2 (wrap64 (x7_1 + 1)) a0_0 l0_1 l0_2)) else (none)) else (none)) = some r := by rw [if_pos rfl] at H; exact H
      clear H
      have H := H1
      clear H1
      by_cases c8 : 0 ≤ x7_1
      ·
       rw [if_pos c8] at H
       have c8b0 : decide (0 ≤ x7_1) = true := decide_eq_true c8
       clear c8
       by_cases c9 : x7_1 < (l2.length : Int)
       ·
        rw [if_pos c9] at H
        have c9b0 : decide (x7_1 < (l2.length : Int)) = true := decide_eq_true c9
        clear c9
        by_cases c10 : ((rdOf ByteArray.empty l2 x7_1).size : Int) > 40
        ·
         rw [if_pos c10] at H
         have c10b0 : decide (40 < ((rdOf ByteArray.empty l2 x7_1).size : Int)) = true := decide_eq_true c10
         have c10b1 : decide (40 < (rdOf ByteArray.empty l2 x7_1).size) = true := decide_eq_true (by omega)
         clear c10
         obtain rfl := Option.some.inj H
         have p107 : 0 ≤ (x7_1 : Int) := of_decide_eq_true (by (with_reducible assumption))
         have q107 : x7_1 < (l2.length : Int) := of_decide_eq_true (by (with_reducible assumption))
         obtain ⟨ad107, e107, hx107_0⟩ := Kd.at_string HR2.out x7_1 p107 q107
         cases e107
         replace hx107_0 := (HB.out.cell (World.block_lt_of_cell? w _ hx107_0)).trans hx107_0
         replace p107 := eq_true p107
         replace q107 := eq_true q107
         go_wp2
         go_ret
         exact ⟨by rfl, by repeat exact HB.out⟩
        ·
         rw [if_neg c10] at H
         have c10b0 : decide (40 < ((rdOf ByteArray.empty l2 x7_1).size : Int)) = false := decide_eq_false c10
         have c10b1 : decide (40 < (rdOf ByteArray.empty l2 x7_1).size) = false := decide_eq_false (by omega)
         clear c10
         have H' := Aside0.mk H
         clear H
         have p107 : 0 ≤ (x7_1 : Int) := of_decide_eq_true (by (with_reducible assumption))
         have q107 : x7_1 < (l2.length : Int) := of_decide_eq_true (by (with_reducible assumption))
         obtain ⟨ad107, e107, hx107_0⟩ := Kd.at_string HR2.out x7_1 p107 q107
         cases e107
         replace hx107_0 := (HB.out.cell (World.block_lt_of_cell? w _ hx107_0)).trans hx107_0
         replace p107 := eq_true p107
         replace q107 := eq_true q107
         go_wp2
         go_roundg kj4
         case measure => have := HK1.out; have := HJ4.out; omega
         case rel => exact ⟨(wrap64 (x7_1 + 1)), (by rfl), H', ⟨by have := HK1.out; have := HJ4.out; omega⟩, ⟨HO_107001.out⟩, ⟨HO_107002.out⟩, ⟨BK106.out⟩, ⟨HB.out⟩⟩
       ·
        rw [if_neg c9] at H
        exact absurd H (by simp)
      ·
       rw [if_neg c8] at H
       exact absurd H (by simp)
     ·
      replace c7 := Bool.eq_false_iff.mpr c7
      subst c7
      have H1 : ((peristyleref25_Light.f kj4 (([(⟨a0_0, l0_1, l0_2⟩ : S63)] : List (S63)))).bind fun t111 => (if t111 = true then (if (l1.length : Int) ≤ 20 then (some (decide ((l2.length : Int) ≤ 20))) else (some false)) else (some false))) = some r := by rw [if_neg (show ¬ (false = true) by decide)] at H; exact H
      clear H
      have H := H1
      clear H1
      obtain ⟨y108, hy108⟩ : ∃ y_ : List (S63), y_ = (([(⟨a0_0, l0_1, l0_2⟩ : S63)] : List (S63))) := ⟨_, rfl⟩
      replace H : ((peristyleref25_Light.f kj4 y108).bind fun t111 => (if t111 = true then (if (l1.length : Int) ≤ 20 then (some (decide ((l2.length : Int) ≤ 20))) else (some false)) else (some false))) = some r := by (rw [hy108]; with_reducible exact H)
      have Ny108 := Aside0.mk hy108
      clear hy108
      replace H := Option.bind_eq_some_iff.mp H
      obtain ⟨t111, A110, H⟩ := H
      replace H : (if t111 = true then (if (l1.length : Int) ≤ 20 then (some (decide ((l2.length : Int) ≤ 20))) else (some false)) else (some false)) = some r := H
      have A11 := Aside0.mk A110
      clear A110
      by_cases c12 : t111 = true
      ·
       subst c12
       have H1 : (if (l1.length : Int) ≤ 20 then (some (decide ((l2.length : Int) ≤ 20))) else (some false)) = some r := by rw [if_pos rfl] at H; exact H
       clear H
       have H := H1
       clear H1
       by_cases c13 : (l1.length : Int) ≤ 20
       ·
        rw [if_pos c13] at H
        have c13b0 : decide ((l1.length : Int) ≤ 20) = true := decide_eq_true c13
        have c13b1 : decide (l1.length ≤ 20) = true := decide_eq_true (by omega)
        clear c13
        obtain rfl := Option.some.inj H
        have hcz14_0 : wc.cell? ⟨gb106, 0, none⟩ = some (.string a0_0) := (blk_cell BK106.out 0).trans rfl
        have hcz14_1 : wc.cell? ⟨gb106, 1, none⟩ = some (.slice A0_1 l0_1.length c0_1) := (blk_cell BK106.out 1).trans rfl
        have hcz14_2 : wc.cell? ⟨gb106, 2, none⟩ = some (.slice A0_2 l0_2.length c0_2) := (blk_cell BK106.out 2).trans rfl
        have hfz14_0 := blk_frozen BK106.out 0
        have hfz14_1 := blk_frozen BK106.out 1
        have hfz14_2 := blk_frozen BK106.out 2
        go_wp2_with (first | ((with_reducible refine gate_dst (N := 25) rfl ?_); (try (refine gate_guard (by rfl) ?_; dsimp only)); refine Kd.N_lit k63 _ 63 ?hg (N' := 25) ?hd (xs := ([(⟨a0_0, l0_1, l0_2⟩ : S63)] : List (S63))) (inner := [.string a0_0, .slice A0_1 l0_1.length c0_1, .slice A0_2 l0_2.length c0_2]) (ok := (fun k_ => ((P0_1_ k_ ∨ P0_2_ k_) ∨ w.heap.size ≤ k_) ∧ k_ ≠ gb106)) (okp := (fun k_ => ((P0_1_ k_ ∨ P0_2_ k_) ∨ w.heap.size ≤ k_) ∧ k_ ≠ gb106)) ?hr ?hp (fun _ hk => hk) ((show ∀ k_, wc.heap.size ≤ k_ → (fun k_ => ((P0_1_ k_ ∨ P0_2_ k_) ∨ w.heap.size ≤ k_) ∧ k_ ≠ gb106) k_ from fun k_ hk => ⟨(.inr (Nat.le_trans (below_size HB.out) hk)), Kd.freshB (g := gb106) (o := .cells #[.string a0_0, .slice A0_1 l0_1.length c0_1, .slice A0_2 l0_2.length c0_2] 63 (0, 0)) BK106.out k_ hk⟩) _ (Nat.le_refl _)) (Below.refl _ _) (Nat.le_refl _) (by simp) ?_; (case hd => rfl); (case hg => rfl); (case hr => (go_simp; done)); (case hp => exact (Reps.c3 (show Kd.FK k63 _ _ (⟨a0_0, l0_1, l0_2⟩ : S63) [.string a0_0, .slice A0_1 l0_1.length c0_1, .slice A0_2 l0_2.length c0_2] from (k63_mkF _ _ (⟨a0_0, l0_1, l0_2⟩ : S63) (Kd.V_reads' (Kd.V_mono (ok' := (fun k_ => ((P0_1_ k_ ∨ P0_2_ k_) ∨ w.heap.size ≤ k_) ∧ k_ ≠ gb106)) (HO_107001.out) (fun k_ hk => ⟨hk.1, hk.2⟩))).2.1 (Kd.V_F (e := 0) (base := 0) (Kd.V_mono (e := 0) (base := 0) (ok' := (fun k_ => ((P0_1_ k_ ∨ P0_2_ k_) ∨ w.heap.size ≤ k_) ∧ k_ ≠ gb106)) (HO_107001.out) (fun k_ hk => ⟨hk.1, hk.2⟩))) (Kd.V_reads' (Kd.V_mono (ok' := (fun k_ => ((P0_1_ k_ ∨ P0_2_ k_) ∨ w.heap.size ≤ k_) ∧ k_ ≠ gb106)) (HO_107002.out) (fun k_ hk => ⟨hk.1, hk.2⟩))).2.1 (Kd.V_F (e := 0) (base := 0) (Kd.V_mono (e := 0) (base := 0) (ok' := (fun k_ => ((P0_1_ k_ ∨ P0_2_ k_) ∨ w.heap.size ≤ k_) ∧ k_ ≠ gb106)) (HO_107002.out) (fun k_ hk => ⟨hk.1, hk.2⟩))))) (Reps.none _ _))); intro v109 w15 ho16 hb hg_ hnew_; clear hg_ hnew_; (rw [← Ny108.out] at ho16); have n0_ := Aside0.mk (Kd.V_elder' HO_107001.out (Kd.N_base ho16) hb); have n1_ := Aside0.mk (Kd.V_elder' HO_107002.out (Kd.N_base ho16) hb); have n2_ := Aside0.mk (Kd.N_lower ho16 (below_size HB.out)); have n3_ := Aside0.mk (blk_below (g := gb106) (o := .cells #[.string a0_0, .slice A0_1 l0_1.length c0_1, .slice A0_2 l0_2.length c0_2] 63 (0, 0)) BK106.out hb); have n4_ := Aside0.mk (below_step HB.out hb); clear HO_107001 HO_107002 BK106 HB; have HO_107001 := n0_; have HO_107002 := n1_; have HO110 := n2_; have BK106 := n3_; have HB := n4_; clear n0_ n1_ n2_ n3_ n4_ hb ho16; obtain ⟨Ao17, co17, eo17⟩ := Kd.N_slice HO110.out; subst eo17) | ((with_reducible refine gate_callee (f := 74) rfl ?_); refine goesL_ (some 26) rfl rfl Try.func74 (by kernel_rfl) rfl #[.slice Ao17 y108.length co17] rfl (by (try simp only [List.map_toArray, List.map_cons, List.map_nil]); rfl) ?_; (with_reducible refine (peristyleref25_Light.calls kj4 _ _ y108 true _ ?side1 ?side2 A11.out).mono ?_); (case side1 => repeat (exact (Kd.N_reads' HO110.out).2.2)); (case side2 => exact (Kd.N_reads' HO110.out).2.1); rintro e w18 ⟨rfl, hb⟩; refine ⟨_, rfl, ?_⟩; have n0_ := Aside0.mk (Kd.V_below HO_107001.out hb); have n1_ := Aside0.mk (Kd.V_below HO_107002.out hb); have n2_ := Aside0.mk (Kd.N_below HO110.out hb); have n3_ := Aside0.mk (blk_below (g := gb106) (o := .cells #[.string a0_0, .slice A0_1 l0_1.length c0_1, .slice A0_2 l0_2.length c0_2] 63 (0, 0)) BK106.out hb); have n4_ := Aside0.mk (below_step HB.out hb); clear HO_107001 HO_107002 HO110 BK106 HB; have HO_107001 := n0_; have HO_107002 := n1_; have HO110 := n2_; have BK106 := n3_; have HB := n4_; clear n0_ n1_ n2_ n3_ n4_; (try clear hb)))
        go_ret
        exact ⟨by rfl, by repeat exact HB.out⟩
       ·
        rw [if_neg c13] at H
        have c13b0 : decide ((l1.length : Int) ≤ 20) = false := decide_eq_false c13
        have c13b1 : decide (l1.length ≤ 20) = false := decide_eq_false (by omega)
        clear c13
        obtain rfl := Option.some.inj H
        have hcz19_0 : wc.cell? ⟨gb106, 0, none⟩ = some (.string a0_0) := (blk_cell BK106.out 0).trans rfl
        have hcz19_1 : wc.cell? ⟨gb106, 1, none⟩ = some (.slice A0_1 l0_1.length c0_1) := (blk_cell BK106.out 1).trans rfl
        have hcz19_2 : wc.cell? ⟨gb106, 2, none⟩ = some (.slice A0_2 l0_2.length c0_2) := (blk_cell BK106.out 2).trans rfl
        have hfz19_0 := blk_frozen BK106.out 0
        have hfz19_1 := blk_frozen BK106.out 1
        have hfz19_2 := blk_frozen BK106.out 2
        go_wp2_with (first | ((with_reducible refine gate_dst (N := 25) rfl ?_); (try (refine gate_guard (by rfl) ?_; dsimp only)); refine Kd.N_lit k63 _ 63 ?hg (N' := 25) ?hd (xs := ([(⟨a0_0, l0_1, l0_2⟩ : S63)] : List (S63))) (inner := [.string a0_0, .slice A0_1 l0_1.length c0_1, .slice A0_2 l0_2.length c0_2]) (ok := (fun k_ => ((P0_1_ k_ ∨ P0_2_ k_) ∨ w.heap.size ≤ k_) ∧ k_ ≠ gb106)) (okp := (fun k_ => ((P0_1_ k_ ∨ P0_2_ k_) ∨ w.heap.size ≤ k_) ∧ k_ ≠ gb106)) ?hr ?hp (fun _ hk => hk) ((show ∀ k_, wc.heap.size ≤ k_ → (fun k_ => ((P0_1_ k_ ∨ P0_2_ k_) ∨ w.heap.size ≤ k_) ∧ k_ ≠ gb106) k_ from fun k_ hk => ⟨(.inr (Nat.le_trans (below_size HB.out) hk)), Kd.freshB (g := gb106) (o := .cells #[.string a0_0, .slice A0_1 l0_1.length c0_1, .slice A0_2 l0_2.length c0_2] 63 (0, 0)) BK106.out k_ hk⟩) _ (Nat.le_refl _)) (Below.refl _ _) (Nat.le_refl _) (by simp) ?_; (case hd => rfl); (case hg => rfl); (case hr => (go_simp; done)); (case hp => exact (Reps.c3 (show Kd.FK k63 _ _ (⟨a0_0, l0_1, l0_2⟩ : S63) [.string a0_0, .slice A0_1 l0_1.length c0_1, .slice A0_2 l0_2.length c0_2] from (k63_mkF _ _ (⟨a0_0, l0_1, l0_2⟩ : S63) (Kd.V_reads' (Kd.V_mono (ok' := (fun k_ => ((P0_1_ k_ ∨ P0_2_ k_) ∨ w.heap.size ≤ k_) ∧ k_ ≠ gb106)) (HO_107001.out) (fun k_ hk => ⟨hk.1, hk.2⟩))).2.1 (Kd.V_F (e := 0) (base := 0) (Kd.V_mono (e := 0) (base := 0) (ok' := (fun k_ => ((P0_1_ k_ ∨ P0_2_ k_) ∨ w.heap.size ≤ k_) ∧ k_ ≠ gb106)) (HO_107001.out) (fun k_ hk => ⟨hk.1, hk.2⟩))) (Kd.V_reads' (Kd.V_mono (ok' := (fun k_ => ((P0_1_ k_ ∨ P0_2_ k_) ∨ w.heap.size ≤ k_) ∧ k_ ≠ gb106)) (HO_107002.out) (fun k_ hk => ⟨hk.1, hk.2⟩))).2.1 (Kd.V_F (e := 0) (base := 0) (Kd.V_mono (e := 0) (base := 0) (ok' := (fun k_ => ((P0_1_ k_ ∨ P0_2_ k_) ∨ w.heap.size ≤ k_) ∧ k_ ≠ gb106)) (HO_107002.out) (fun k_ hk => ⟨hk.1, hk.2⟩))))) (Reps.none _ _))); intro v109 w20 ho21 hb hg_ hnew_; clear hg_ hnew_; (rw [← Ny108.out] at ho21); have n0_ := Aside0.mk (Kd.V_elder' HO_107001.out (Kd.N_base ho21) hb); have n1_ := Aside0.mk (Kd.V_elder' HO_107002.out (Kd.N_base ho21) hb); have n2_ := Aside0.mk (Kd.N_lower ho21 (below_size HB.out)); have n3_ := Aside0.mk (blk_below (g := gb106) (o := .cells #[.string a0_0, .slice A0_1 l0_1.length c0_1, .slice A0_2 l0_2.length c0_2] 63 (0, 0)) BK106.out hb); have n4_ := Aside0.mk (below_step HB.out hb); clear HO_107001 HO_107002 BK106 HB; have HO_107001 := n0_; have HO_107002 := n1_; have HO110 := n2_; have BK106 := n3_; have HB := n4_; clear n0_ n1_ n2_ n3_ n4_ hb ho21; obtain ⟨Ao22, co22, eo22⟩ := Kd.N_slice HO110.out; subst eo22) | ((with_reducible refine gate_callee (f := 74) rfl ?_); refine goesL_ (some 26) rfl rfl Try.func74 (by kernel_rfl) rfl #[.slice Ao22 y108.length co22] rfl (by (try simp only [List.map_toArray, List.map_cons, List.map_nil]); rfl) ?_; (with_reducible refine (peristyleref25_Light.calls kj4 _ _ y108 true _ ?side1 ?side2 A11.out).mono ?_); (case side1 => repeat (exact (Kd.N_reads' HO110.out).2.2)); (case side2 => exact (Kd.N_reads' HO110.out).2.1); rintro e w23 ⟨rfl, hb⟩; refine ⟨_, rfl, ?_⟩; have n0_ := Aside0.mk (Kd.V_below HO_107001.out hb); have n1_ := Aside0.mk (Kd.V_below HO_107002.out hb); have n2_ := Aside0.mk (Kd.N_below HO110.out hb); have n3_ := Aside0.mk (blk_below (g := gb106) (o := .cells #[.string a0_0, .slice A0_1 l0_1.length c0_1, .slice A0_2 l0_2.length c0_2] 63 (0, 0)) BK106.out hb); have n4_ := Aside0.mk (below_step HB.out hb); clear HO_107001 HO_107002 HO110 BK106 HB; have HO_107001 := n0_; have HO_107002 := n1_; have HO110 := n2_; have BK106 := n3_; have HB := n4_; clear n0_ n1_ n2_ n3_ n4_; (try clear hb)))
        go_ret
        exact ⟨by rfl, by repeat exact HB.out⟩
      ·
       replace c12 := Bool.eq_false_iff.mpr c12
       subst c12
       have H1 : (some false) = some r := by rw [if_neg (show ¬ (false = true) by decide)] at H; exact H
       clear H
       have H := H1
       clear H1
       obtain rfl := Option.some.inj H
       have hcz24_0 : wc.cell? ⟨gb106, 0, none⟩ = some (.string a0_0) := (blk_cell BK106.out 0).trans rfl
       have hcz24_1 : wc.cell? ⟨gb106, 1, none⟩ = some (.slice A0_1 l0_1.length c0_1) := (blk_cell BK106.out 1).trans rfl
       have hcz24_2 : wc.cell? ⟨gb106, 2, none⟩ = some (.slice A0_2 l0_2.length c0_2) := (blk_cell BK106.out 2).trans rfl
       have hfz24_0 := blk_frozen BK106.out 0
       have hfz24_1 := blk_frozen BK106.out 1
       have hfz24_2 := blk_frozen BK106.out 2
       go_wp2_with (first | ((with_reducible refine gate_dst (N := 25) rfl ?_); (try (refine gate_guard (by rfl) ?_; dsimp only)); refine Kd.N_lit k63 _ 63 ?hg (N' := 25) ?hd (xs := ([(⟨a0_0, l0_1, l0_2⟩ : S63)] : List (S63))) (inner := [.string a0_0, .slice A0_1 l0_1.length c0_1, .slice A0_2 l0_2.length c0_2]) (ok := (fun k_ => ((P0_1_ k_ ∨ P0_2_ k_) ∨ w.heap.size ≤ k_) ∧ k_ ≠ gb106)) (okp := (fun k_ => ((P0_1_ k_ ∨ P0_2_ k_) ∨ w.heap.size ≤ k_) ∧ k_ ≠ gb106)) ?hr ?hp (fun _ hk => hk) ((show ∀ k_, wc.heap.size ≤ k_ → (fun k_ => ((P0_1_ k_ ∨ P0_2_ k_) ∨ w.heap.size ≤ k_) ∧ k_ ≠ gb106) k_ from fun k_ hk => ⟨(.inr (Nat.le_trans (below_size HB.out) hk)), Kd.freshB (g := gb106) (o := .cells #[.string a0_0, .slice A0_1 l0_1.length c0_1, .slice A0_2 l0_2.length c0_2] 63 (0, 0)) BK106.out k_ hk⟩) _ (Nat.le_refl _)) (Below.refl _ _) (Nat.le_refl _) (by simp) ?_; (case hd => rfl); (case hg => rfl); (case hr => (go_simp; done)); (case hp => exact (Reps.c3 (show Kd.FK k63 _ _ (⟨a0_0, l0_1, l0_2⟩ : S63) [.string a0_0, .slice A0_1 l0_1.length c0_1, .slice A0_2 l0_2.length c0_2] from (k63_mkF _ _ (⟨a0_0, l0_1, l0_2⟩ : S63) (Kd.V_reads' (Kd.V_mono (ok' := (fun k_ => ((P0_1_ k_ ∨ P0_2_ k_) ∨ w.heap.size ≤ k_) ∧ k_ ≠ gb106)) (HO_107001.out) (fun k_ hk => ⟨hk.1, hk.2⟩))).2.1 (Kd.V_F (e := 0) (base := 0) (Kd.V_mono (e := 0) (base := 0) (ok' := (fun k_ => ((P0_1_ k_ ∨ P0_2_ k_) ∨ w.heap.size ≤ k_) ∧ k_ ≠ gb106)) (HO_107001.out) (fun k_ hk => ⟨hk.1, hk.2⟩))) (Kd.V_reads' (Kd.V_mono (ok' := (fun k_ => ((P0_1_ k_ ∨ P0_2_ k_) ∨ w.heap.size ≤ k_) ∧ k_ ≠ gb106)) (HO_107002.out) (fun k_ hk => ⟨hk.1, hk.2⟩))).2.1 (Kd.V_F (e := 0) (base := 0) (Kd.V_mono (e := 0) (base := 0) (ok' := (fun k_ => ((P0_1_ k_ ∨ P0_2_ k_) ∨ w.heap.size ≤ k_) ∧ k_ ≠ gb106)) (HO_107002.out) (fun k_ hk => ⟨hk.1, hk.2⟩))))) (Reps.none _ _))); intro v109 w25 ho26 hb hg_ hnew_; clear hg_ hnew_; (rw [← Ny108.out] at ho26); have n0_ := Aside0.mk (Kd.V_elder' HO_107001.out (Kd.N_base ho26) hb); have n1_ := Aside0.mk (Kd.V_elder' HO_107002.out (Kd.N_base ho26) hb); have n2_ := Aside0.mk (Kd.N_lower ho26 (below_size HB.out)); have n3_ := Aside0.mk (blk_below (g := gb106) (o := .cells #[.string a0_0, .slice A0_1 l0_1.length c0_1, .slice A0_2 l0_2.length c0_2] 63 (0, 0)) BK106.out hb); have n4_ := Aside0.mk (below_step HB.out hb); clear HO_107001 HO_107002 BK106 HB; have HO_107001 := n0_; have HO_107002 := n1_; have HO110 := n2_; have BK106 := n3_; have HB := n4_; clear n0_ n1_ n2_ n3_ n4_ hb ho26; obtain ⟨Ao27, co27, eo27⟩ := Kd.N_slice HO110.out; subst eo27) | ((with_reducible refine gate_callee (f := 74) rfl ?_); refine goesL_ (some 26) rfl rfl Try.func74 (by kernel_rfl) rfl #[.slice Ao27 y108.length co27] rfl (by (try simp only [List.map_toArray, List.map_cons, List.map_nil]); rfl) ?_; (with_reducible refine (peristyleref25_Light.calls kj4 _ _ y108 false _ ?side1 ?side2 A11.out).mono ?_); (case side1 => repeat (exact (Kd.N_reads' HO110.out).2.2)); (case side2 => exact (Kd.N_reads' HO110.out).2.1); rintro e w28 ⟨rfl, hb⟩; refine ⟨_, rfl, ?_⟩; have n0_ := Aside0.mk (Kd.V_below HO_107001.out hb); have n1_ := Aside0.mk (Kd.V_below HO_107002.out hb); have n2_ := Aside0.mk (Kd.N_below HO110.out hb); have n3_ := Aside0.mk (blk_below (g := gb106) (o := .cells #[.string a0_0, .slice A0_1 l0_1.length c0_1, .slice A0_2 l0_2.length c0_2] 63 (0, 0)) BK106.out hb); have n4_ := Aside0.mk (below_step HB.out hb); clear HO_107001 HO_107002 HO110 BK106 HB; have HO_107001 := n0_; have HO_107002 := n1_; have HO110 := n2_; have BK106 := n3_; have HB := n4_; clear n0_ n1_ n2_ n3_ n4_; (try clear hb)))
       go_ret
       exact ⟨by rfl, by repeat exact HB.out⟩
/-! ### slices_Index_int_int: function 87 -/
def slices_Index_int_int.l0 : Nat → List Int → Int → Int → Int → Option (Int)
 | 0, _, _, _, _ => none
 | k + 1, x0, x1, x7, x8 => if x8 < x7 then (if 0 ≤ x8 then (if x8 < (x0.length : Int) then (if x1 = (rd x0 x8) then (some x8) else (slices_Index_int_int.l0 k x0 x1 x7 (wrap64 (x8 + 1)))) else (none)) else (none)) else (some (-1))
def slices_Index_int_int.f (k : Nat) (l0 : List Int) (a1 : Int) : Option (Int) := slices_Index_int_int.l0 k l0 a1 (l0.length : Int) 0
theorem slices_Index_int_int.mono_l : ∀ k, (∀ y0 y1 y2 y3, LeO (slices_Index_int_int.l0 k y0 y1 y2 y3) (slices_Index_int_int.l0 (k + 1) y0 y1 y2 y3))
 | 0 => fun _ _ _ _ r h => by simp [slices_Index_int_int.l0] at h
 | k + 1 => by
  have ih0 := slices_Index_int_int.mono_l k
  ·
   intro y0 y1 y2 y3
   unfold slices_Index_int_int.l0
   repeat' first
   | (with_reducible exact ih0 _ _ _ _)
   | (with_reducible exact LeO.refl _)
   | (with_reducible exact LeO.none _)
   | (with_reducible refine LeO.ite ?_ ?_)
   | (with_reducible refine LeO.bind ?_ (fun _ => ?_))
   | exact ih0 _ _ _ _
   | exact LeO.none _
   | refine LeO.ite ?_ ?_
   | refine LeO.bind ?_ (fun _ => ?_)
theorem slices_Index_int_int.mono : ∀ a0 a1 k, LeO (slices_Index_int_int.f k a0 a1) (slices_Index_int_int.f (k + 1) a0 a1) := by
 intro a0 a1 k
 have ih0 := slices_Index_int_int.mono_l k
 unfold slices_Index_int_int.f
 repeat' first
   | (with_reducible exact ih0 _ _ _ _)
   | (with_reducible exact LeO.refl _)
   | (with_reducible exact LeO.none _)
   | (with_reducible refine LeO.ite ?_ ?_)
   | (with_reducible refine LeO.bind ?_ (fun _ => ?_))
   | exact ih0 _ _ _ _
   | exact LeO.none _
   | refine LeO.ite ?_ ?_
   | refine LeO.bind ?_ (fun _ => ?_)
set_option maxHeartbeats 8000000 in
set_option maxRecDepth 100000 in
theorem slices_Index_int_int.calls (k : Nat) (A0 : Option Addr) (c0 : Nat) (l0 : List Int) (a1 : Int) (r : Int) (w : World) (hr0 : Kd.C (Kd.int .i64) w A0 l0.length l0) (hc0 : l0.length ≤ c0) (h : slices_Index_int_int.f k l0 a1 = some r) :
  Calls Try.prog 87 #[.slice A0 l0.length c0, .int .i64 a1] w fun e w' => e = .returned (.int .i64 r) ∧ Drawn0 w w' := by
 have HR0 := Aside0.mk hr0
 have HC0 := Aside0.mk hc0
 clear hr0 hc0
 have H : (slices_Index_int_int.l0 k l0 a1 (l0.length : Int) 0) = some r := h
 clear h
 have H' := Aside0.mk H
 clear H
 go_enter Try.func87, Try.ntmps87
 go_wp2
 go_loopg [8] k (fun kq v8 w' => ∃ (x8_1 : Int), v8 = .int .i64 x8_1 ∧ Aside0 (slices_Index_int_int.l0 kq l0 a1 (l0.length : Int) x8_1 = some r) ∧ Aside0 (kq ≤ k) ∧ Drawn0 w w')
 case atStart => exact ⟨(0), (by rfl), H', ⟨Nat.le_refl _⟩, by repeat (exact Drawn0.refl _)⟩
 case round =>
  clear H'
  obtain ⟨x8_1, rfl, HA, HK1, ⟨m1, rfl⟩⟩ := hrel
  cases gk with
  | zero => exact absurd HA.out (by simp [slices_Index_int_int.l0])
  | succ k1 =>
   have H := HA.out
   clear HA
   simp only [slices_Index_int_int.l0] at H
   by_cases c3 : x8_1 < (l0.length : Int)
   ·
    rw [if_pos c3] at H
    have c3b0 : decide (x8_1 < (l0.length : Int)) = true := decide_eq_true c3
    clear c3
    by_cases c4 : 0 ≤ x8_1
    ·
     rw [if_pos c4] at H
     have c4b0 : decide (0 ≤ x8_1) = true := decide_eq_true c4
     clear c4
     by_cases c5 : x8_1 < (l0.length : Int)
     ·
      rw [if_pos c5] at H
      have c5b0 : decide (x8_1 < (l0.length : Int)) = true := decide_eq_true c5
      clear c5
      by_cases c6 : a1 = (rd l0 x8_1)
      ·
       rw [if_pos c6] at H
       have c6b0 : (a1 == (rd l0 x8_1)) = true := beq_iff_eq.mpr c6
       have c6b1 : (a1 != (rd l0 x8_1)) = false := bne_eq_false_iff_eq.mpr c6
       clear c6
       obtain rfl := Option.some.inj H
       have p112 : 0 ≤ (x8_1 : Int) := of_decide_eq_true (by (with_reducible assumption))
       have q112 : x8_1 < (l0.length : Int) := of_decide_eq_true (by (with_reducible assumption))
       obtain ⟨ad112, e112, hx112_0⟩ := Kd.at_int HR0.out x8_1 p112 q112
       cases e112
       replace p112 := eq_true p112
       replace q112 := eq_true q112
       go_wp2
       go_ret
       exact ⟨by rfl, by repeat (first | exact Drawn0.refl _ | apply Drawn0.step)⟩
      ·
       rw [if_neg c6] at H
       have c6b0 : (a1 == (rd l0 x8_1)) = false := beq_eq_false_iff_ne.mpr c6
       have c6b1 : (a1 != (rd l0 x8_1)) = true := bne_iff_ne.mpr c6
       have H' := Aside0.mk H
       clear H
       have p112 : 0 ≤ (x8_1 : Int) := of_decide_eq_true (by (with_reducible assumption))
       have q112 : x8_1 < (l0.length : Int) := of_decide_eq_true (by (with_reducible assumption))
       obtain ⟨ad112, e112, hx112_0⟩ := Kd.at_int HR0.out x8_1 p112 q112
       cases e112
       replace p112 := eq_true p112
       replace q112 := eq_true q112
       go_wp2
       go_roundg k1
       case measure => have := HK1.out; omega
       case rel => exact ⟨(wrap64 (x8_1 + 1)), (by rfl), H', ⟨by have := HK1.out; omega⟩, by repeat (first | exact Drawn0.refl _ | apply Drawn0.step)⟩
     ·
      rw [if_neg c5] at H
      exact absurd H (by simp)
    ·
     rw [if_neg c4] at H
     exact absurd H (by simp)
   ·
    rw [if_neg c3] at H
    have c3b0 : decide (x8_1 < (l0.length : Int)) = false := decide_eq_false c3
    clear c3
    obtain rfl := Option.some.inj H
    go_wp2
    go_ret
    exact ⟨by rfl, by repeat (first | exact Drawn0.refl _ | apply Drawn0.step)⟩
/-! ### slices_Contains_int_int: function 65 -/
def slices_Contains_int_int.f (k : Nat) (l0 : List Int) (a1 : Int) : Option (Bool) := (slices_Index_int_int.f k l0 a1).bind fun t113 => (some (decide (t113 ≥ 0)))
set_option maxHeartbeats 8000000 in
set_option maxRecDepth 100000 in
theorem slices_Contains_int_int.calls (k : Nat) (A0 : Option Addr) (c0 : Nat) (l0 : List Int) (a1 : Int) (r : Bool) (w : World) (hr0 : Kd.C (Kd.int .i64) w A0 l0.length l0) (hc0 : l0.length ≤ c0) (h : slices_Contains_int_int.f k l0 a1 = some r) :
  Calls Try.prog 65 #[.slice A0 l0.length c0, .int .i64 a1] w fun e w' => e = .returned (.bool r) ∧ Drawn0 w w' := by
 have HR0 := Aside0.mk hr0
 have HC0 := Aside0.mk hc0
 clear hr0 hc0
 have H : ((slices_Index_int_int.f k l0 a1).bind fun t113 => (some (decide (t113 ≥ 0)))) = some r := h
 clear h
 replace H := Option.bind_eq_some_iff.mp H
 obtain ⟨t113, A30, H⟩ := H
 replace H : (some (decide (t113 ≥ 0))) = some r := H
 have A3 := Aside0.mk A30
 clear A30
 obtain rfl := Option.some.inj H
 go_enter Try.func65, Try.ntmps65
 go_wp2_with (((with_reducible refine gate_callee (f := 87) rfl ?_); refine goesL_ (some 7) rfl rfl Try.func87 (by kernel_rfl) rfl #[.slice A0 l0.length c0, .int .i64 a1] rfl (by (try simp only [List.map_toArray, List.map_cons, List.map_nil]); rfl) ?_; (with_reducible refine (slices_Index_int_int.calls k _ _ l0 a1 t113 _ ?side1 ?side2 A3.out).mono ?_); (case side1 => repeat exact HR0.out); (case side2 => exact HC0.out); rintro e w' ⟨rfl, ⟨nd, rfl⟩⟩; refine ⟨_, rfl, ?_⟩))
 go_ret
 exact ⟨by rfl, by repeat (first | exact Drawn0.refl _ | apply Drawn0.step)⟩
-- NOT PRINTED: function 149 (api_Table_149)
-- NOT PRINTED: function 116 (api_Table_116)
-- NOT PRINTED: function 119 (api_Table_string)
-- NOT PRINTED: function 76 (schema_Check)
-- NOT PRINTED: function 80 (slices_IndexFunc_int_int)
-- NOT PRINTED: function 121 (slices_ContainsFunc_int_int)
-- NOT PRINTED: function 77 (cover_columns)
-- NOT PRINTED: function 123 (api_Projection)
-- NOT PRINTED: function 78 (cover_used)
-- NOT PRINTED: function 79 (cover_best)
/-! ### peristyleref01_Same: function 34 -/
def peristyleref01_Same.l0 : Nat → List Int → List Int → Int → Option (Bool)
 | 0, _, _, _ => none
 | k + 1, x0, x1, x5 => if x5 < (x0.length : Int) then (if 0 ≤ x5 then (if x5 < (x1.length : Int) then (if (rd x0 x5) = (rd x1 x5) then (peristyleref01_Same.l0 k x0 x1 (wrap64 (x5 + 1))) else (some false)) else (none)) else (none)) else (some true)
def peristyleref01_Same.f (k : Nat) (l0 : List Int) (l1 : List Int) : Option (Bool) := if (l0.length : Int) = (l1.length : Int) then (peristyleref01_Same.l0 k l0 l1 0) else (some false)
theorem peristyleref01_Same.mono_l : ∀ k, (∀ y0 y1 y2, LeO (peristyleref01_Same.l0 k y0 y1 y2) (peristyleref01_Same.l0 (k + 1) y0 y1 y2))
 | 0 => fun _ _ _ r h => by simp [peristyleref01_Same.l0] at h
 | k + 1 => by
  have ih0 := peristyleref01_Same.mono_l k
  ·
   intro y0 y1 y2
   unfold peristyleref01_Same.l0
   repeat' first
   | (with_reducible exact ih0 _ _ _)
   | (with_reducible exact LeO.refl _)
   | (with_reducible exact LeO.none _)
   | (with_reducible refine LeO.ite ?_ ?_)
   | (with_reducible refine LeO.bind ?_ (fun _ => ?_))
   | exact ih0 _ _ _
   | exact LeO.none _
   | refine LeO.ite ?_ ?_
   | refine LeO.bind ?_ (fun _ => ?_)
theorem peristyleref01_Same.mono : ∀ a0 a1 k, LeO (peristyleref01_Same.f k a0 a1) (peristyleref01_Same.f (k + 1) a0 a1) := by
 intro a0 a1 k
 have ih0 := peristyleref01_Same.mono_l k
 unfold peristyleref01_Same.f
 repeat' first
   | (with_reducible exact ih0 _ _ _)
   | (with_reducible exact LeO.refl _)
   | (with_reducible exact LeO.none _)
   | (with_reducible refine LeO.ite ?_ ?_)
   | (with_reducible refine LeO.bind ?_ (fun _ => ?_))
   | exact ih0 _ _ _
   | exact LeO.none _
   | refine LeO.ite ?_ ?_
   | refine LeO.bind ?_ (fun _ => ?_)
set_option maxHeartbeats 8000000 in
set_option maxRecDepth 100000 in
theorem peristyleref01_Same.calls (k : Nat) (A0 : Option Addr) (c0 : Nat) (l0 : List Int) (A1 : Option Addr) (c1 : Nat) (l1 : List Int) (r : Bool) (w : World) (hr0 : Kd.C (Kd.int .i64) w A0 l0.length l0) (hc0 : l0.length ≤ c0) (hr1 : Kd.C (Kd.int .i64) w A1 l1.length l1) (hc1 : l1.length ≤ c1) (h : peristyleref01_Same.f k l0 l1 = some r) :
  Calls Try.prog 34 #[.slice A0 l0.length c0, .slice A1 l1.length c1] w fun e w' => e = .returned (.bool r) ∧ Drawn0 w w' := by
 have HR0 := Aside0.mk hr0
 have HC0 := Aside0.mk hc0
 clear hr0 hc0
 have HR1 := Aside0.mk hr1
 have HC1 := Aside0.mk hc1
 clear hr1 hc1
 have H : (if (l0.length : Int) = (l1.length : Int) then (peristyleref01_Same.l0 k l0 l1 0) else (some false)) = some r := h
 clear h
 by_cases c3 : (l0.length : Int) = (l1.length : Int)
 ·
  rw [if_pos c3] at H
  have c3b0 : ((l0.length : Int) == (l1.length : Int)) = true := beq_iff_eq.mpr c3
  have c3b1 : ((l0.length : Int) != (l1.length : Int)) = false := bne_eq_false_iff_eq.mpr c3
  have c3b2 : (l0.length == l1.length) = true := by (simp at c3 ⊢; omega)
  clear c3
  have H' := Aside0.mk H
  clear H
  go_enter Try.func34, Try.ntmps34
  go_wp2
  repeat (go_quiet (fail); try go_wp2)
  go_loopg [5] k (fun kq v5 w' => ∃ (x5_1 : Int), v5 = .int .i64 x5_1 ∧ Aside0 (peristyleref01_Same.l0 kq l0 l1 x5_1 = some r) ∧ Aside0 (kq ≤ k) ∧ Drawn0 w w')
  case atStart => exact ⟨(0), (by rfl), H', ⟨Nat.le_refl _⟩, by repeat (exact Drawn0.refl _)⟩
  case round =>
   clear H'
   try clear c3b0
   try clear c3b1
   try clear c3b2
   obtain ⟨x5_1, rfl, HA, HK1, ⟨m1, rfl⟩⟩ := hrel
   cases gk with
   | zero => exact absurd HA.out (by simp [peristyleref01_Same.l0])
   | succ k1 =>
    have H := HA.out
    clear HA
    simp only [peristyleref01_Same.l0] at H
    by_cases c4 : x5_1 < (l0.length : Int)
    ·
     rw [if_pos c4] at H
     have c4b0 : decide (x5_1 < (l0.length : Int)) = true := decide_eq_true c4
     clear c4
     by_cases c5 : 0 ≤ x5_1
     ·
      rw [if_pos c5] at H
      have c5b0 : decide (0 ≤ x5_1) = true := decide_eq_true c5
      clear c5
      by_cases c6 : x5_1 < (l1.length : Int)
      ·
       rw [if_pos c6] at H
       have c6b0 : decide (x5_1 < (l1.length : Int)) = true := decide_eq_true c6
       clear c6
       by_cases c7 : (rd l0 x5_1) = (rd l1 x5_1)
       ·
        rw [if_pos c7] at H
        have c7b0 : ((rd l0 x5_1) == (rd l1 x5_1)) = true := beq_iff_eq.mpr c7
        have c7b1 : ((rd l0 x5_1) != (rd l1 x5_1)) = false := bne_eq_false_iff_eq.mpr c7
        clear c7
        have H' := Aside0.mk H
        clear H
        have p118 : 0 ≤ (x5_1 : Int) := of_decide_eq_true (by (with_reducible assumption))
        have q118 : x5_1 < (l0.length : Int) := of_decide_eq_true (by (with_reducible assumption))
        obtain ⟨ad118, e118, hx118_0⟩ := Kd.at_int HR0.out x5_1 p118 q118
        cases e118
        replace p118 := eq_true p118
        replace q118 := eq_true q118
        have p119 : 0 ≤ (x5_1 : Int) := of_decide_eq_true (by (with_reducible assumption))
        have q119 : x5_1 < (l1.length : Int) := of_decide_eq_true (by (with_reducible assumption))
        obtain ⟨ad119, e119, hx119_0⟩ := Kd.at_int HR1.out x5_1 p119 q119
        cases e119
        replace p119 := eq_true p119
        replace q119 := eq_true q119
        go_wp2
        repeat (go_quiet (fail); try go_wp2)
        go_roundg k1
        case measure => have := HK1.out; omega
        case rel => exact ⟨(wrap64 (x5_1 + 1)), (by rfl), H', ⟨by have := HK1.out; omega⟩, by repeat (first | exact Drawn0.refl _ | apply Drawn0.step)⟩
       ·
        rw [if_neg c7] at H
        have c7b0 : ((rd l0 x5_1) == (rd l1 x5_1)) = false := beq_eq_false_iff_ne.mpr c7
        have c7b1 : ((rd l0 x5_1) != (rd l1 x5_1)) = true := bne_iff_ne.mpr c7
        obtain rfl := Option.some.inj H
        have p118 : 0 ≤ (x5_1 : Int) := of_decide_eq_true (by (with_reducible assumption))
        have q118 : x5_1 < (l0.length : Int) := of_decide_eq_true (by (with_reducible assumption))
        obtain ⟨ad118, e118, hx118_0⟩ := Kd.at_int HR0.out x5_1 p118 q118
        cases e118
        replace p118 := eq_true p118
        replace q118 := eq_true q118
        have p119 : 0 ≤ (x5_1 : Int) := of_decide_eq_true (by (with_reducible assumption))
        have q119 : x5_1 < (l1.length : Int) := of_decide_eq_true (by (with_reducible assumption))
        obtain ⟨ad119, e119, hx119_0⟩ := Kd.at_int HR1.out x5_1 p119 q119
        cases e119
        replace p119 := eq_true p119
        replace q119 := eq_true q119
        go_wp2
        repeat (go_quiet (fail); try go_wp2)
        go_ret
        exact ⟨by rfl, by repeat (first | exact Drawn0.refl _ | apply Drawn0.step)⟩
      ·
       rw [if_neg c6] at H
       exact absurd H (by simp)
     ·
      rw [if_neg c5] at H
      exact absurd H (by simp)
    ·
     rw [if_neg c4] at H
     have c4b0 : decide (x5_1 < (l0.length : Int)) = false := decide_eq_false c4
     clear c4
     obtain rfl := Option.some.inj H
     go_wp2
     repeat (go_quiet (fail); try go_wp2)
     go_ret
     exact ⟨by rfl, by repeat (first | exact Drawn0.refl _ | apply Drawn0.step)⟩
 ·
  rw [if_neg c3] at H
  have c3b0 : ((l0.length : Int) == (l1.length : Int)) = false := beq_eq_false_iff_ne.mpr c3
  have c3b1 : ((l0.length : Int) != (l1.length : Int)) = true := bne_iff_ne.mpr c3
  have c3b2 : (l0.length == l1.length) = false := by (simp at c3 ⊢; omega)
  obtain rfl := Option.some.inj H
  go_enter Try.func34, Try.ntmps34
  go_wp2
  repeat (go_quiet (fail); try go_wp2)
  go_ret
  exact ⟨by rfl, by repeat (exact Drawn0.refl _)⟩
/-! ### cover_Place: function 37 -/
def cover_Place.f (k : Nat) (a0_0 : ByteArray) (l0_1 : List (S177)) (l0_2 : List (S138)) (a1 : Int) (a2 : Int) : Option (Int) := if a1 < 0 then (some (-1)) else (if a1 ≥ (l0_2.length : Int) then (some (-1)) else (if 0 ≤ a1 then (if a1 < (l0_2.length : Int) then ((slices_Index_int_int.f k ((rd_T138 l0_2 a1).f1) a2).bind fun t122 => (some t122)) else (none)) else (none)))
theorem cover_Place.mono : ∀ a0 a1 a2 a3 a4 k, LeO (cover_Place.f k a0 a1 a2 a3 a4) (cover_Place.f (k + 1) a0 a1 a2 a3 a4) := by
 intro a0 a1 a2 a3 a4 k
 unfold cover_Place.f
 repeat' first
   | (with_reducible exact slices_Index_int_int.mono _ _ _)
   | (with_reducible exact LeO.refl _)
   | (with_reducible exact LeO.none _)
   | (with_reducible refine LeO.ite ?_ ?_)
   | (with_reducible refine LeO.bind ?_ (fun _ => ?_))
   | exact slices_Index_int_int.mono _ _ _
   | exact LeO.none _
   | refine LeO.ite ?_ ?_
   | refine LeO.bind ?_ (fun _ => ?_)
set_option maxHeartbeats 8000000 in
set_option maxRecDepth 100000 in
theorem cover_Place.calls (k : Nat) (a0_0 : ByteArray) (A0_1 : Option Addr) (c0_1 : Nat) (l0_1 : List (S177)) (A0_2 : Option Addr) (c0_2 : Nat) (l0_2 : List (S138)) (a1 : Int) (a2 : Int) (r : Int) (w : World) (hr0_1 : Kd.C k177 w A0_1 l0_1.length l0_1) (hc0_1 : l0_1.length ≤ c0_1) (hr0_2 : Kd.C k138 w A0_2 l0_2.length l0_2) (hc0_2 : l0_2.length ≤ c0_2) (h : cover_Place.f k a0_0 l0_1 l0_2 a1 a2 = some r) :
  Calls Try.prog 37 #[.agg #[.string a0_0, .slice A0_1 l0_1.length c0_1, .slice A0_2 l0_2.length c0_2], .int .i64 a1, .int .i64 a2] w fun e w' => e = .returned (.int .i64 r) ∧ Below w.heap.size w w' := by
 have hu63 := Try.underlying63
 have HR0_1 := Aside0.mk hr0_1
 have HC0_1 := Aside0.mk hc0_1
 clear hr0_1 hc0_1
 have HR0_2 := Aside0.mk hr0_2
 have HC0_2 := Aside0.mk hc0_2
 clear hr0_2 hc0_2
 have HB := Aside0.mk (Below.refl w.heap.size w)
 have H : (if a1 < 0 then (some (-1)) else (if a1 ≥ (l0_2.length : Int) then (some (-1)) else (if 0 ≤ a1 then (if a1 < (l0_2.length : Int) then ((slices_Index_int_int.f k ((rd_T138 l0_2 a1).f1) a2).bind fun t122 => (some t122)) else (none)) else (none)))) = some r := h
 clear h
 by_cases c4 : a1 < 0
 ·
  rw [if_pos c4] at H
  have c4b0 : decide (a1 < 0) = true := decide_eq_true c4
  clear c4
  obtain rfl := Option.some.inj H
  go_enter Try.func37, Try.ntmps37
  go_wp2_with (((with_reducible refine gate_dst (N := 3) rfl ?_); (try (refine gate_guard (by rfl) ?_; dsimp only)); refine box_event ?hg (N := 3) ?hd (cs := #[.string a0_0, .slice A0_1 l0_1.length c0_1, .slice A0_2 l0_2.length c0_2]) (t := 63) ?hr ?_; (case hd => rfl); (case hg => rfl); (case hr => (go_simp; done)); intro gb120 hg w5 hbox hb; have n0_ := Aside0.mk (below_step HB.out hb); have n1_ := Aside0.mk (hbox); have n2_ := Aside0.mk ((by rw [hg]; exact (below_size HB.out) : w.heap.size ≤ gb120)); have n3_ := Aside0.mk ((by rw [hg]; exact (below_size HB.out) : w.heap.size ≤ gb120)); clear HB; have HB := n0_; have BK120 := n1_; have GW120 := n2_; have GE120 := n3_; clear n0_ n1_ n2_ n3_ hb hbox hg))
  go_ret
  exact ⟨by rfl, by repeat exact HB.out⟩
 ·
  rw [if_neg c4] at H
  have c4b0 : decide (a1 < 0) = false := decide_eq_false c4
  clear c4
  by_cases c6 : a1 ≥ (l0_2.length : Int)
  ·
   rw [if_pos c6] at H
   have c6b0 : decide ((l0_2.length : Int) ≤ a1) = true := decide_eq_true c6
   clear c6
   obtain rfl := Option.some.inj H
   go_enter Try.func37, Try.ntmps37
   go_wp2_with (((with_reducible refine gate_dst (N := 3) rfl ?_); (try (refine gate_guard (by rfl) ?_; dsimp only)); refine box_event ?hg (N := 3) ?hd (cs := #[.string a0_0, .slice A0_1 l0_1.length c0_1, .slice A0_2 l0_2.length c0_2]) (t := 63) ?hr ?_; (case hd => rfl); (case hg => rfl); (case hr => (go_simp; done)); intro gb120 hg w7 hbox hb; have n0_ := Aside0.mk (below_step HB.out hb); have n1_ := Aside0.mk (hbox); have n2_ := Aside0.mk ((by rw [hg]; exact (below_size HB.out) : w.heap.size ≤ gb120)); have n3_ := Aside0.mk ((by rw [hg]; exact (below_size HB.out) : w.heap.size ≤ gb120)); clear HB; have HB := n0_; have BK120 := n1_; have GW120 := n2_; have GE120 := n3_; clear n0_ n1_ n2_ n3_ hb hbox hg; have hcz8_0 : w7.cell? ⟨gb120, 0, none⟩ = some (.string a0_0) := (blk_cell BK120.out 0).trans rfl; have hcz8_1 : w7.cell? ⟨gb120, 1, none⟩ = some (.slice A0_1 l0_1.length c0_1) := (blk_cell BK120.out 1).trans rfl; have hcz8_2 : w7.cell? ⟨gb120, 2, none⟩ = some (.slice A0_2 l0_2.length c0_2) := (blk_cell BK120.out 2).trans rfl; have hfz8_0 := blk_frozen BK120.out 0; have hfz8_1 := blk_frozen BK120.out 1; have hfz8_2 := blk_frozen BK120.out 2))
   go_ret
   exact ⟨by rfl, by repeat exact HB.out⟩
  ·
   rw [if_neg c6] at H
   have c6b0 : decide ((l0_2.length : Int) ≤ a1) = false := decide_eq_false c6
   clear c6
   by_cases c9 : 0 ≤ a1
   ·
    rw [if_pos c9] at H
    have c9b0 : decide (0 ≤ a1) = true := decide_eq_true c9
    clear c9
    by_cases c10 : a1 < (l0_2.length : Int)
    ·
     rw [if_pos c10] at H
     have c10b0 : decide (a1 < (l0_2.length : Int)) = true := decide_eq_true c10
     clear c10
     replace H := Option.bind_eq_some_iff.mp H
     obtain ⟨t122, A110, H⟩ := H
     replace H : (some t122) = some r := H
     have A11 := Aside0.mk A110
     clear A110
     obtain rfl := Option.some.inj H
     go_enter Try.func37, Try.ntmps37
     go_wp2_with (first | ((with_reducible refine gate_dst (N := 3) rfl ?_); (try (refine gate_guard (by rfl) ?_; dsimp only)); refine box_event ?hg (N := 3) ?hd (cs := #[.string a0_0, .slice A0_1 l0_1.length c0_1, .slice A0_2 l0_2.length c0_2]) (t := 63) ?hr ?_; (case hd => rfl); (case hg => rfl); (case hr => (go_simp; done)); intro gb120 hg w12 hbox hb; have n0_ := Aside0.mk (below_step HB.out hb); have n1_ := Aside0.mk (hbox); have n2_ := Aside0.mk ((by rw [hg]; exact (below_size HB.out) : w.heap.size ≤ gb120)); have n3_ := Aside0.mk ((by rw [hg]; exact (below_size HB.out) : w.heap.size ≤ gb120)); clear HB; have HB := n0_; have BK120 := n1_; have GW120 := n2_; have GE120 := n3_; clear n0_ n1_ n2_ n3_ hb hbox hg; have hcz13_0 : w12.cell? ⟨gb120, 0, none⟩ = some (.string a0_0) := (blk_cell BK120.out 0).trans rfl; have hcz13_1 : w12.cell? ⟨gb120, 1, none⟩ = some (.slice A0_1 l0_1.length c0_1) := (blk_cell BK120.out 1).trans rfl; have hcz13_2 : w12.cell? ⟨gb120, 2, none⟩ = some (.slice A0_2 l0_2.length c0_2) := (blk_cell BK120.out 2).trans rfl; have hfz13_0 := blk_frozen BK120.out 0; have hfz13_1 := blk_frozen BK120.out 1; have hfz13_2 := blk_frozen BK120.out 2; have p121 : 0 ≤ (a1 : Int) := of_decide_eq_true (by (with_reducible assumption)); have q121 : a1 < (l0_2.length : Int) := of_decide_eq_true (by (with_reducible assumption)); obtain ⟨ad121, A121_1, c121_1, e121, hx121_0, hx121_1, hx121_2, hl121_1, hi121_1⟩ := at_T138 HR0_2.out a1 p121 q121; cases e121; replace hx121_0 := (HB.out.cell (World.block_lt_of_cell? w _ hx121_0)).trans hx121_0; replace hx121_1 := (HB.out.cell (World.block_lt_of_cell? w _ hx121_1)).trans hx121_1; replace hx121_2 := (HB.out.cell (World.block_lt_of_cell? w _ hx121_2)).trans hx121_2; have HR121_1 := Aside0.mk hi121_1; have HC121_1 := Aside0.mk hl121_1; clear hi121_1 hl121_1; replace p121 := eq_true p121; replace q121 := eq_true q121) | ((with_reducible refine gate_callee (f := 87) rfl ?_); refine goesL_ (some 23) rfl rfl Try.func87 (by kernel_rfl) rfl #[.slice A121_1 ((rd_T138 l0_2 a1).f1).length c121_1, .int .i64 a2] rfl (by (try simp only [List.map_toArray, List.map_cons, List.map_nil]); rfl) ?_; (with_reducible refine (slices_Index_int_int.calls k _ _ ((rd_T138 l0_2 a1).f1) a2 t122 _ ?side1 ?side2 A11.out).mono ?_); (case side1 => repeat (exact (Kd.C_below HR121_1.out HB.out))); (case side2 => exact HC121_1.out); rintro e w' ⟨rfl, ⟨nd, rfl⟩⟩; refine ⟨_, rfl, ?_⟩))
     go_ret
     exact ⟨by rfl, by repeat ((with_reducible first | exact HB.out | apply pw_below_drewN))⟩
    ·
     rw [if_neg c10] at H
     exact absurd H (by simp)
   ·
    rw [if_neg c9] at H
    exact absurd H (by simp)
/-! ### peristyleref25_Name: function 129 -/
mutual
def peristyleref25_Name.j0 : Nat → ByteArray → Bool → Option (Bool)
 | 0, _, _ => none
 | k + 1, x0, x12 => if x12 = true then (some false) else (peristyleref25_Name.l0 k x0 0)
def peristyleref25_Name.l0 : Nat → ByteArray → Int → Option (Bool)
 | 0, _, _ => none
 | k + 1, x0, x3 => if x3 < (x0.size : Int) then (if 0 ≤ x3 then (if (bt x0 x3) ≥ 97 then (if ((bt x0 x3) ≤ 122) then (peristyleref25_Name.l0 k x0 (wrap64 (x3 + 1))) else (if x3 = 0 then (some false) else (if (bt x0 x3) = 95 then (peristyleref25_Name.l0 k x0 (wrap64 (x3 + 1))) else (if (bt x0 x3) < 48 then (some false) else (if (bt x0 x3) > 57 then (some false) else (peristyleref25_Name.l0 k x0 (wrap64 (x3 + 1)))))))) else (if x3 = 0 then (some false) else (if (bt x0 x3) = 95 then (peristyleref25_Name.l0 k x0 (wrap64 (x3 + 1))) else (if (bt x0 x3) < 48 then (some false) else (if (bt x0 x3) > 57 then (some false) else (peristyleref25_Name.l0 k x0 (wrap64 (x3 + 1)))))))) else (none)) else (some true)
end
def peristyleref25_Name.f (k : Nat) (a0 : ByteArray) : Option (Bool) := if (a0.size : Int) < 1 then (peristyleref25_Name.j0 k a0 true) else (peristyleref25_Name.j0 k a0 (decide ((a0.size : Int) > 16)))
theorem peristyleref25_Name.mono_l : ∀ k, (∀ y0 y1, LeO (peristyleref25_Name.j0 k y0 y1) (peristyleref25_Name.j0 (k + 1) y0 y1)) ∧ (∀ y0 y1, LeO (peristyleref25_Name.l0 k y0 y1) (peristyleref25_Name.l0 (k + 1) y0 y1))
 | 0 => ⟨fun _ _ r h => by simp [peristyleref25_Name.j0] at h, fun _ _ r h => by simp [peristyleref25_Name.l0] at h⟩
 | k + 1 => by
  obtain ⟨ih0, ih1⟩ := peristyleref25_Name.mono_l k
  refine ⟨?_, ?_⟩
  ·
   intro y0 y1
   unfold peristyleref25_Name.j0
   repeat' first
   | (with_reducible exact ih0 _ _)
   | (with_reducible exact ih1 _ _)
   | (with_reducible exact LeO.refl _)
   | (with_reducible exact LeO.none _)
   | (with_reducible refine LeO.ite ?_ ?_)
   | (with_reducible refine LeO.bind ?_ (fun _ => ?_))
   | exact ih0 _ _
   | exact ih1 _ _
   | exact LeO.none _
   | refine LeO.ite ?_ ?_
   | refine LeO.bind ?_ (fun _ => ?_)
  ·
   intro y0 y1
   unfold peristyleref25_Name.l0
   repeat' first
   | (with_reducible exact ih0 _ _)
   | (with_reducible exact ih1 _ _)
   | (with_reducible exact LeO.refl _)
   | (with_reducible exact LeO.none _)
   | (with_reducible refine LeO.ite ?_ ?_)
   | (with_reducible refine LeO.bind ?_ (fun _ => ?_))
   | exact ih0 _ _
   | exact ih1 _ _
   | exact LeO.none _
   | refine LeO.ite ?_ ?_
   | refine LeO.bind ?_ (fun _ => ?_)
theorem peristyleref25_Name.mono : ∀ a0 k, LeO (peristyleref25_Name.f k a0) (peristyleref25_Name.f (k + 1) a0) := by
 intro a0 k
 obtain ⟨ih0, ih1⟩ := peristyleref25_Name.mono_l k
 unfold peristyleref25_Name.f
 repeat' first
   | (with_reducible exact ih0 _ _)
   | (with_reducible exact ih1 _ _)
   | (with_reducible exact LeO.refl _)
   | (with_reducible exact LeO.none _)
   | (with_reducible refine LeO.ite ?_ ?_)
   | (with_reducible refine LeO.bind ?_ (fun _ => ?_))
   | exact ih0 _ _
   | exact ih1 _ _
   | exact LeO.none _
   | refine LeO.ite ?_ ?_
   | refine LeO.bind ?_ (fun _ => ?_)
set_option maxHeartbeats 8000000 in
set_option maxRecDepth 100000 in
theorem peristyleref25_Name.calls (k : Nat) (a0 : ByteArray) (r : Bool) (w : World) (h : peristyleref25_Name.f k a0 = some r) :
  Calls Try.prog 129 #[.string a0] w fun e w' => e = .returned (.bool r) ∧ Drawn0 w w' := by
 have H : (if (a0.size : Int) < 1 then (peristyleref25_Name.j0 k a0 true) else (peristyleref25_Name.j0 k a0 (decide ((a0.size : Int) > 16)))) = some r := h
 clear h
 have HC2 := Aside0.mk H
 clear H
 go_enter Try.func129, Try.ntmps129
 go_upto_region 1 with fail
 go_cut [12] (fun v12 wc => ∃ (kq : Nat) (x12_1 : Bool), v12 = .bool x12_1 ∧ Aside0 (peristyleref25_Name.j0 kq a0 x12_1 = some r) ∧ Aside0 (kq ≤ k) ∧ Drawn0 w wc)
 case first =>
  have H := HC2.out
  clear HC2
  by_cases c3 : (a0.size : Int) < 1
  ·
   rw [if_pos c3] at H
   have c3b0 : decide ((a0.size : Int) < 1) = true := decide_eq_true c3
   have c3b1 : decide (a0.size < 1) = true := decide_eq_true (by omega)
   clear c3
   have H' := Aside0.mk H
   clear H
   go_wp2
   go_meet
   case rel => exact ⟨_, (true), (by rfl), H', ⟨by omega⟩, by repeat (exact Drawn0.refl _)⟩
  ·
   rw [if_neg c3] at H
   have c3b0 : decide ((a0.size : Int) < 1) = false := decide_eq_false c3
   have c3b1 : decide (a0.size < 1) = false := decide_eq_false (by omega)
   clear c3
   have H' := Aside0.mk H
   clear H
   go_wp2
   go_meet
   case rel => exact ⟨_, (decide ((a0.size : Int) > 16)), (by rfl), H', ⟨by omega⟩, by repeat (exact Drawn0.refl _)⟩
 case rest =>
  clear HC2
  obtain ⟨kq, x12_1, rfl, HA, HJ1, ⟨mc1, rfl⟩⟩ := hcut
  cases kq with
  | zero => exact absurd HA.out (by simp [peristyleref25_Name.j0])
  | succ kj1 =>
   have H := HA.out
   clear HA
   simp only [peristyleref25_Name.j0] at H
   by_cases c4 : x12_1 = true
   ·
    subst c4
    have H1 : (some false) = some r := by rw [if_pos rfl] at H; exact H
    clear H
    have H := H1
    clear H1
    obtain rfl := Option.some.inj H
    go_wp2
    go_ret
    exact ⟨by rfl, by repeat (first | exact Drawn0.refl _ | apply Drawn0.step)⟩
   ·
    replace c4 := Bool.eq_false_iff.mpr c4
    subst c4
    have H1 : (peristyleref25_Name.l0 kj1 a0 0) = some r := by rw [if_neg (show ¬ (false = true) by decide)] at H; exact H
    clear H
    have H := H1
    clear H1
    have H' := Aside0.mk H
    clear H
    go_wp2
    go_loopg [3] kj1 (fun kq v3 w' => ∃ (x3_2 : Int), v3 = .int .i64 x3_2 ∧ Aside0 (peristyleref25_Name.l0 kq a0 x3_2 = some r) ∧ Aside0 (kq ≤ kj1) ∧ Drawn0 w w')
    case atStart => exact ⟨(0), (by rfl), H', ⟨Nat.le_refl _⟩, by repeat (first | exact Drawn0.refl _ | apply Drawn0.step)⟩
    case round =>
     clear H'
     obtain ⟨x3_2, rfl, HA, HK2, ⟨m2, rfl⟩⟩ := hrel
     cases gk with
     | zero => exact absurd HA.out (by simp [peristyleref25_Name.l0])
     | succ k2 =>
      have H := HA.out
      clear HA
      simp only [peristyleref25_Name.l0] at H
      by_cases c5 : x3_2 < (a0.size : Int)
      ·
       rw [if_pos c5] at H
       have c5b0 : decide (x3_2 < (a0.size : Int)) = true := decide_eq_true c5
       clear c5
       by_cases c6 : 0 ≤ x3_2
       ·
        rw [if_pos c6] at H
        have c6b0 : decide (0 ≤ x3_2) = true := decide_eq_true c6
        clear c6
        by_cases c8 : (bt a0 x3_2) ≥ 97
        ·
         rw [if_pos c8] at H
         have c8b0 : decide (97 ≤ (bt a0 x3_2)) = true := decide_eq_true c8
         clear c8
         by_cases c10 : ((bt a0 x3_2) ≤ 122)
         ·
          rw [if_pos c10] at H
          have c10b0 : decide ((bt a0 x3_2) ≤ 122) = true := decide_eq_true c10
          clear c10
          have H' := Aside0.mk H
          clear H
          have p7 : 0 ≤ (x3_2 : Int) := of_decide_eq_true (by (with_reducible assumption))
          have q7 : x3_2 < (a0.size : Int) := of_decide_eq_true (by (with_reducible assumption))
          have hx7 := bt_at a0 x3_2
          replace p7 := eq_true p7
          replace q7 := eq_true q7
          have p9 : 0 ≤ (x3_2 : Int) := of_decide_eq_true (by (with_reducible assumption))
          have q9 : x3_2 < (a0.size : Int) := of_decide_eq_true (by (with_reducible assumption))
          have hx9 := bt_at a0 x3_2
          replace p9 := eq_true p9
          replace q9 := eq_true q9
          go_wp2
          go_roundg k2
          case measure => have := HJ1.out; have := HK2.out; omega
          case rel => exact ⟨(wrap64 (x3_2 + 1)), (by rfl), H', ⟨by have := HJ1.out; have := HK2.out; omega⟩, by repeat (first | exact Drawn0.refl _ | apply Drawn0.step)⟩
         ·
          rw [if_neg c10] at H
          have c10b0 : decide ((bt a0 x3_2) ≤ 122) = false := decide_eq_false c10
          clear c10
          by_cases c11 : x3_2 = 0
          ·
           rw [if_pos c11] at H
           have c11b0 : (x3_2 == 0) = true := beq_iff_eq.mpr c11
           have c11b1 : (x3_2 != 0) = false := bne_eq_false_iff_eq.mpr c11
           clear c11
           obtain rfl := Option.some.inj H
           have p7 : 0 ≤ (x3_2 : Int) := of_decide_eq_true (by (with_reducible assumption))
           have q7 : x3_2 < (a0.size : Int) := of_decide_eq_true (by (with_reducible assumption))
           have hx7 := bt_at a0 x3_2
           replace p7 := eq_true p7
           replace q7 := eq_true q7
           have p9 : 0 ≤ (x3_2 : Int) := of_decide_eq_true (by (with_reducible assumption))
           have q9 : x3_2 < (a0.size : Int) := of_decide_eq_true (by (with_reducible assumption))
           have hx9 := bt_at a0 x3_2
           replace p9 := eq_true p9
           replace q9 := eq_true q9
           go_wp2
           go_ret
           exact ⟨by rfl, by repeat (first | exact Drawn0.refl _ | apply Drawn0.step)⟩
          ·
           rw [if_neg c11] at H
           have c11b0 : (x3_2 == 0) = false := beq_eq_false_iff_ne.mpr c11
           have c11b1 : (x3_2 != 0) = true := bne_iff_ne.mpr c11
           by_cases c13 : (bt a0 x3_2) = 95
           ·
            rw [if_pos c13] at H
            have c13b0 : ((bt a0 x3_2) == 95) = true := beq_iff_eq.mpr c13
            have c13b1 : ((bt a0 x3_2) != 95) = false := bne_eq_false_iff_eq.mpr c13
            clear c13
            have H' := Aside0.mk H
            clear H
            have p7 : 0 ≤ (x3_2 : Int) := of_decide_eq_true (by (with_reducible assumption))
            have q7 : x3_2 < (a0.size : Int) := of_decide_eq_true (by (with_reducible assumption))
            have hx7 := bt_at a0 x3_2
            replace p7 := eq_true p7
            replace q7 := eq_true q7
            have p9 : 0 ≤ (x3_2 : Int) := of_decide_eq_true (by (with_reducible assumption))
            have q9 : x3_2 < (a0.size : Int) := of_decide_eq_true (by (with_reducible assumption))
            have hx9 := bt_at a0 x3_2
            replace p9 := eq_true p9
            replace q9 := eq_true q9
            have p12 : 0 ≤ (x3_2 : Int) := of_decide_eq_true (by (with_reducible assumption))
            have q12 : x3_2 < (a0.size : Int) := of_decide_eq_true (by (with_reducible assumption))
            have hx12 := bt_at a0 x3_2
            replace p12 := eq_true p12
            replace q12 := eq_true q12
            go_wp2
            go_roundg k2
            case measure => have := HJ1.out; have := HK2.out; omega
            case rel => exact ⟨(wrap64 (x3_2 + 1)), (by rfl), H', ⟨by have := HJ1.out; have := HK2.out; omega⟩, by repeat (first | exact Drawn0.refl _ | apply Drawn0.step)⟩
           ·
            rw [if_neg c13] at H
            have c13b0 : ((bt a0 x3_2) == 95) = false := beq_eq_false_iff_ne.mpr c13
            have c13b1 : ((bt a0 x3_2) != 95) = true := bne_iff_ne.mpr c13
            by_cases c15 : (bt a0 x3_2) < 48
            ·
             rw [if_pos c15] at H
             have c15b0 : decide ((bt a0 x3_2) < 48) = true := decide_eq_true c15
             clear c15
             obtain rfl := Option.some.inj H
             have p7 : 0 ≤ (x3_2 : Int) := of_decide_eq_true (by (with_reducible assumption))
             have q7 : x3_2 < (a0.size : Int) := of_decide_eq_true (by (with_reducible assumption))
             have hx7 := bt_at a0 x3_2
             replace p7 := eq_true p7
             replace q7 := eq_true q7
             have p9 : 0 ≤ (x3_2 : Int) := of_decide_eq_true (by (with_reducible assumption))
             have q9 : x3_2 < (a0.size : Int) := of_decide_eq_true (by (with_reducible assumption))
             have hx9 := bt_at a0 x3_2
             replace p9 := eq_true p9
             replace q9 := eq_true q9
             have p12 : 0 ≤ (x3_2 : Int) := of_decide_eq_true (by (with_reducible assumption))
             have q12 : x3_2 < (a0.size : Int) := of_decide_eq_true (by (with_reducible assumption))
             have hx12 := bt_at a0 x3_2
             replace p12 := eq_true p12
             replace q12 := eq_true q12
             have p14 : 0 ≤ (x3_2 : Int) := of_decide_eq_true (by (with_reducible assumption))
             have q14 : x3_2 < (a0.size : Int) := of_decide_eq_true (by (with_reducible assumption))
             have hx14 := bt_at a0 x3_2
             replace p14 := eq_true p14
             replace q14 := eq_true q14
             go_wp2
             go_ret
             exact ⟨by rfl, by repeat (first | exact Drawn0.refl _ | apply Drawn0.step)⟩
            ·
             rw [if_neg c15] at H
             have c15b0 : decide ((bt a0 x3_2) < 48) = false := decide_eq_false c15
             clear c15
             by_cases c17 : (bt a0 x3_2) > 57
             ·
              rw [if_pos c17] at H
              have c17b0 : decide (57 < (bt a0 x3_2)) = true := decide_eq_true c17
              clear c17
              obtain rfl := Option.some.inj H
              have p7 : 0 ≤ (x3_2 : Int) := of_decide_eq_true (by (with_reducible assumption))
              have q7 : x3_2 < (a0.size : Int) := of_decide_eq_true (by (with_reducible assumption))
              have hx7 := bt_at a0 x3_2
              replace p7 := eq_true p7
              replace q7 := eq_true q7
              have p9 : 0 ≤ (x3_2 : Int) := of_decide_eq_true (by (with_reducible assumption))
              have q9 : x3_2 < (a0.size : Int) := of_decide_eq_true (by (with_reducible assumption))
              have hx9 := bt_at a0 x3_2
              replace p9 := eq_true p9
              replace q9 := eq_true q9
              have p12 : 0 ≤ (x3_2 : Int) := of_decide_eq_true (by (with_reducible assumption))
              have q12 : x3_2 < (a0.size : Int) := of_decide_eq_true (by (with_reducible assumption))
              have hx12 := bt_at a0 x3_2
              replace p12 := eq_true p12
              replace q12 := eq_true q12
              have p14 : 0 ≤ (x3_2 : Int) := of_decide_eq_true (by (with_reducible assumption))
              have q14 : x3_2 < (a0.size : Int) := of_decide_eq_true (by (with_reducible assumption))
              have hx14 := bt_at a0 x3_2
              replace p14 := eq_true p14
              replace q14 := eq_true q14
              have p16 : 0 ≤ (x3_2 : Int) := of_decide_eq_true (by (with_reducible assumption))
              have q16 : x3_2 < (a0.size : Int) := of_decide_eq_true (by (with_reducible assumption))
              have hx16 := bt_at a0 x3_2
              replace p16 := eq_true p16
              replace q16 := eq_true q16
              go_wp2
              go_ret
              exact ⟨by rfl, by repeat (first | exact Drawn0.refl _ | apply Drawn0.step)⟩
             ·
              rw [if_neg c17] at H
              have c17b0 : decide (57 < (bt a0 x3_2)) = false := decide_eq_false c17
              clear c17
              have H' := Aside0.mk H
              clear H
              have p7 : 0 ≤ (x3_2 : Int) := of_decide_eq_true (by (with_reducible assumption))
              have q7 : x3_2 < (a0.size : Int) := of_decide_eq_true (by (with_reducible assumption))
              have hx7 := bt_at a0 x3_2
              replace p7 := eq_true p7
              replace q7 := eq_true q7
              have p9 : 0 ≤ (x3_2 : Int) := of_decide_eq_true (by (with_reducible assumption))
              have q9 : x3_2 < (a0.size : Int) := of_decide_eq_true (by (with_reducible assumption))
              have hx9 := bt_at a0 x3_2
              replace p9 := eq_true p9
              replace q9 := eq_true q9
              have p12 : 0 ≤ (x3_2 : Int) := of_decide_eq_true (by (with_reducible assumption))
              have q12 : x3_2 < (a0.size : Int) := of_decide_eq_true (by (with_reducible assumption))
              have hx12 := bt_at a0 x3_2
              replace p12 := eq_true p12
              replace q12 := eq_true q12
              have p14 : 0 ≤ (x3_2 : Int) := of_decide_eq_true (by (with_reducible assumption))
              have q14 : x3_2 < (a0.size : Int) := of_decide_eq_true (by (with_reducible assumption))
              have hx14 := bt_at a0 x3_2
              replace p14 := eq_true p14
              replace q14 := eq_true q14
              have p16 : 0 ≤ (x3_2 : Int) := of_decide_eq_true (by (with_reducible assumption))
              have q16 : x3_2 < (a0.size : Int) := of_decide_eq_true (by (with_reducible assumption))
              have hx16 := bt_at a0 x3_2
              replace p16 := eq_true p16
              replace q16 := eq_true q16
              go_wp2
              go_roundg k2
              case measure => have := HJ1.out; have := HK2.out; omega
              case rel => exact ⟨(wrap64 (x3_2 + 1)), (by rfl), H', ⟨by have := HJ1.out; have := HK2.out; omega⟩, by repeat (first | exact Drawn0.refl _ | apply Drawn0.step)⟩
        ·
         rw [if_neg c8] at H
         have c8b0 : decide (97 ≤ (bt a0 x3_2)) = false := decide_eq_false c8
         clear c8
         by_cases c18 : x3_2 = 0
         ·
          rw [if_pos c18] at H
          have c18b0 : (x3_2 == 0) = true := beq_iff_eq.mpr c18
          have c18b1 : (x3_2 != 0) = false := bne_eq_false_iff_eq.mpr c18
          clear c18
          obtain rfl := Option.some.inj H
          have p7 : 0 ≤ (x3_2 : Int) := of_decide_eq_true (by (with_reducible assumption))
          have q7 : x3_2 < (a0.size : Int) := of_decide_eq_true (by (with_reducible assumption))
          have hx7 := bt_at a0 x3_2
          replace p7 := eq_true p7
          replace q7 := eq_true q7
          go_wp2
          go_ret
          exact ⟨by rfl, by repeat (first | exact Drawn0.refl _ | apply Drawn0.step)⟩
         ·
          rw [if_neg c18] at H
          have c18b0 : (x3_2 == 0) = false := beq_eq_false_iff_ne.mpr c18
          have c18b1 : (x3_2 != 0) = true := bne_iff_ne.mpr c18
          by_cases c20 : (bt a0 x3_2) = 95
          ·
           rw [if_pos c20] at H
           have c20b0 : ((bt a0 x3_2) == 95) = true := beq_iff_eq.mpr c20
           have c20b1 : ((bt a0 x3_2) != 95) = false := bne_eq_false_iff_eq.mpr c20
           clear c20
           have H' := Aside0.mk H
           clear H
           have p7 : 0 ≤ (x3_2 : Int) := of_decide_eq_true (by (with_reducible assumption))
           have q7 : x3_2 < (a0.size : Int) := of_decide_eq_true (by (with_reducible assumption))
           have hx7 := bt_at a0 x3_2
           replace p7 := eq_true p7
           replace q7 := eq_true q7
           have p19 : 0 ≤ (x3_2 : Int) := of_decide_eq_true (by (with_reducible assumption))
           have q19 : x3_2 < (a0.size : Int) := of_decide_eq_true (by (with_reducible assumption))
           have hx19 := bt_at a0 x3_2
           replace p19 := eq_true p19
           replace q19 := eq_true q19
           go_wp2
           go_roundg k2
           case measure => have := HJ1.out; have := HK2.out; omega
           case rel => exact ⟨(wrap64 (x3_2 + 1)), (by rfl), H', ⟨by have := HJ1.out; have := HK2.out; omega⟩, by repeat (first | exact Drawn0.refl _ | apply Drawn0.step)⟩
          ·
           rw [if_neg c20] at H
           have c20b0 : ((bt a0 x3_2) == 95) = false := beq_eq_false_iff_ne.mpr c20
           have c20b1 : ((bt a0 x3_2) != 95) = true := bne_iff_ne.mpr c20
           by_cases c22 : (bt a0 x3_2) < 48
           ·
            rw [if_pos c22] at H
            have c22b0 : decide ((bt a0 x3_2) < 48) = true := decide_eq_true c22
            clear c22
            obtain rfl := Option.some.inj H
            have p7 : 0 ≤ (x3_2 : Int) := of_decide_eq_true (by (with_reducible assumption))
            have q7 : x3_2 < (a0.size : Int) := of_decide_eq_true (by (with_reducible assumption))
            have hx7 := bt_at a0 x3_2
            replace p7 := eq_true p7
            replace q7 := eq_true q7
            have p19 : 0 ≤ (x3_2 : Int) := of_decide_eq_true (by (with_reducible assumption))
            have q19 : x3_2 < (a0.size : Int) := of_decide_eq_true (by (with_reducible assumption))
            have hx19 := bt_at a0 x3_2
            replace p19 := eq_true p19
            replace q19 := eq_true q19
            have p21 : 0 ≤ (x3_2 : Int) := of_decide_eq_true (by (with_reducible assumption))
            have q21 : x3_2 < (a0.size : Int) := of_decide_eq_true (by (with_reducible assumption))
            have hx21 := bt_at a0 x3_2
            replace p21 := eq_true p21
            replace q21 := eq_true q21
            go_wp2
            go_ret
            exact ⟨by rfl, by repeat (first | exact Drawn0.refl _ | apply Drawn0.step)⟩
           ·
            rw [if_neg c22] at H
            have c22b0 : decide ((bt a0 x3_2) < 48) = false := decide_eq_false c22
            clear c22
            by_cases c24 : (bt a0 x3_2) > 57
            ·
             rw [if_pos c24] at H
             have c24b0 : decide (57 < (bt a0 x3_2)) = true := decide_eq_true c24
             clear c24
             obtain rfl := Option.some.inj H
             have p7 : 0 ≤ (x3_2 : Int) := of_decide_eq_true (by (with_reducible assumption))
             have q7 : x3_2 < (a0.size : Int) := of_decide_eq_true (by (with_reducible assumption))
             have hx7 := bt_at a0 x3_2
             replace p7 := eq_true p7
             replace q7 := eq_true q7
             have p19 : 0 ≤ (x3_2 : Int) := of_decide_eq_true (by (with_reducible assumption))
             have q19 : x3_2 < (a0.size : Int) := of_decide_eq_true (by (with_reducible assumption))
             have hx19 := bt_at a0 x3_2
             replace p19 := eq_true p19
             replace q19 := eq_true q19
             have p21 : 0 ≤ (x3_2 : Int) := of_decide_eq_true (by (with_reducible assumption))
             have q21 : x3_2 < (a0.size : Int) := of_decide_eq_true (by (with_reducible assumption))
             have hx21 := bt_at a0 x3_2
             replace p21 := eq_true p21
             replace q21 := eq_true q21
             have p23 : 0 ≤ (x3_2 : Int) := of_decide_eq_true (by (with_reducible assumption))
             have q23 : x3_2 < (a0.size : Int) := of_decide_eq_true (by (with_reducible assumption))
             have hx23 := bt_at a0 x3_2
             replace p23 := eq_true p23
             replace q23 := eq_true q23
             go_wp2
             go_ret
             exact ⟨by rfl, by repeat (first | exact Drawn0.refl _ | apply Drawn0.step)⟩
            ·
             rw [if_neg c24] at H
             have c24b0 : decide (57 < (bt a0 x3_2)) = false := decide_eq_false c24
             clear c24
             have H' := Aside0.mk H
             clear H
             have p7 : 0 ≤ (x3_2 : Int) := of_decide_eq_true (by (with_reducible assumption))
             have q7 : x3_2 < (a0.size : Int) := of_decide_eq_true (by (with_reducible assumption))
             have hx7 := bt_at a0 x3_2
             replace p7 := eq_true p7
             replace q7 := eq_true q7
             have p19 : 0 ≤ (x3_2 : Int) := of_decide_eq_true (by (with_reducible assumption))
             have q19 : x3_2 < (a0.size : Int) := of_decide_eq_true (by (with_reducible assumption))
             have hx19 := bt_at a0 x3_2
             replace p19 := eq_true p19
             replace q19 := eq_true q19
             have p21 : 0 ≤ (x3_2 : Int) := of_decide_eq_true (by (with_reducible assumption))
             have q21 : x3_2 < (a0.size : Int) := of_decide_eq_true (by (with_reducible assumption))
             have hx21 := bt_at a0 x3_2
             replace p21 := eq_true p21
             replace q21 := eq_true q21
             have p23 : 0 ≤ (x3_2 : Int) := of_decide_eq_true (by (with_reducible assumption))
             have q23 : x3_2 < (a0.size : Int) := of_decide_eq_true (by (with_reducible assumption))
             have hx23 := bt_at a0 x3_2
             replace p23 := eq_true p23
             replace q23 := eq_true q23
             go_wp2
             go_roundg k2
             case measure => have := HJ1.out; have := HK2.out; omega
             case rel => exact ⟨(wrap64 (x3_2 + 1)), (by rfl), H', ⟨by have := HJ1.out; have := HK2.out; omega⟩, by repeat (first | exact Drawn0.refl _ | apply Drawn0.step)⟩
       ·
        rw [if_neg c6] at H
        exact absurd H (by simp)
      ·
       rw [if_neg c5] at H
       have c5b0 : decide (x3_2 < (a0.size : Int)) = false := decide_eq_false c5
       clear c5
       obtain rfl := Option.some.inj H
       go_wp2
       go_ret
       exact ⟨by rfl, by repeat (first | exact Drawn0.refl _ | apply Drawn0.step)⟩
/-! ### peristyleref25_Columns: function 130 -/
mutual
def peristyleref25_Columns.l0 : Nat → List (S177) → Int → Option (Bool)
 | 0, _, _ => none
 | k + 1, x0, x3 => if x3 < (x0.length : Int) then (if 0 ≤ x3 then ((peristyleref25_Name.f k ((rd_T177 x0 x3).f0)).bind fun t124 => (if t124 = true then (if ((rd_T177 x0 x3).f1) = 1 then (peristyleref25_Columns.j1 k x0 x3 false) else (peristyleref25_Columns.j1 k x0 x3 (((rd_T177 x0 x3).f1) != 2))) else (peristyleref25_Columns.j1 k x0 x3 true))) else (none)) else (if (x0.length : Int) ≥ 1 then (some (decide ((x0.length : Int) ≤ 8))) else (some false))
def peristyleref25_Columns.j1 : Nat → List (S177) → Int → Bool → Option (Bool)
 | 0, _, _, _ => none
 | k + 1, x0, x3, x33 => if x33 = true then (some false) else (peristyleref25_Columns.l1 k x0 x3 0)
def peristyleref25_Columns.l1 : Nat → List (S177) → Int → Int → Option (Bool)
 | 0, _, _, _ => none
 | k + 1, x0, x3, x4 => if x4 < x3 then (if 0 ≤ x4 then (if x4 < (x0.length : Int) then (if 0 ≤ x3 then (if x3 < (x0.length : Int) then (if ((rd_T177 x0 x4).f0).toList = ((rd_T177 x0 x3).f0).toList then (some false) else (peristyleref25_Columns.l1 k x0 x3 (wrap64 (x4 + 1)))) else (none)) else (none)) else (none)) else (none)) else (peristyleref25_Columns.l0 k x0 (wrap64 (x3 + 1)))
end
def peristyleref25_Columns.f (k : Nat) (l0 : List (S177)) : Option (Bool) := peristyleref25_Columns.l0 k l0 0
theorem peristyleref25_Columns.mono_l : ∀ k, (∀ y0 y1, LeO (peristyleref25_Columns.l0 k y0 y1) (peristyleref25_Columns.l0 (k + 1) y0 y1)) ∧ (∀ y0 y1 y2, LeO (peristyleref25_Columns.j1 k y0 y1 y2) (peristyleref25_Columns.j1 (k + 1) y0 y1 y2)) ∧ (∀ y0 y1 y2, LeO (peristyleref25_Columns.l1 k y0 y1 y2) (peristyleref25_Columns.l1 (k + 1) y0 y1 y2))
 | 0 => ⟨fun _ _ r h => by simp [peristyleref25_Columns.l0] at h, fun _ _ _ r h => by simp [peristyleref25_Columns.j1] at h, fun _ _ _ r h => by simp [peristyleref25_Columns.l1] at h⟩
 | k + 1 => by
  obtain ⟨ih0, ih1, ih2⟩ := peristyleref25_Columns.mono_l k
  refine ⟨?_, ?_, ?_⟩
  ·
   intro y0 y1
   unfold peristyleref25_Columns.l0
   repeat' first
   | (with_reducible exact ih0 _ _)
   | (with_reducible exact ih1 _ _ _)
   | (with_reducible exact ih2 _ _ _)
   | (with_reducible exact peristyleref25_Name.mono _ _)
   | (with_reducible exact LeO.refl _)
   | (with_reducible exact LeO.none _)
   | (with_reducible refine LeO.ite ?_ ?_)
   | (with_reducible refine LeO.bind ?_ (fun _ => ?_))
   | exact ih0 _ _
   | exact ih1 _ _ _
   | exact ih2 _ _ _
   | exact peristyleref25_Name.mono _ _
   | exact LeO.none _
   | refine LeO.ite ?_ ?_
   | refine LeO.bind ?_ (fun _ => ?_)
  ·
   intro y0 y1 y2
   unfold peristyleref25_Columns.j1
   repeat' first
   | (with_reducible exact ih0 _ _)
   | (with_reducible exact ih1 _ _ _)
   | (with_reducible exact ih2 _ _ _)
   | (with_reducible exact peristyleref25_Name.mono _ _)
   | (with_reducible exact LeO.refl _)
   | (with_reducible exact LeO.none _)
   | (with_reducible refine LeO.ite ?_ ?_)
   | (with_reducible refine LeO.bind ?_ (fun _ => ?_))
   | exact ih0 _ _
   | exact ih1 _ _ _
   | exact ih2 _ _ _
   | exact peristyleref25_Name.mono _ _
   | exact LeO.none _
   | refine LeO.ite ?_ ?_
   | refine LeO.bind ?_ (fun _ => ?_)
  ·
   intro y0 y1 y2
   unfold peristyleref25_Columns.l1
   repeat' first
   | (with_reducible exact ih0 _ _)
   | (with_reducible exact ih1 _ _ _)
   | (with_reducible exact ih2 _ _ _)
   | (with_reducible exact peristyleref25_Name.mono _ _)
   | (with_reducible exact LeO.refl _)
   | (with_reducible exact LeO.none _)
   | (with_reducible refine LeO.ite ?_ ?_)
   | (with_reducible refine LeO.bind ?_ (fun _ => ?_))
   | exact ih0 _ _
   | exact ih1 _ _ _
   | exact ih2 _ _ _
   | exact peristyleref25_Name.mono _ _
   | exact LeO.none _
   | refine LeO.ite ?_ ?_
   | refine LeO.bind ?_ (fun _ => ?_)
theorem peristyleref25_Columns.mono : ∀ a0 k, LeO (peristyleref25_Columns.f k a0) (peristyleref25_Columns.f (k + 1) a0) := by
 intro a0 k
 obtain ⟨ih0, ih1, ih2⟩ := peristyleref25_Columns.mono_l k
 unfold peristyleref25_Columns.f
 repeat' first
   | (with_reducible exact ih0 _ _)
   | (with_reducible exact ih1 _ _ _)
   | (with_reducible exact ih2 _ _ _)
   | (with_reducible exact peristyleref25_Name.mono _ _)
   | (with_reducible exact LeO.refl _)
   | (with_reducible exact LeO.none _)
   | (with_reducible refine LeO.ite ?_ ?_)
   | (with_reducible refine LeO.bind ?_ (fun _ => ?_))
   | exact ih0 _ _
   | exact ih1 _ _ _
   | exact ih2 _ _ _
   | exact peristyleref25_Name.mono _ _
   | exact LeO.none _
   | refine LeO.ite ?_ ?_
   | refine LeO.bind ?_ (fun _ => ?_)
set_option maxHeartbeats 8000000 in
set_option maxRecDepth 100000 in
theorem peristyleref25_Columns.calls (k : Nat) (A0 : Option Addr) (c0 : Nat) (l0 : List (S177)) (r : Bool) (w : World) (hr0 : Kd.C k177 w A0 l0.length l0) (hc0 : l0.length ≤ c0) (h : peristyleref25_Columns.f k l0 = some r) :
  Calls Try.prog 130 #[.slice A0 l0.length c0] w fun e w' => e = .returned (.bool r) ∧ Drawn0 w w' := by
 have HR0 := Aside0.mk hr0
 have HC0 := Aside0.mk hc0
 clear hr0 hc0
 have H : (peristyleref25_Columns.l0 k l0 0) = some r := h
 clear h
 have H' := Aside0.mk H
 clear H
 go_enter Try.func130, Try.ntmps130
 go_wp2
 repeat (go_quiet (fail); try go_wp2)
 go_loopg [3] k (fun kq v3 w' => ∃ (x3_1 : Int), v3 = .int .i64 x3_1 ∧ Aside0 (peristyleref25_Columns.l0 kq l0 x3_1 = some r) ∧ Aside0 (kq ≤ k) ∧ Drawn0 w w')
 case atStart => exact ⟨(0), (by rfl), H', ⟨Nat.le_refl _⟩, by repeat (exact Drawn0.refl _)⟩
 case round =>
  clear H'
  obtain ⟨x3_1, rfl, HA, HK1, ⟨m1, rfl⟩⟩ := hrel
  cases gk with
  | zero => exact absurd HA.out (by simp [peristyleref25_Columns.l0])
  | succ k1 =>
   have H := HA.out
   clear HA
   simp only [peristyleref25_Columns.l0] at H
   by_cases c2 : x3_1 < (l0.length : Int)
   ·
    rw [if_pos c2] at H
    have c2b0 : decide (x3_1 < (l0.length : Int)) = true := decide_eq_true c2
    clear c2
    have HC3 := Aside0.mk H
    clear H
    go_upto_region 4 with fail
    repeat (go_quiet (fail); go_upto_region 4 with fail)
    go_cut [33] (fun v33 wc => ∃ (kq : Nat) (x33_2 : Bool), v33 = .bool x33_2 ∧ Aside0 (peristyleref25_Columns.j1 kq l0 x3_1 x33_2 = some r) ∧ Aside0 (kq ≤ k1) ∧ Drawn0 w wc)
    case first =>
     have H := HC3.out
     clear HC3
     by_cases c4 : 0 ≤ x3_1
     ·
      rw [if_pos c4] at H
      have c4b0 : decide (0 ≤ x3_1) = true := decide_eq_true c4
      clear c4
      replace H := Option.bind_eq_some_iff.mp H
      obtain ⟨t124, A50, H⟩ := H
      replace H : (if t124 = true then (if ((rd_T177 l0 x3_1).f1) = 1 then (peristyleref25_Columns.j1 k1 l0 x3_1 false) else (peristyleref25_Columns.j1 k1 l0 x3_1 (((rd_T177 l0 x3_1).f1) != 2))) else (peristyleref25_Columns.j1 k1 l0 x3_1 true)) = some r := H
      have A5 := Aside0.mk A50
      clear A50
      by_cases c6 : t124 = true
      ·
       subst c6
       have H1 : (if ((rd_T177 l0 x3_1).f1) = 1 then (peristyleref25_Columns.j1 k1 l0 x3_1 false) else (peristyleref25_Columns.j1 k1 l0 x3_1 (((rd_T177 l0 x3_1).f1) != 2))) = some r := by rw [if_pos rfl] at H; exact H
       clear H
       have H := H1
       clear H1
       by_cases c7 : ((rd_T177 l0 x3_1).f1) = 1
       ·
        rw [if_pos c7] at H
        have c7b0 : (((rd_T177 l0 x3_1).f1) == 1) = true := beq_iff_eq.mpr c7
        have c7b1 : (((rd_T177 l0 x3_1).f1) != 1) = false := bne_eq_false_iff_eq.mpr c7
        clear c7
        have H' := Aside0.mk H
        clear H
        have p123 : 0 ≤ (x3_1 : Int) := of_decide_eq_true (by (with_reducible assumption))
        have q123 : x3_1 < (l0.length : Int) := of_decide_eq_true (by (with_reducible assumption))
        obtain ⟨ad123, e123, hx123_0, hx123_1, hx123_2⟩ := at_T177 HR0.out x3_1 p123 q123
        cases e123
        replace p123 := eq_true p123
        replace q123 := eq_true q123
        go_wp2_with ((go_at_call 129; (with_reducible refine (peristyleref25_Name.calls k1 ((rd_T177 l0 x3_1).f0) true _ A5.out).mono ?_); rintro e w' ⟨rfl, ⟨nd, rfl⟩⟩; have p125 : 0 ≤ (x3_1 : Int) := of_decide_eq_true (by (with_reducible assumption)); have q125 : x3_1 < (l0.length : Int) := of_decide_eq_true (by (with_reducible assumption)); obtain ⟨ad125, e125, hx125_0, hx125_1, hx125_2⟩ := at_T177 HR0.out x3_1 p125 q125; obtain rfl : ad123 = ad125 := (by injection e125); replace p125 := eq_true p125; replace q125 := eq_true q125))
        repeat (go_quiet (fail); try go_wp2_with fail)
        go_meet
        case rel => exact ⟨_, (false), (by rfl), H', ⟨by have := HK1.out; omega⟩, by repeat (first | exact Drawn0.refl _ | apply Drawn0.step)⟩
       ·
        rw [if_neg c7] at H
        have c7b0 : (((rd_T177 l0 x3_1).f1) == 1) = false := beq_eq_false_iff_ne.mpr c7
        have c7b1 : (((rd_T177 l0 x3_1).f1) != 1) = true := bne_iff_ne.mpr c7
        have H' := Aside0.mk H
        clear H
        have p123 : 0 ≤ (x3_1 : Int) := of_decide_eq_true (by (with_reducible assumption))
        have q123 : x3_1 < (l0.length : Int) := of_decide_eq_true (by (with_reducible assumption))
        obtain ⟨ad123, e123, hx123_0, hx123_1, hx123_2⟩ := at_T177 HR0.out x3_1 p123 q123
        cases e123
        replace p123 := eq_true p123
        replace q123 := eq_true q123
        go_wp2_with ((go_at_call 129; (with_reducible refine (peristyleref25_Name.calls k1 ((rd_T177 l0 x3_1).f0) true _ A5.out).mono ?_); rintro e w' ⟨rfl, ⟨nd, rfl⟩⟩; have p125 : 0 ≤ (x3_1 : Int) := of_decide_eq_true (by (with_reducible assumption)); have q125 : x3_1 < (l0.length : Int) := of_decide_eq_true (by (with_reducible assumption)); obtain ⟨ad125, e125, hx125_0, hx125_1, hx125_2⟩ := at_T177 HR0.out x3_1 p125 q125; obtain rfl : ad123 = ad125 := (by injection e125); replace p125 := eq_true p125; replace q125 := eq_true q125; have p126 : 0 ≤ (x3_1 : Int) := of_decide_eq_true (by (with_reducible assumption)); have q126 : x3_1 < (l0.length : Int) := of_decide_eq_true (by (with_reducible assumption)); obtain ⟨ad126, e126, hx126_0, hx126_1, hx126_2⟩ := at_T177 HR0.out x3_1 p126 q126; obtain rfl : ad123 = ad126 := (by injection e126); replace p126 := eq_true p126; replace q126 := eq_true q126))
        repeat (go_quiet (fail); try go_wp2_with fail)
        go_meet
        case rel => exact ⟨_, ((((rd_T177 l0 x3_1).f1) != 2)), (by rfl), H', ⟨by have := HK1.out; omega⟩, by repeat (first | exact Drawn0.refl _ | apply Drawn0.step)⟩
      ·
       replace c6 := Bool.eq_false_iff.mpr c6
       subst c6
       have H1 : (peristyleref25_Columns.j1 k1 l0 x3_1 true) = some r := by rw [if_neg (show ¬ (false = true) by decide)] at H; exact H
       clear H
       have H := H1
       clear H1
       have H' := Aside0.mk H
       clear H
       have p123 : 0 ≤ (x3_1 : Int) := of_decide_eq_true (by (with_reducible assumption))
       have q123 : x3_1 < (l0.length : Int) := of_decide_eq_true (by (with_reducible assumption))
       obtain ⟨ad123, e123, hx123_0, hx123_1, hx123_2⟩ := at_T177 HR0.out x3_1 p123 q123
       cases e123
       replace p123 := eq_true p123
       replace q123 := eq_true q123
       go_wp2_with ((go_at_call 129; (with_reducible refine (peristyleref25_Name.calls k1 ((rd_T177 l0 x3_1).f0) false _ A5.out).mono ?_); rintro e w' ⟨rfl, ⟨nd, rfl⟩⟩))
       repeat (go_quiet (fail); try go_wp2_with fail)
       go_meet
       case rel => exact ⟨_, (true), (by rfl), H', ⟨by have := HK1.out; omega⟩, by repeat (first | exact Drawn0.refl _ | apply Drawn0.step)⟩
     ·
      rw [if_neg c4] at H
      exact absurd H (by simp)
    case rest =>
     clear HC3
     try clear c2b0
     obtain ⟨kq, x33_2, rfl, HA, HJ2, ⟨mc2, rfl⟩⟩ := hcut
     cases kq with
     | zero => exact absurd HA.out (by simp [peristyleref25_Columns.j1])
     | succ kj2 =>
      have H := HA.out
      clear HA
      simp only [peristyleref25_Columns.j1] at H
      by_cases c8 : x33_2 = true
      ·
       subst c8
       have H1 : (some false) = some r := by rw [if_pos rfl] at H; exact H
       clear H
       have H := H1
       clear H1
       obtain rfl := Option.some.inj H
       go_wp2
       repeat (go_quiet (fail); try go_wp2)
       go_ret
       exact ⟨by rfl, by repeat (first | exact Drawn0.refl _ | apply Drawn0.step)⟩
      ·
       replace c8 := Bool.eq_false_iff.mpr c8
       subst c8
       have H1 : (peristyleref25_Columns.l1 kj2 l0 x3_1 0) = some r := by rw [if_neg (show ¬ (false = true) by decide)] at H; exact H
       clear H
       have H := H1
       clear H1
       have H' := Aside0.mk H
       clear H
       go_wp2
       repeat (go_quiet (fail); try go_wp2)
       go_loopg [4] kj2 (fun kq v4 w' => ∃ (x4_3 : Int), v4 = .int .i64 x4_3 ∧ Aside0 (peristyleref25_Columns.l1 kq l0 x3_1 x4_3 = some r) ∧ Aside0 (kq ≤ kj2) ∧ Drawn0 w w')
       case atStart => exact ⟨(0), (by rfl), H', ⟨Nat.le_refl _⟩, by repeat (first | exact Drawn0.refl _ | apply Drawn0.step)⟩
       case round =>
        clear H'
        obtain ⟨x4_3, rfl, HA, HK3, ⟨m3, rfl⟩⟩ := hrel
        cases gk with
        | zero => exact absurd HA.out (by simp [peristyleref25_Columns.l1])
        | succ k3 =>
         have H := HA.out
         clear HA
         simp only [peristyleref25_Columns.l1] at H
         by_cases c9 : x4_3 < x3_1
         ·
          rw [if_pos c9] at H
          have c9b0 : decide (x4_3 < x3_1) = true := decide_eq_true c9
          clear c9
          by_cases c10 : 0 ≤ x4_3
          ·
           rw [if_pos c10] at H
           have c10b0 : decide (0 ≤ x4_3) = true := decide_eq_true c10
           clear c10
           by_cases c11 : x4_3 < (l0.length : Int)
           ·
            rw [if_pos c11] at H
            have c11b0 : decide (x4_3 < (l0.length : Int)) = true := decide_eq_true c11
            clear c11
            by_cases c12 : 0 ≤ x3_1
            ·
             rw [if_pos c12] at H
             have c12b0 : decide (0 ≤ x3_1) = true := decide_eq_true c12
             clear c12
             by_cases c13 : x3_1 < (l0.length : Int)
             ·
              rw [if_pos c13] at H
              have c13b0 : decide (x3_1 < (l0.length : Int)) = true := decide_eq_true c13
              clear c13
              by_cases c14 : ((rd_T177 l0 x4_3).f0).toList = ((rd_T177 l0 x3_1).f0).toList
              ·
               rw [if_pos c14] at H
               have c14b0 : (((rd_T177 l0 x4_3).f0).toList == ((rd_T177 l0 x3_1).f0).toList) = true := beq_iff_eq.mpr c14
               have c14b1 : (((rd_T177 l0 x4_3).f0).toList != ((rd_T177 l0 x3_1).f0).toList) = false := bne_eq_false_iff_eq.mpr c14
               clear c14
               obtain rfl := Option.some.inj H
               have p127 : 0 ≤ (x4_3 : Int) := of_decide_eq_true (by (with_reducible assumption))
               have q127 : x4_3 < (l0.length : Int) := of_decide_eq_true (by (with_reducible assumption))
               obtain ⟨ad127, e127, hx127_0, hx127_1, hx127_2⟩ := at_T177 HR0.out x4_3 p127 q127
               cases e127
               replace p127 := eq_true p127
               replace q127 := eq_true q127
               have p128 : 0 ≤ (x3_1 : Int) := of_decide_eq_true (by (with_reducible assumption))
               have q128 : x3_1 < (l0.length : Int) := of_decide_eq_true (by (with_reducible assumption))
               obtain ⟨ad128, e128, hx128_0, hx128_1, hx128_2⟩ := at_T177 HR0.out x3_1 p128 q128
               obtain rfl : ad127 = ad128 := (by injection e128)
               replace p128 := eq_true p128
               replace q128 := eq_true q128
               go_wp2
               repeat (go_quiet (fail); try go_wp2)
               go_ret
               exact ⟨by rfl, by repeat (first | exact Drawn0.refl _ | apply Drawn0.step)⟩
              ·
               rw [if_neg c14] at H
               have c14b0 : (((rd_T177 l0 x4_3).f0).toList == ((rd_T177 l0 x3_1).f0).toList) = false := beq_eq_false_iff_ne.mpr c14
               have c14b1 : (((rd_T177 l0 x4_3).f0).toList != ((rd_T177 l0 x3_1).f0).toList) = true := bne_iff_ne.mpr c14
               have H' := Aside0.mk H
               clear H
               have p127 : 0 ≤ (x4_3 : Int) := of_decide_eq_true (by (with_reducible assumption))
               have q127 : x4_3 < (l0.length : Int) := of_decide_eq_true (by (with_reducible assumption))
               obtain ⟨ad127, e127, hx127_0, hx127_1, hx127_2⟩ := at_T177 HR0.out x4_3 p127 q127
               cases e127
               replace p127 := eq_true p127
               replace q127 := eq_true q127
               have p128 : 0 ≤ (x3_1 : Int) := of_decide_eq_true (by (with_reducible assumption))
               have q128 : x3_1 < (l0.length : Int) := of_decide_eq_true (by (with_reducible assumption))
               obtain ⟨ad128, e128, hx128_0, hx128_1, hx128_2⟩ := at_T177 HR0.out x3_1 p128 q128
               obtain rfl : ad127 = ad128 := (by injection e128)
               replace p128 := eq_true p128
               replace q128 := eq_true q128
               go_wp2
               repeat (go_quiet (fail); try go_wp2)
               go_roundg k3
               case measure => have := HK1.out; have := HJ2.out; have := HK3.out; omega
               case rel => exact ⟨(wrap64 (x4_3 + 1)), (by rfl), H', ⟨by have := HK1.out; have := HJ2.out; have := HK3.out; omega⟩, by repeat (first | exact Drawn0.refl _ | apply Drawn0.step)⟩
             ·
              rw [if_neg c13] at H
              exact absurd H (by simp)
            ·
             rw [if_neg c12] at H
             exact absurd H (by simp)
           ·
            rw [if_neg c11] at H
            exact absurd H (by simp)
          ·
           rw [if_neg c10] at H
           exact absurd H (by simp)
         ·
          rw [if_neg c9] at H
          have c9b0 : decide (x4_3 < x3_1) = false := decide_eq_false c9
          clear c9
          have H' := Aside0.mk H
          clear H
          go_wp2
          repeat (go_quiet (fail); try go_wp2)
          go_roundg k3
          case measure => have := HK1.out; have := HJ2.out; have := HK3.out; omega
          case rel => exact ⟨(wrap64 (x3_1 + 1)), (by rfl), H', ⟨by have := HK1.out; have := HJ2.out; have := HK3.out; omega⟩, by repeat (first | exact Drawn0.refl _ | apply Drawn0.step)⟩
   ·
    rw [if_neg c2] at H
    have c2b0 : decide (x3_1 < (l0.length : Int)) = false := decide_eq_false c2
    clear c2
    by_cases c15 : (l0.length : Int) ≥ 1
    ·
     rw [if_pos c15] at H
     have c15b0 : decide (1 ≤ (l0.length : Int)) = true := decide_eq_true c15
     have c15b1 : decide (1 ≤ l0.length) = true := decide_eq_true (by omega)
     clear c15
     obtain rfl := Option.some.inj H
     go_wp2
     repeat (go_quiet (fail); try go_wp2)
     go_ret
     exact ⟨by rfl, by repeat (first | exact Drawn0.refl _ | apply Drawn0.step)⟩
    ·
     rw [if_neg c15] at H
     have c15b0 : decide (1 ≤ (l0.length : Int)) = false := decide_eq_false c15
     have c15b1 : decide (1 ≤ l0.length) = false := decide_eq_false (by omega)
     clear c15
     obtain rfl := Option.some.inj H
     go_wp2
     repeat (go_quiet (fail); try go_wp2)
     go_ret
     exact ⟨by rfl, by repeat (first | exact Drawn0.refl _ | apply Drawn0.step)⟩
end Go.Proofs.Ytgjclhhjigflkab.C
