import Derived.Test.YtgjclhhjigflkacCx1
import Derived.Test.YtgjclhhjigflkacCx5
import Derived.Test.YtgjclhhjigflkacMyWords
import Derived.Test.YtgjclhhjigflkacProg
import Derived.Outline
import Derived.RegionTactic
import Derived.BigRegion
import Derived.ChangeAlike
import Derived.Test.YtgjclhhjigflkacScRead
import Derived.Test.YtgjclhhjigflkacScInts
import Derived.Lib.VarintBits
-- written by mkprint.py, a program of this session, over the kit's printer
namespace Go.Proofs.Ytgjclhhjigflkac.C
open Go.RowKit Go.Proofs.YtgjclhhjigflkacW.PrintWords Go.Proofs.YtgjclhhjigflkacW.PrintLast Go.Proofs.YtgjclhhjigflkacW.PrintMore
attribute [local go_sem] max2_int min2_int max_two min_two max_three min_three max_four min_four   -- for this text's walks alone
set_option linter.unusedVariables false
set_option linter.unusedSimpArgs false
-- NOT PRINTED: function 73 (api_Table_73)
-- NOT PRINTED: function 83 (api_Table_83)
-- NOT PRINTED: function 86 (api_Table_string)
/-! ### bits_Zig: function 130 -/
def bits_Zig.f (a0 : Int) : Option (Int) := some (wrap64 (Go.bits .xor .u64 (IntKind.u64.wrap ((IntKind.u64.wrap (a0)) * 2)) (IntKind.u64.wrap (a0 / 9223372036854775808))))
set_option maxHeartbeats 8000000 in
set_option maxRecDepth 100000 in
theorem bits_Zig.calls (a0 : Int) (r : Int) (w : World) (h : bits_Zig.f a0 = some r) :
  Calls Try.prog 130 #[.int .i64 a0] w fun e w' => e = .returned (.int .i64 r) ∧ Drawn0 w w' := by
 have H : (some (wrap64 (Go.bits .xor .u64 (IntKind.u64.wrap ((IntKind.u64.wrap (a0)) * 2)) (IntKind.u64.wrap (a0 / 9223372036854775808))))) = some r := h
 clear h
 obtain rfl := Option.some.inj H
 go_enter Try.func130, Try.ntmps130
 go_wp2
 go_ret
 exact ⟨by first | rfl | (simp; done) | (simp [*]; done), by repeat (first | exact Drawn0.refl _ | apply Drawn0.step)⟩
/-! ### bits_Zag: function 152 -/
def bits_Zag.f (a0 : Int) : Option (Int) := some (wrap64 (Go.bits .xor .u64 ((IntKind.u64.wrap (a0)) / 2) (IntKind.u64.wrap (-(Go.bits .and .u64 (IntKind.u64.wrap (a0)) 1)))))
set_option maxHeartbeats 8000000 in
set_option maxRecDepth 100000 in
theorem bits_Zag.calls (a0 : Int) (r : Int) (w : World) (h : bits_Zag.f a0 = some r) :
  Calls Try.prog 152 #[.int .i64 a0] w fun e w' => e = .returned (.int .i64 r) ∧ Drawn0 w w' := by
 have H : (some (wrap64 (Go.bits .xor .u64 ((IntKind.u64.wrap (a0)) / 2) (IntKind.u64.wrap (-(Go.bits .and .u64 (IntKind.u64.wrap (a0)) 1)))))) = some r := h
 clear h
 obtain rfl := Option.some.inj H
 go_enter Try.func152, Try.ntmps152
 go_wp2
 go_ret
 exact ⟨by first | rfl | (simp; done) | (simp [*]; done), by repeat (first | exact Drawn0.refl _ | apply Drawn0.step)⟩
/-! ### bits_Width: function 154 -/
def bits_Width.l0 : Nat → Int → Int → Int → Option (Int)
 | 0, _, _, _ => none
 | k + 1, x3, x4, x5 => if x5 > 0 then (if 0 ≤ x5 then (if (shr .u64 x3 x5) > 0 then (bits_Width.l0 k (shr .u64 x3 x5) (wrap64 (x4 + x5)) (wrap64 (Int.tdiv x5 2))) else (bits_Width.l0 k x3 x4 (wrap64 (Int.tdiv x5 2)))) else (none)) else (some (wrap64 (x4 + (wrap64 (x3)))))
def bits_Width.f (k : Nat) (a0 : Int) : Option (Int) := bits_Width.l0 k (IntKind.u64.wrap (a0)) 0 32
set_option maxHeartbeats 8000000 in
set_option maxRecDepth 100000 in
theorem bits_Width.calls (k : Nat) (a0 : Int) (r : Int) (w : World) (h : bits_Width.f k a0 = some r) :
  Calls Try.prog 154 #[.int .i64 a0] w fun e w' => e = .returned (.int .i64 r) ∧ Drawn0 w w' := by
 have H : (bits_Width.l0 k (IntKind.u64.wrap (a0)) 0 32) = some r := h
 clear h
 have H' := Aside0.mk H
 clear H
 go_enter Try.func154, Try.ntmps154
 go_wp2
 go_loopg [3, 4, 5] k (fun kq v3 v4 v5 w' => ∃ (x3_1 : Int) (x4_1 : Int) (x5_1 : Int), v3 = .int .u64 x3_1 ∧ v4 = .int .i64 x4_1 ∧ v5 = .int .i64 x5_1 ∧ Aside0 (bits_Width.l0 kq x3_1 x4_1 x5_1 = some r) ∧ Aside0 (kq ≤ k) ∧ Drawn0 w w')
 case atStart => exact ⟨(IntKind.u64.wrap (a0)), (0), (32), (by first | rfl | (simp; done) | (simp [*]; done)), (by first | rfl | (simp; done) | (simp [*]; done)), (by first | rfl | (simp; done) | (simp [*]; done)), H', ⟨Nat.le_refl _⟩, by repeat (first | exact Drawn0.refl _ | apply Drawn0.step)⟩
 case round =>
  clear H'
  try clear c1
  obtain ⟨x3_1, x4_1, x5_1, rfl, rfl, rfl, HA, HK1, ⟨m1, rfl⟩⟩ := hrel
  cases gk with
  | zero => exact absurd HA.out (by simp [bits_Width.l0])
  | succ k1 =>
   have H := HA.out
   clear HA
   simp only [bits_Width.l0] at H
   by_cases c2 : x5_1 > 0
   ·
    rw [if_pos c2] at H
    have c2b0 : decide (0 < x5_1) = true := decide_eq_true c2
    clear c2
    by_cases c3 : 0 ≤ x5_1
    ·
     rw [if_pos c3] at H
     have c3b0 := eq_true c3
     have c3b1 : decide (0 ≤ x5_1) = true := decide_eq_true c3
     clear c3
     obtain ⟨ji4, hji4⟩ : ∃ j_ : Int, (shr .u64 x3_1 x5_1) = j_ := ⟨_, rfl⟩
     replace H : (if (ji4) > 0 then (bits_Width.l0 k1 ji4 (wrap64 (x4_1 + x5_1)) (wrap64 (Int.tdiv x5_1 2))) else (bits_Width.l0 k1 x3_1 x4_1 (wrap64 (Int.tdiv x5_1 2)))) = some r := by first | (rw [hji4] at H; exact H) | (simp only [hji4] at H ⊢; exact H)
     have hji4_ : (x3_1 / 2 ^ min x5_1.toNat 64) = ji4 := hji4
     have hji4z : x5_1 ≤ 64 → (x3_1 / 2 ^ x5_1.toNat) = ji4 := shr_small hji4
     by_cases c5 : (ji4) > 0
     ·
      rw [if_pos c5] at H
      have c5b0 : decide (0 < (ji4)) = true := decide_eq_true c5
      clear c5
      have c6b0 := eq_true (of_decide_eq_true (by first | (with_reducible assumption) | assumption) : 0 ≤ x5_1)
      have H' := Aside0.mk H
      clear H
      go_wp2
      go_roundg k1
      case measure => have := HK1.out; omega
      case rel => exact ⟨(ji4), (wrap64 (x4_1 + x5_1)), (wrap64 (Int.tdiv x5_1 2)), (by first | rfl | (simp; done) | (simp only [← hji4] <;> (first | rfl | simp)) | (simp [*]; done)), (by first | rfl | (simp; done) | (simp [*]; done)), (by first | rfl | (simp; done) | (simp [*]; done)), H', ⟨by have := HK1.out; omega⟩, by repeat (first | exact Drawn0.refl _ | apply Drawn0.step)⟩
     ·
      rw [if_neg c5] at H
      have c5b0 : decide (0 < (ji4)) = false := decide_eq_false c5
      clear c5
      have H' := Aside0.mk H
      clear H
      go_wp2
      go_roundg k1
      case measure => have := HK1.out; omega
      case rel => exact ⟨(x3_1), (x4_1), (wrap64 (Int.tdiv x5_1 2)), (by first | rfl | (simp; done) | (simp [*]; done)), (by first | rfl | (simp; done) | (simp [*]; done)), (by first | rfl | (simp; done) | (simp [*]; done)), H', ⟨by have := HK1.out; omega⟩, by repeat (first | exact Drawn0.refl _ | apply Drawn0.step)⟩
    ·
     rw [if_neg c3] at H
     exact absurd H (by simp)
   ·
    rw [if_neg c2] at H
    have c2b0 : decide (0 < x5_1) = false := decide_eq_false c2
    clear c2
    obtain rfl := Option.some.inj H
    go_wp2
    go_ret
    exact ⟨by first | rfl | (simp; done) | (simp [*]; done), by repeat (first | exact Drawn0.refl _ | apply Drawn0.step)⟩
/-! ### vint_Len: function 153 -/
def vint_Len.f (k : Nat) (a0 : Int) : Option (Int) := (bits_Zig.f a0).bind fun t106 => ((bits_Width.f k t106).bind fun t107 => (some (mx 1 (wrap64 (Int.tdiv (wrap64 ((wrap64 (t107 + 7)) - 1)) 7)))))
set_option maxHeartbeats 8000000 in
set_option maxRecDepth 100000 in
theorem vint_Len.calls (k : Nat) (a0 : Int) (r : Int) (w : World) (h : vint_Len.f k a0 = some r) :
  Calls Try.prog 153 #[.int .i64 a0] w fun e w' => e = .returned (.int .i64 r) ∧ Below w.heap.size w w' := by
 have HB := Aside0.mk (Below.refl w.heap.size w)
 have H : ((bits_Zig.f a0).bind fun t106 => ((bits_Width.f k t106).bind fun t107 => (some (mx 1 (wrap64 (Int.tdiv (wrap64 ((wrap64 (t107 + 7)) - 1)) 7)))))) = some r := h
 clear h
 replace H := Option.bind_eq_some_iff.mp H
 obtain ⟨t106, A20, H⟩ := H
 replace H : ((bits_Width.f k t106).bind fun t107 => (some (mx 1 (wrap64 (Int.tdiv (wrap64 ((wrap64 (t107 + 7)) - 1)) 7))))) = some r := H
 have A2 := Aside0.mk A20
 clear A20
 replace H := Option.bind_eq_some_iff.mp H
 obtain ⟨t107, A30, H⟩ := H
 replace H : (some (mx 1 (wrap64 (Int.tdiv (wrap64 ((wrap64 (t107 + 7)) - 1)) 7)))) = some r := H
 have A3 := Aside0.mk A30
 clear A30
 obtain ⟨ji4, hji4⟩ : ∃ j_ : Int, (mx 1 (wrap64 (Int.tdiv (wrap64 ((wrap64 (t107 + 7)) - 1)) 7))) = j_ := ⟨_, rfl⟩
 replace H : (some ji4) = some r := by first | (rw [hji4] at H; exact H) | (simp only [hji4] at H ⊢; exact H)
 (try rw [hji4] at A2)
 (try rw [hji4] at A3)
 (try (have hji4l : 1 ≤ ji4 := by (rw [← hji4]; unfold mx; (repeat' split) <;> omega)))
 (try (have hji4m : 0 ≤ ji4 := by omega))
 have hji4_ : (if 1 < (wrap64 (Int.tdiv (wrap64 ((wrap64 (t107 + 7)) - 1)) 7)) then (wrap64 (Int.tdiv (wrap64 ((wrap64 (t107 + 7)) - 1)) 7)) else 1) = ji4 := hji4
 obtain rfl := Option.some.inj H
 go_enter Try.func153, Try.ntmps153
 go_wp2_with (first | ((with_reducible refine gate_callee (f := 130) rfl ?_); refine goesL_ (some 4) rfl rfl Try.func130 (by kernel_rfl) rfl #[.int .i64 a0] rfl (by (try simp only [List.map_toArray, List.map_cons, List.map_nil]); first | done | rfl | (simp only [List.length_drop, List.length_take]; rfl)) ?_; (with_reducible refine (bits_Zig.calls a0 t106 _ A2.out).mono ?_); rintro e w' ⟨rfl, ⟨nd, rfl⟩⟩; refine ⟨_, rfl, ?_⟩) | ((with_reducible refine gate_callee (f := 154) rfl ?_); refine goesL_ (some 5) rfl rfl Try.func154 (by kernel_rfl) rfl #[.int .i64 t106] rfl (by (try simp only [List.map_toArray, List.map_cons, List.map_nil]); first | done | rfl | (simp only [List.length_drop, List.length_take]; rfl)) ?_; (with_reducible refine (bits_Width.calls k t106 t107 _ A3.out).mono ?_); rintro e w' ⟨rfl, ⟨nd, rfl⟩⟩; refine ⟨_, rfl, ?_⟩))
 go_ret
 exact ⟨by first | rfl | (simp [errW_none, errW_some] <;> rfl) | (simp only [← hji4]; first | rfl | (simp [errW_none, errW_some] <;> rfl)) | (simp [*, errW_none, errW_some] <;> rfl), by repeat (first | (with_reducible first | exact HB.out | apply below_alloc | apply pw_below_drewN | apply below_drew1) | exact HB.out)⟩
/-! ### vint_Take: function 145 -/
def vint_Take.l0 : Nat → ByteArray → Int → Int → Int → Option (Int × Int × Int)
 | 0, _, _, _, _ => none
 | k + 1, x0, x5, x11, x12 => if x12 < x11 then (if 0 ≤ x12 then (if x12 < (x0.size : Int) then (if 0 ≤ (wrap64 (7 * x12)) then (if (bt x0 x12) ≥ 128 then (vint_Take.l0 k x0 (Go.bits .or .u64 x5 (shl .u64 (IntKind.u64.wrap (Go.bits .andNot .u8 (bt x0 x12) 128)) (wrap64 (7 * x12)))) x11 (wrap64 (x12 + 1))) else ((bits_Zag.f (wrap64 (Go.bits .or .u64 x5 (shl .u64 (IntKind.u64.wrap (Go.bits .andNot .u8 (bt x0 x12) 128)) (wrap64 (7 * x12)))))).bind fun t108 => ((vint_Len.f k t108).bind fun t109 => (if t109 = (wrap64 (x12 + 1)) then (if x12 < 9 then (some (t108, wrap64 (x12 + 1), 0)) else (if (bt x0 x12) = 1 then (some (t108, wrap64 (x12 + 1), 0)) else (some (0, 0, 20)))) else (some (0, 0, 20)))))) else (none)) else (none)) else (none)) else (some (0, 0, 20))
def vint_Take.f (k : Nat) (a0 : ByteArray) : Option (Int × Int × Int) := vint_Take.l0 k a0 0 (mn (a0.size : Int) 10) 0
set_option maxHeartbeats 8000000 in
set_option maxRecDepth 100000 in
theorem vint_Take.calls (k : Nat) (a0 : ByteArray) (r1 : Int) (r2 : Int) (r3 : Int) (w : World) (h : vint_Take.f k a0 = some (r1, r2, r3)) :
  Calls Try.prog 145 #[.string a0] w fun e w' => e = .returned (.tuple #[.int .i64 r1, .int .i64 r2, .int .i64 r3]) ∧ Below w.heap.size w w' := by
 have HB := Aside0.mk (Below.refl w.heap.size w)
 have H : (vint_Take.l0 k a0 0 (mn (a0.size : Int) 10) 0) = some (r1, r2, r3) := h
 clear h
 obtain ⟨ji2, hji2⟩ : ∃ j_ : Int, (mn (a0.size : Int) 10) = j_ := ⟨_, rfl⟩
 replace H : (vint_Take.l0 k a0 0 ji2 0) = some (r1, r2, r3) := by first | (rw [hji2] at H; exact H) | (simp only [hji2] at H ⊢; exact H)
 (try (have hji2h : ji2 ≤ 10 := by (rw [← hji2]; unfold mn; (repeat' split) <;> omega)))
 (try (have hji2g : ji2 ≤ 64 := by omega))
 (try (have hji2l : 0 ≤ ji2 := by (rw [← hji2]; unfold mn; (repeat' split) <;> omega)))
 (try (have hji2m : 0 ≤ ji2 := by omega))
 have hji2_ : (if 10 < (a0.size : Int) then 10 else (a0.size : Int)) = ji2 := hji2
 have H' := Aside0.mk H
 clear H
 go_enter Try.func145, Try.ntmps145
 go_wp2
 go_loopg [5, 12] k (fun kq v5 v12 w' => ∃ (x5_1 : Int) (x12_1 : Int), v5 = .int .u64 x5_1 ∧ v12 = .int .i64 x12_1 ∧ Aside0 (vint_Take.l0 kq a0 x5_1 ji2 x12_1 = some (r1, r2, r3)) ∧ Aside0 (kq ≤ k) ∧ Aside0 (Below w.heap.size w w'))
 case atStart => exact ⟨(0), (0), (by first | rfl | (simp; done) | (simp [*]; done)), (by first | rfl | (simp; done) | (simp [*]; done)), H', ⟨Nat.le_refl _⟩, ⟨by repeat (first | (with_reducible first | exact HB.out | apply below_alloc | apply pw_below_drewN | apply below_drew1) | exact HB.out)⟩⟩
 case round =>
  clear H'
  try clear c1
  try clear p2
  obtain ⟨x5_1, x12_1, rfl, rfl, HA, HK1, HB⟩ := hrel
  cases gk with
  | zero => exact absurd HA.out (by simp [vint_Take.l0])
  | succ k1 =>
   have H := HA.out
   clear HA
   simp only [vint_Take.l0] at H
   by_cases c3 : x12_1 < ji2
   ·
    rw [if_pos c3] at H
    have c3b0 : decide (x12_1 < ji2) = true := decide_eq_true c3
    clear c3
    by_cases c4 : 0 ≤ x12_1
    ·
     rw [if_pos c4] at H
     have c4b0 : decide (0 ≤ x12_1) = true := decide_eq_true c4
     clear c4
     by_cases c5 : x12_1 < (a0.size : Int)
     ·
      rw [if_pos c5] at H
      have c5b0 : decide (x12_1 < (a0.size : Int)) = true := decide_eq_true c5
      clear c5
      obtain ⟨ji7, hji7⟩ : ∃ j_ : Int, (wrap64 (7 * x12_1)) = j_ := ⟨_, rfl⟩
      replace H : (if 0 ≤ (ji7) then (if (bt a0 x12_1) ≥ 128 then (vint_Take.l0 k1 a0 (Go.bits .or .u64 x5_1 (shl .u64 (IntKind.u64.wrap (Go.bits .andNot .u8 (bt a0 x12_1) 128)) (ji7))) ji2 (wrap64 (x12_1 + 1))) else ((bits_Zag.f (wrap64 (Go.bits .or .u64 x5_1 (shl .u64 (IntKind.u64.wrap (Go.bits .andNot .u8 (bt a0 x12_1) 128)) (ji7))))).bind fun t108 => ((vint_Len.f k1 t108).bind fun t109 => (if t109 = (wrap64 (x12_1 + 1)) then (if x12_1 < 9 then (some (t108, wrap64 (x12_1 + 1), 0)) else (if (bt a0 x12_1) = 1 then (some (t108, wrap64 (x12_1 + 1), 0)) else (some (0, 0, 20)))) else (some (0, 0, 20)))))) else (none)) = some (r1, r2, r3) := by first | (rw [hji7] at H; exact H) | (simp only [hji7] at H ⊢; exact H)
      have hji7w : (IntKind.i64.wrap (7 * x12_1)) = ji7 := (i64_w _).trans hji7
      by_cases c8 : 0 ≤ (ji7)
      ·
       rw [if_pos c8] at H
       have c8b0 := eq_true c8
       have c8b1 : decide (0 ≤ (ji7)) = true := decide_eq_true c8
       clear c8
       obtain ⟨ji9, hji9⟩ : ∃ j_ : Int, (shl .u64 (IntKind.u64.wrap (Go.bits .andNot .u8 (bt a0 x12_1) 128)) (ji7)) = j_ := ⟨_, rfl⟩
       replace H : (if (bt a0 x12_1) ≥ 128 then (vint_Take.l0 k1 a0 (Go.bits .or .u64 x5_1 (ji9)) ji2 (wrap64 (x12_1 + 1))) else ((bits_Zag.f (wrap64 (Go.bits .or .u64 x5_1 (ji9)))).bind fun t108 => ((vint_Len.f k1 t108).bind fun t109 => (if t109 = (wrap64 (x12_1 + 1)) then (if x12_1 < 9 then (some (t108, wrap64 (x12_1 + 1), 0)) else (if (bt a0 x12_1) = 1 then (some (t108, wrap64 (x12_1 + 1), 0)) else (some (0, 0, 20)))) else (some (0, 0, 20)))))) = some (r1, r2, r3) := by first | (rw [hji9] at H; exact H) | (simp only [hji9] at H ⊢; exact H)
       have hji9_ : (IntKind.u64.wrap ((IntKind.u64.wrap (Go.bits .andNot .u8 (bt a0 x12_1) 128)) * 2 ^ min (ji7).toNat 64)) = ji9 := hji9
       have hji9z : (ji7) ≤ 64 → (IntKind.u64.wrap ((IntKind.u64.wrap (Go.bits .andNot .u8 (bt a0 x12_1) 128)) * 2 ^ (ji7).toNat)) = ji9 := shl_small hji9
       by_cases c10 : (bt a0 x12_1) ≥ 128
       ·
        rw [if_pos c10] at H
        have c10b0 : decide (128 ≤ (bt a0 x12_1)) = true := decide_eq_true c10
        clear c10
        have H' := Aside0.mk H
        clear H
        have p6 : 0 ≤ (x12_1 : Int) := of_decide_eq_true (by first | (with_reducible assumption) | assumption)
        have q6 : x12_1 < (a0.size : Int) := of_decide_eq_true (by first | (with_reducible assumption) | assumption)
        have hx6 := bt_at a0 x12_1
        replace p6 := eq_true p6
        replace q6 := eq_true q6
        go_wp2
        go_roundg k1
        case measure => have := HK1.out; omega
        case rel => exact ⟨(Go.bits .or .u64 x5_1 (ji9)), (wrap64 (x12_1 + 1)), (by first | rfl | (simp; done) | (simp only [← hji9] <;> (first | rfl | simp)) | (simp [*]; done)), (by first | rfl | (simp; done) | (simp [*]; done)), H', ⟨by have := HK1.out; omega⟩, ⟨by repeat (first | (with_reducible first | exact HB.out | apply below_alloc | apply pw_below_drewN | apply below_drew1) | exact HB.out)⟩⟩
       ·
        rw [if_neg c10] at H
        have c10b0 : decide (128 ≤ (bt a0 x12_1)) = false := decide_eq_false c10
        clear c10
        replace H := Option.bind_eq_some_iff.mp H
        obtain ⟨t108, A110, H⟩ := H
        replace H : ((vint_Len.f k1 t108).bind fun t109 => (if t109 = (wrap64 (x12_1 + 1)) then (if x12_1 < 9 then (some (t108, wrap64 (x12_1 + 1), 0)) else (if (bt a0 x12_1) = 1 then (some (t108, wrap64 (x12_1 + 1), 0)) else (some (0, 0, 20)))) else (some (0, 0, 20)))) = some (r1, r2, r3) := H
        have A11 := Aside0.mk A110
        clear A110
        replace H := Option.bind_eq_some_iff.mp H
        obtain ⟨t109, A120, H⟩ := H
        replace H : (if t109 = (wrap64 (x12_1 + 1)) then (if x12_1 < 9 then (some (t108, wrap64 (x12_1 + 1), 0)) else (if (bt a0 x12_1) = 1 then (some (t108, wrap64 (x12_1 + 1), 0)) else (some (0, 0, 20)))) else (some (0, 0, 20))) = some (r1, r2, r3) := H
        have A12 := Aside0.mk A120
        clear A120
        by_cases c13 : t109 = (wrap64 (x12_1 + 1))
        ·
         rw [if_pos c13] at H
         have c13b0 : (t109 == (wrap64 (x12_1 + 1))) = true := beq_iff_eq.mpr c13
         have c13b1 : (t109 != (wrap64 (x12_1 + 1))) = false := bne_eq_false_iff_eq.mpr c13
         clear c13
         by_cases c14 : x12_1 < 9
         ·
          rw [if_pos c14] at H
          have c14b0 : decide (x12_1 < 9) = true := decide_eq_true c14
          clear c14
          simp only [Option.some.injEq, Prod.mk.injEq] at H
          obtain ⟨rfl, rfl, rfl⟩ := H
          have p6 : 0 ≤ (x12_1 : Int) := of_decide_eq_true (by first | (with_reducible assumption) | assumption)
          have q6 : x12_1 < (a0.size : Int) := of_decide_eq_true (by first | (with_reducible assumption) | assumption)
          have hx6 := bt_at a0 x12_1
          replace p6 := eq_true p6
          replace q6 := eq_true q6
          go_wp2_with (first | ((with_reducible refine gate_callee (f := 152) rfl ?_); refine goesL_ (some 30) rfl rfl Try.func152 (by kernel_rfl) rfl #[.int .i64 (wrap64 (Go.bits .or .u64 x5_1 (ji9)))] rfl (by (try simp only [List.map_toArray, List.map_cons, List.map_nil]); first | done | (simp only [hji9]; rfl) | rfl | (simp only [List.length_drop, List.length_take]; rfl)) ?_; (with_reducible refine (bits_Zag.calls (wrap64 (Go.bits .or .u64 x5_1 (ji9))) t108 _ A11.out).mono ?_); rintro e w' ⟨rfl, ⟨nd, rfl⟩⟩; refine ⟨_, rfl, ?_⟩) | ((with_reducible refine gate_callee (f := 153) rfl ?_); refine goesL_ (some 32) rfl rfl Try.func153 (by kernel_rfl) rfl #[.int .i64 t108] rfl (by (try simp only [List.map_toArray, List.map_cons, List.map_nil]); first | done | rfl | (simp only [List.length_drop, List.length_take]; rfl)) ?_; (with_reducible refine (vint_Len.calls k1 t108 t109 _ A12.out).mono ?_); rintro e w15 ⟨rfl, hb⟩; refine ⟨_, rfl, ?_⟩; have n0_ := Aside0.mk (below_step (by repeat (first | (with_reducible first | exact HB.out | apply below_alloc | apply pw_below_drewN | apply below_drew1) | exact HB.out)) hb); clear HB; have HB := n0_; clear n0_; (try clear hb); (try clear hb2); (try clear hk); (try clear hi)))
          go_ret3
          exact ⟨by first | rfl | (simp [errW_none, errW_some] <;> rfl) | (simp only [← hji2, ← hji7, ← hji9]; first | rfl | (simp [errW_none, errW_some] <;> rfl)) | (simp [*, errW_none, errW_some] <;> rfl), by repeat (first | (with_reducible first | exact HB.out | apply below_alloc | apply pw_below_drewN | apply below_drew1) | exact HB.out)⟩
         ·
          rw [if_neg c14] at H
          have c14b0 : decide (x12_1 < 9) = false := decide_eq_false c14
          clear c14
          by_cases c16 : (bt a0 x12_1) = 1
          ·
           rw [if_pos c16] at H
           have c16b0 : ((bt a0 x12_1) == 1) = true := beq_iff_eq.mpr c16
           have c16b1 : ((bt a0 x12_1) != 1) = false := bne_eq_false_iff_eq.mpr c16
           clear c16
           simp only [Option.some.injEq, Prod.mk.injEq] at H
           obtain ⟨rfl, rfl, rfl⟩ := H
           have p6 : 0 ≤ (x12_1 : Int) := of_decide_eq_true (by first | (with_reducible assumption) | assumption)
           have q6 : x12_1 < (a0.size : Int) := of_decide_eq_true (by first | (with_reducible assumption) | assumption)
           have hx6 := bt_at a0 x12_1
           replace p6 := eq_true p6
           replace q6 := eq_true q6
           go_wp2_with (first | ((with_reducible refine gate_callee (f := 152) rfl ?_); refine goesL_ (some 30) rfl rfl Try.func152 (by kernel_rfl) rfl #[.int .i64 (wrap64 (Go.bits .or .u64 x5_1 (ji9)))] rfl (by (try simp only [List.map_toArray, List.map_cons, List.map_nil]); first | done | (simp only [hji9]; rfl) | rfl | (simp only [List.length_drop, List.length_take]; rfl)) ?_; (with_reducible refine (bits_Zag.calls (wrap64 (Go.bits .or .u64 x5_1 (ji9))) t108 _ A11.out).mono ?_); rintro e w' ⟨rfl, ⟨nd, rfl⟩⟩; refine ⟨_, rfl, ?_⟩) | ((with_reducible refine gate_callee (f := 153) rfl ?_); refine goesL_ (some 32) rfl rfl Try.func153 (by kernel_rfl) rfl #[.int .i64 t108] rfl (by (try simp only [List.map_toArray, List.map_cons, List.map_nil]); first | done | rfl | (simp only [List.length_drop, List.length_take]; rfl)) ?_; (with_reducible refine (vint_Len.calls k1 t108 t109 _ A12.out).mono ?_); rintro e w17 ⟨rfl, hb⟩; refine ⟨_, rfl, ?_⟩; have n0_ := Aside0.mk (below_step (by repeat (first | (with_reducible first | exact HB.out | apply below_alloc | apply pw_below_drewN | apply below_drew1) | exact HB.out)) hb); clear HB; have HB := n0_; clear n0_; (try clear hb); (try clear hb2); (try clear hk); (try clear hi)))
           go_ret3
           exact ⟨by first | rfl | (simp [errW_none, errW_some] <;> rfl) | (simp only [← hji2, ← hji7, ← hji9]; first | rfl | (simp [errW_none, errW_some] <;> rfl)) | (simp [*, errW_none, errW_some] <;> rfl), by repeat (first | (with_reducible first | exact HB.out | apply below_alloc | apply pw_below_drewN | apply below_drew1) | exact HB.out)⟩
          ·
           rw [if_neg c16] at H
           have c16b0 : ((bt a0 x12_1) == 1) = false := beq_eq_false_iff_ne.mpr c16
           have c16b1 : ((bt a0 x12_1) != 1) = true := bne_iff_ne.mpr c16
           simp only [Option.some.injEq, Prod.mk.injEq] at H
           obtain ⟨rfl, rfl, rfl⟩ := H
           have p6 : 0 ≤ (x12_1 : Int) := of_decide_eq_true (by first | (with_reducible assumption) | assumption)
           have q6 : x12_1 < (a0.size : Int) := of_decide_eq_true (by first | (with_reducible assumption) | assumption)
           have hx6 := bt_at a0 x12_1
           replace p6 := eq_true p6
           replace q6 := eq_true q6
           go_wp2_with (first | ((with_reducible refine gate_callee (f := 152) rfl ?_); refine goesL_ (some 30) rfl rfl Try.func152 (by kernel_rfl) rfl #[.int .i64 (wrap64 (Go.bits .or .u64 x5_1 (ji9)))] rfl (by (try simp only [List.map_toArray, List.map_cons, List.map_nil]); first | done | (simp only [hji9]; rfl) | rfl | (simp only [List.length_drop, List.length_take]; rfl)) ?_; (with_reducible refine (bits_Zag.calls (wrap64 (Go.bits .or .u64 x5_1 (ji9))) t108 _ A11.out).mono ?_); rintro e w' ⟨rfl, ⟨nd, rfl⟩⟩; refine ⟨_, rfl, ?_⟩) | ((with_reducible refine gate_callee (f := 153) rfl ?_); refine goesL_ (some 32) rfl rfl Try.func153 (by kernel_rfl) rfl #[.int .i64 t108] rfl (by (try simp only [List.map_toArray, List.map_cons, List.map_nil]); first | done | rfl | (simp only [List.length_drop, List.length_take]; rfl)) ?_; (with_reducible refine (vint_Len.calls k1 t108 t109 _ A12.out).mono ?_); rintro e w18 ⟨rfl, hb⟩; refine ⟨_, rfl, ?_⟩; have n0_ := Aside0.mk (below_step (by repeat (first | (with_reducible first | exact HB.out | apply below_alloc | apply pw_below_drewN | apply below_drew1) | exact HB.out)) hb); clear HB; have HB := n0_; clear n0_; (try clear hb); (try clear hb2); (try clear hk); (try clear hi)))
           go_ret3
           exact ⟨by first | rfl | (simp [errW_none, errW_some] <;> rfl) | (simp only [← hji2, ← hji7, ← hji9]; first | rfl | (simp [errW_none, errW_some] <;> rfl)) | (simp [*, errW_none, errW_some] <;> rfl), by repeat (first | (with_reducible first | exact HB.out | apply below_alloc | apply pw_below_drewN | apply below_drew1) | exact HB.out)⟩
        ·
         rw [if_neg c13] at H
         have c13b0 : (t109 == (wrap64 (x12_1 + 1))) = false := beq_eq_false_iff_ne.mpr c13
         have c13b1 : (t109 != (wrap64 (x12_1 + 1))) = true := bne_iff_ne.mpr c13
         simp only [Option.some.injEq, Prod.mk.injEq] at H
         obtain ⟨rfl, rfl, rfl⟩ := H
         have p6 : 0 ≤ (x12_1 : Int) := of_decide_eq_true (by first | (with_reducible assumption) | assumption)
         have q6 : x12_1 < (a0.size : Int) := of_decide_eq_true (by first | (with_reducible assumption) | assumption)
         have hx6 := bt_at a0 x12_1
         replace p6 := eq_true p6
         replace q6 := eq_true q6
         go_wp2_with (first | ((with_reducible refine gate_callee (f := 152) rfl ?_); refine goesL_ (some 30) rfl rfl Try.func152 (by kernel_rfl) rfl #[.int .i64 (wrap64 (Go.bits .or .u64 x5_1 (ji9)))] rfl (by (try simp only [List.map_toArray, List.map_cons, List.map_nil]); first | done | (simp only [hji9]; rfl) | rfl | (simp only [List.length_drop, List.length_take]; rfl)) ?_; (with_reducible refine (bits_Zag.calls (wrap64 (Go.bits .or .u64 x5_1 (ji9))) t108 _ A11.out).mono ?_); rintro e w' ⟨rfl, ⟨nd, rfl⟩⟩; refine ⟨_, rfl, ?_⟩) | ((with_reducible refine gate_callee (f := 153) rfl ?_); refine goesL_ (some 32) rfl rfl Try.func153 (by kernel_rfl) rfl #[.int .i64 t108] rfl (by (try simp only [List.map_toArray, List.map_cons, List.map_nil]); first | done | rfl | (simp only [List.length_drop, List.length_take]; rfl)) ?_; (with_reducible refine (vint_Len.calls k1 t108 t109 _ A12.out).mono ?_); rintro e w19 ⟨rfl, hb⟩; refine ⟨_, rfl, ?_⟩; have n0_ := Aside0.mk (below_step (by repeat (first | (with_reducible first | exact HB.out | apply below_alloc | apply pw_below_drewN | apply below_drew1) | exact HB.out)) hb); clear HB; have HB := n0_; clear n0_; (try clear hb); (try clear hb2); (try clear hk); (try clear hi)))
         go_ret3
         exact ⟨by first | rfl | (simp [errW_none, errW_some] <;> rfl) | (simp only [← hji2, ← hji7, ← hji9]; first | rfl | (simp [errW_none, errW_some] <;> rfl)) | (simp [*, errW_none, errW_some] <;> rfl), by repeat (first | (with_reducible first | exact HB.out | apply below_alloc | apply pw_below_drewN | apply below_drew1) | exact HB.out)⟩
      ·
       rw [if_neg c8] at H
       exact absurd H (by simp)
     ·
      rw [if_neg c5] at H
      exact absurd H (by simp)
    ·
     rw [if_neg c4] at H
     exact absurd H (by simp)
   ·
    rw [if_neg c3] at H
    have c3b0 : decide (x12_1 < ji2) = false := decide_eq_false c3
    clear c3
    simp only [Option.some.injEq, Prod.mk.injEq] at H
    obtain ⟨rfl, rfl, rfl⟩ := H
    go_wp2
    go_ret3
    exact ⟨by first | rfl | (simp [errW_none, errW_some] <;> rfl) | (simp only [← hji2]; first | rfl | (simp [errW_none, errW_some] <;> rfl)) | (simp [*, errW_none, errW_some] <;> rfl), by repeat (first | (with_reducible first | exact HB.out | apply below_alloc | apply pw_below_drewN | apply below_drew1) | exact HB.out)⟩
-- NOT PRINTED: function 109 (schema_reader_num)
-- NOT PRINTED: function 67 (schema_reader_times)
end Go.Proofs.Ytgjclhhjigflkac.C

-- written by mkprint.py, a program of this session, over the kit's printer
namespace Go.Proofs.Ytgjclhhjigflkac.C
open Go.RowKit Go.Proofs.YtgjclhhjigflkacW.PrintWords Go.Proofs.YtgjclhhjigflkacW.PrintLast Go.Proofs.YtgjclhhjigflkacW.PrintMore
attribute [local go_sem] max2_int min2_int max_two min_two max_three min_three max_four min_four   -- for this text's walks alone
set_option linter.unusedVariables false
set_option linter.unusedSimpArgs false
/-! ### peristyleref25_Name: function 117 -/
mutual
def peristyleref25_Name.j0 : Nat → ByteArray → Bool → Option (Bool)
 | 0, _, _ => none
 | k + 1, x0, x12 => if x12 = true then (some false) else (peristyleref25_Name.l0 k x0 0)
def peristyleref25_Name.l0 : Nat → ByteArray → Int → Option (Bool)
 | 0, _, _ => none
 | k + 1, x0, x3 => if x3 < (x0.size : Int) then (if 0 ≤ x3 then (if (bt x0 x3) ≥ 97 then (if ((bt x0 x3) ≤ 122) then (peristyleref25_Name.l0 k x0 (wrap64 (x3 + 1))) else (if x3 = 0 then (some false) else (if (bt x0 x3) = 95 then (peristyleref25_Name.l0 k x0 (wrap64 (x3 + 1))) else (if (bt x0 x3) < 48 then (some false) else (if (bt x0 x3) > 57 then (some false) else (peristyleref25_Name.l0 k x0 (wrap64 (x3 + 1)))))))) else (if x3 = 0 then (some false) else (if (bt x0 x3) = 95 then (peristyleref25_Name.l0 k x0 (wrap64 (x3 + 1))) else (if (bt x0 x3) < 48 then (some false) else (if (bt x0 x3) > 57 then (some false) else (peristyleref25_Name.l0 k x0 (wrap64 (x3 + 1)))))))) else (none)) else (some true)
end
def peristyleref25_Name.f (k : Nat) (a0 : ByteArray) : Option (Bool) := if (a0.size : Int) < 1 then (peristyleref25_Name.j0 k a0 true) else (peristyleref25_Name.j0 k a0 (decide ((a0.size : Int) > 16)))
/-! ### peristyleref25_Columns: function 118 -/
mutual
def peristyleref25_Columns.l0 : Nat → List (S96) → Int → Option (Bool)
 | 0, _, _ => none
 | k + 1, x0, x3 => if x3 < (x0.length : Int) then (if 0 ≤ x3 then ((peristyleref25_Name.f k ((rd_T96 x0 x3).f0)).bind fun t168 => (if t168 = true then (if ((rd_T96 x0 x3).f1) = 1 then (peristyleref25_Columns.j1 k x0 x3 false) else (peristyleref25_Columns.j1 k x0 x3 (((rd_T96 x0 x3).f1) != 2))) else (peristyleref25_Columns.j1 k x0 x3 true))) else (none)) else (if (x0.length : Int) ≥ 1 then (some (decide ((x0.length : Int) ≤ 8))) else (some false))
def peristyleref25_Columns.j1 : Nat → List (S96) → Int → Bool → Option (Bool)
 | 0, _, _, _ => none
 | k + 1, x0, x3, x33 => if x33 = true then (some false) else (peristyleref25_Columns.l1 k x0 x3 0)
def peristyleref25_Columns.l1 : Nat → List (S96) → Int → Int → Option (Bool)
 | 0, _, _, _ => none
 | k + 1, x0, x3, x4 => if x4 < x3 then (if 0 ≤ x4 then (if x4 < (x0.length : Int) then (if 0 ≤ x3 then (if x3 < (x0.length : Int) then (if ((rd_T96 x0 x4).f0).toList = ((rd_T96 x0 x3).f0).toList then (some false) else (peristyleref25_Columns.l1 k x0 x3 (wrap64 (x4 + 1)))) else (none)) else (none)) else (none)) else (none)) else (peristyleref25_Columns.l0 k x0 (wrap64 (x3 + 1)))
end
def peristyleref25_Columns.f (k : Nat) (l0 : List (S96)) : Option (Bool) := peristyleref25_Columns.l0 k l0 0
/-! ### peristyleref25_Projection: function 120 -/
mutual
def peristyleref25_Projection.j0 : Nat → Int → Bool → ByteArray → List Int → Int → Option (Bool)
 | 0, _, _, _, _, _ => none
 | k + 1, x1, x36, x174000, x174001, x174002 => if x36 = true then (some false) else (peristyleref25_Projection.l0 k x1 0 x174000 x174001 x174002)
def peristyleref25_Projection.l0 : Nat → Int → Int → ByteArray → List Int → Int → Option (Bool)
 | 0, _, _, _, _, _ => none
 | k + 1, x1, x5, x174000, x174001, x174002 => if x5 < (x174001.length : Int) then (if 0 ≤ x5 then (if (rd x174001 x5) < 0 then (peristyleref25_Projection.j2 k x1 x5 true x174000 x174001 x174002) else (peristyleref25_Projection.j2 k x1 x5 (decide ((rd x174001 x5) ≥ x1)) x174000 x174001 x174002)) else (none)) else (some true)
def peristyleref25_Projection.j2 : Nat → Int → Int → Bool → ByteArray → List Int → Int → Option (Bool)
 | 0, _, _, _, _, _, _ => none
 | k + 1, x1, x5, x58, x174000, x174001, x174002 => if x58 = true then (some false) else (peristyleref25_Projection.l1 k x1 x5 0 x174000 x174001 x174002)
def peristyleref25_Projection.l1 : Nat → Int → Int → Int → ByteArray → List Int → Int → Option (Bool)
 | 0, _, _, _, _, _, _ => none
 | k + 1, x1, x5, x6, x174000, x174001, x174002 => if x6 < x5 then (if 0 ≤ x6 then (if x6 < (x174001.length : Int) then (if 0 ≤ x5 then (if x5 < (x174001.length : Int) then (if (rd x174001 x6) = (rd x174001 x5) then (some false) else (peristyleref25_Projection.l1 k x1 x5 (wrap64 (x6 + 1)) x174000 x174001 x174002)) else (none)) else (none)) else (none)) else (none)) else (peristyleref25_Projection.l0 k x1 (wrap64 (x5 + 1)) x174000 x174001 x174002)
end
def peristyleref25_Projection.f (k : Nat) (a0_0 : ByteArray) (l0_1 : List Int) (a0_2 : Int) (a1 : Int) : Option (Bool) := (peristyleref25_Name.f k a0_0).bind fun t174 => (if t174 = true then (if (l0_1.length : Int) < 1 then (peristyleref25_Projection.j0 k a1 true a0_0 l0_1 a0_2) else (if (l0_1.length : Int) > a1 then (peristyleref25_Projection.j0 k a1 true a0_0 l0_1 a0_2) else (if a0_2 < 0 then (peristyleref25_Projection.j0 k a1 true a0_0 l0_1 a0_2) else (peristyleref25_Projection.j0 k a1 (decide (a0_2 > (l0_1.length : Int))) a0_0 l0_1 a0_2)))) else (peristyleref25_Projection.j0 k a1 true a0_0 l0_1 a0_2))
/-! ### peristyleref25_table: function 88 -/
mutual
def peristyleref25_table.j0 : Nat → Bool → ByteArray → List (S96) → List (S52) → Option (Bool)
 | 0, _, _, _, _ => none
 | k + 1, x22, x180000, x180001, x180002 => if x22 = true then (some false) else (peristyleref25_table.l0 k false 0 x180000 x180001 x180002)
def peristyleref25_table.l0 : Nat → Bool → Int → ByteArray → List (S96) → List (S52) → Option (Bool)
 | 0, _, _, _, _, _ => none
 | k + 1, x3, x4, x180000, x180001, x180002 => if x4 < (x180002.length : Int) then (if 0 ≤ x4 then ((peristyleref25_Projection.f k ((rd_T52 x180002 x4).f0) ((rd_T52 x180002 x4).f1) ((rd_T52 x180002 x4).f2) (x180001.length : Int)).bind fun t184 => (if t184 = true then (if x3 = true then (peristyleref25_table.j2 k true x4 x180000 x180001 x180002 ((rd_T52 x180002 x4).f0) ((rd_T52 x180002 x4).f1) ((rd_T52 x180002 x4).f2)) else ((peristyleref25_Super.f k x180000 x180001 x180002 ((rd_T52 x180002 x4).f0) ((rd_T52 x180002 x4).f1) ((rd_T52 x180002 x4).f2)).bind fun t185 => (peristyleref25_table.j2 k t185 x4 x180000 x180001 x180002 ((rd_T52 x180002 x4).f0) ((rd_T52 x180002 x4).f1) ((rd_T52 x180002 x4).f2)))) else (some false))) else (none)) else (some x3)
def peristyleref25_table.j2 : Nat → Bool → Int → ByteArray → List (S96) → List (S52) → ByteArray → List Int → Int → Option (Bool)
 | 0, _, _, _, _, _, _, _, _ => none
 | k + 1, x3, x4, x180000, x180001, x180002, x184000, x184001, x184002 => peristyleref25_table.l1 k x3 x4 0 x180000 x180001 x180002 x184000 x184001 x184002
def peristyleref25_table.l1 : Nat → Bool → Int → Int → ByteArray → List (S96) → List (S52) → ByteArray → List Int → Int → Option (Bool)
 | 0, _, _, _, _, _, _, _, _, _ => none
 | k + 1, x3, x4, x6, x180000, x180001, x180002, x184000, x184001, x184002 => if x6 < x4 then (if 0 ≤ x6 then (if x6 < (x180002.length : Int) then (if ((rd_T52 x180002 x6).f0).toList = x184000.toList then (some false) else (peristyleref25_table.l1 k x3 x4 (wrap64 (x6 + 1)) x180000 x180001 x180002 x184000 x184001 x184002)) else (none)) else (none)) else (peristyleref25_table.l0 k x3 (wrap64 (x4 + 1)) x180000 x180001 x180002)
end
def peristyleref25_table.f (k : Nat) (a0_0 : ByteArray) (l0_1 : List (S96)) (l0_2 : List (S52)) : Option (Bool) := (peristyleref25_Name.f k a0_0).bind fun t180 => (if t180 = true then ((peristyleref25_Columns.f k l0_1).bind fun t181 => (if t181 = true then (peristyleref25_table.j0 k (decide ((l0_2.length : Int) > 6)) a0_0 l0_1 l0_2) else (peristyleref25_table.j0 k true a0_0 l0_1 l0_2))) else (peristyleref25_table.j0 k true a0_0 l0_1 l0_2))
end Go.Proofs.Ytgjclhhjigflkac.C

-- written by mkprint.py, a program of this session, over the kit's printer
namespace Go.Proofs.Ytgjclhhjigflkac.C
open Go.RowKit Go.Proofs.YtgjclhhjigflkacW.PrintWords Go.Proofs.YtgjclhhjigflkacW.PrintLast Go.Proofs.YtgjclhhjigflkacW.PrintMore
attribute [local go_sem] max2_int min2_int max_two min_two max_three min_three max_four min_four   -- for this text's walks alone
set_option linter.unusedVariables false
set_option linter.unusedSimpArgs false
/-! ### peristyleref25_May: function 40 -/
mutual
def peristyleref25_May.l0 : Nat → List (S47) → Int → Option (Bool)
 | 0, _, _ => none
 | k + 1, x0, x3 => if x3 < (x0.length : Int) then (if 0 ≤ x3 then ((peristyleref25_table.f k ((rd_T47 x0 x3).f0) ((rd_T47 x0 x3).f1) ((rd_T47 x0 x3).f2)).bind fun t188 => (if t188 = true then (peristyleref25_May.l1 k x0 x3 0) else (some false))) else (none)) else (some (decide ((x0.length : Int) ≤ 8)))
def peristyleref25_May.l1 : Nat → List (S47) → Int → Int → Option (Bool)
 | 0, _, _, _ => none
 | k + 1, x0, x3, x4 => if x4 < x3 then (if 0 ≤ x4 then (if x4 < (x0.length : Int) then (if 0 ≤ x3 then (if x3 < (x0.length : Int) then (if ((rd_T47 x0 x4).f0).toList = ((rd_T47 x0 x3).f0).toList then (some false) else (peristyleref25_May.l1 k x0 x3 (wrap64 (x4 + 1)))) else (none)) else (none)) else (none)) else (none)) else (peristyleref25_May.l0 k x0 (wrap64 (x3 + 1)))
end
end Go.Proofs.Ytgjclhhjigflkac.C

-- written by mkprint.py, a program of this session, over the kit's printer
namespace Go.Proofs.Ytgjclhhjigflkac.C
open Go.RowKit Go.Proofs.YtgjclhhjigflkacW.PrintWords Go.Proofs.YtgjclhhjigflkacW.PrintLast Go.Proofs.YtgjclhhjigflkacW.PrintMore
attribute [local go_sem] max2_int min2_int max_two min_two max_three min_three max_four min_four   -- for this text's walks alone
set_option linter.unusedVariables false
set_option linter.unusedSimpArgs false
/-! ### peristyleref02_Put: function 64 -/
/-! ### peristyleref25_text: function 65 -/
/-! ### peristyleref02_PutAll: function 66 -/
/-! ### peristyleref25_Put: function 27 -/
/-! ### peristyleref02_Take: function 114 -/
-- NOT PRINTED: function 70 (peristyleref25_reader_num)
-- NOT PRINTED: function 115 (peristyleref25_reader_text)
-- NOT PRINTED: function 71 (peristyleref25_reader_one)
end Go.Proofs.Ytgjclhhjigflkac.C

/- Words as lists of bits: what the reference's Zig, Zag, Field and With come to, as numbers; the width of a number. -/
namespace Go.Proofs.Ytgjclhhjigflkac.Vi
set_option linter.unusedVariables false
set_option linter.unusedSimpArgs false
open Go.RowKit Go.Proofs.Ytgjclhhjigflkac.C Go.Proofs.Ytgjclhhjigflkac.EvW Go.Proofs.YtgjclhhjigflkacW.PrintWords Go.Proofs.YtgjclhhjigflkacW.PrintLast Go.Proofs.YtgjclhhjigflkacW.PrintMore
theorem w64 (n : Int) (h0 : -9223372036854775808 ≤ n) (h1 : n ≤ 9223372036854775807) : wrap64 n = n := by unfold wrap64; omega
/-- a word of a number -/
def I (m : Nat) : Int := (BitVec.ofNat 64 m).toInt
/-! the width -/
def WR (w r : Nat) : Prop := w < 2 ^ r ∧ (r = 0 ∨ 2 ^ (r - 1) ≤ w)
theorem shr_u64 (x i : Nat) (hi : i ≤ 64) : shr .u64 (x : Int) (i : Int) = ((x / 2 ^ i : Nat) : Int) := by
  unfold shr
  rw [Int.toNat_natCast, show IntKind.u64.bits = 64 from rfl, Nat.min_eq_left hi]
  rw [Int.natCast_ediv, Int.natCast_pow]
  rfl
theorem width_end (x n w : Nat) (hx : x < 2) (hn : n ≤ 63) (hw : w / 2 ^ n = x) (h1 : 1 ≤ x ∨ n = 0) : ∃ r : Nat, WR w r ∧ r ≤ 64 ∧ Ev (fun k => bits_Width.l0 k (x : Int) (n : Int) 0) (r : Int) := by
  refine ⟨n + x, ?_, by omega, Ev.step (fun k => by rw [bits_Width.l0, if_neg (by decide), w64 (x : Int) (by omega) (by omega), w64 _ (by omega) (by omega), ← Int.natCast_add]) (Ev.now _)⟩
  have hp : 0 < 2 ^ n := Nat.pow_pos (by decide)
  rcases Nat.lt_or_ge x 1 with h | h
  · obtain rfl : x = 0 := by omega
    obtain rfl : n = 0 := by omega
    simp at hw
    exact ⟨by simp; omega, .inl rfl⟩
  · obtain rfl : x = 1 := by omega
    have h2 : 2 ^ (n + 1) = 2 * 2 ^ n := by rw [Nat.pow_succ, Nat.mul_comm]
    refine ⟨?_, .inr ?_⟩
    · rw [h2]
      exact (Nat.div_lt_iff_lt_mul hp).1 (by omega)
    · rw [Nat.add_sub_cancel]
      have := (Nat.le_div_iff_mul_le hp).1 (show 1 ≤ w / 2 ^ n by omega)
      omega
theorem width_l0 (w : Nat) (hw64 : w < 18446744073709551616) (j : Nat) : ∀ (x n : Nat), x < 2 ^ (2 ^ (j + 1)) → n + 2 ^ (j + 1) ≤ 64 → w / 2 ^ n = x → (1 ≤ x ∨ n = 0) →
    ∃ r : Nat, WR w r ∧ r ≤ 64 ∧ Ev (fun k => bits_Width.l0 k (x : Int) (n : Int) ((2 ^ j : Nat) : Int)) (r : Int) := by
  have next : ∀ (x n : Nat) (j : Nat), (∀ (x n : Nat), x < 2 ^ (2 ^ j) → n + 2 ^ j ≤ 64 → w / 2 ^ n = x → (1 ≤ x ∨ n = 0) → ∃ r : Nat, WR w r ∧ r ≤ 64 ∧ Ev (fun k => bits_Width.l0 k (x : Int) (n : Int) ((2 ^ j / 2 : Nat) : Int)) (r : Int)) →
      x < 2 ^ (2 ^ (j + 1)) → n + 2 ^ (j + 1) ≤ 64 → w / 2 ^ n = x → (1 ≤ x ∨ n = 0) → ∃ r : Nat, WR w r ∧ r ≤ 64 ∧ Ev (fun k => bits_Width.l0 k (x : Int) (n : Int) ((2 ^ j : Nat) : Int)) (r : Int) := by
    intro x n j ih hx hn hw h1
    have hp : 0 < 2 ^ j := Nat.pow_pos (by decide)
    have e2 : 2 ^ (j + 1) = 2 ^ j + 2 ^ j := by rw [Nat.pow_succ]; omega
    obtain ⟨i, hi⟩ : ∃ i, 2 ^ j = i := ⟨_, rfl⟩
    rw [e2, hi] at hx hn
    rw [hi] at hp ih ⊢
    have hdiv : x / 2 ^ i = w / 2 ^ (n + i) := by rw [← hw, Nat.div_div_eq_div_mul, ← Nat.pow_add]
    have hlt : x / 2 ^ i < 2 ^ i := (Nat.div_lt_iff_lt_mul (Nat.pow_pos (by decide))).2 (by rw [← Nat.pow_add]; exact hx)
    have ewr : wrap64 (Int.tdiv (i : Int) 2) = ((i / 2 : Nat) : Int) := by
      rw [Int.tdiv_eq_ediv_of_nonneg (by omega), w64 _ (by omega) (by omega)]; omega
    by_cases hs : 1 ≤ x / 2 ^ i
    · obtain ⟨r, h1, h2, h3⟩ := ih (x / 2 ^ i) (n + i) hlt (by omega) hdiv.symm (.inl hs)
      refine ⟨r, h1, h2, Ev.step (fun k => ?_) h3⟩
      rw [bits_Width.l0, if_pos (by omega), if_pos (by omega), shr_u64 x i (by omega), if_pos (by omega), ewr, w64 _ (by omega) (by omega), ← Int.natCast_add]
    · have hx2 : x < 2 ^ i := by
        rcases Nat.lt_or_ge x (2 ^ i) with h | h
        · exact h
        · exact absurd (Nat.div_pos h (Nat.pow_pos (by decide))) hs
      obtain ⟨r, h1, h2, h3⟩ := ih x n hx2 (by omega) hw h1
      refine ⟨r, h1, h2, Ev.step (fun k => ?_) h3⟩
      rw [bits_Width.l0, if_pos (by omega), if_pos (by omega), shr_u64 x i (by omega), if_neg (by omega), ewr]
  induction j with
  | zero => exact fun x n => next x n 0 (fun x n hx hn hw h1 => width_end x n w hx (by simpa using hn) hw h1)
  | succ j ih => exact fun x n => next x n (j + 1) (fun x n hx hn hw h1 => by
      have := ih x n hx hn hw h1
      rw [show 2 ^ (j + 1) / 2 = 2 ^ j by rw [Nat.pow_succ]; omega]
      exact this)
theorem width_ev (w : Nat) (h : w < 18446744073709551616) : ∃ r : Nat, WR w r ∧ r ≤ 64 ∧ Ev (fun k => bits_Width.l0 k (w : Int) 0 32) (r : Int) :=
  width_l0 w h 5 w 0 h (by decide) (by simp) (.inr rfl)
theorem len_of_width (w r : Nat) (hw : w < 18446744073709551616) (h : WR w r) : max 1 ((r + 6) / 7) = (vbu 9 w).length := by
  obtain ⟨l1, l2, l3, l4⟩ := vbu_len 9 w (by rw [p64]; omega)
  obtain ⟨h1, h2⟩ := h
  generalize (vbu 9 w).length = L at *
  have e : ∀ i, 128 ^ i = 2 ^ (7 * i) := fun i => by rw [Nat.pow_mul]
  rw [e] at l3 l4
  have a1 : r ≤ 7 * L := by
    rcases h2 with h2 | h2
    · omega
    · have := (Nat.pow_lt_pow_iff_right (a := 2) (by decide)).1 (Nat.lt_of_le_of_lt h2 l3)
      omega
  rcases l4 with l4 | l4
  · omega
  · have := (Nat.pow_lt_pow_iff_right (a := 2) (by decide)).1 (Nat.lt_of_le_of_lt l4 h1)
    omega
theorem len_ev (n : Int) (h : wf64 n) : Ev (fun k => vint_Len.f k n) ((vbu 9 (zz n)).length : Int) := by
  have hz := zz_lt n h
  obtain ⟨r, h1, h2, h3⟩ := width_ev (zz n) hz
  have hl := len_of_width _ r hz h1
  refine Ev.congr (f := fun k => (bits_Width.f k (zigw n)).bind fun t161 => some (mx 1 (wrap64 (Int.tdiv (wrap64 ((wrap64 (t161 + 7)) - 1)) 7)))) (fun k => rfl) ?_
  refine Ev.bind (a := (r : Int)) (Ev.congr (fun k => by rw [bits_Width.f, zigw_zz n h]) h3) ?_
  refine Ev.congr (fun k => ?_) (Ev.now _)
  rw [w64 ((r : Int) + 7) (by omega) (by omega), w64 ((r : Int) + 7 - 1) (by omega) (by omega), Int.tdiv_eq_ediv_of_nonneg (by omega), w64 (((r : Int) + 7 - 1) / 7) (by omega) (by omega), ← hl]
  unfold mx
  congr 1
  split <;> omega
end Go.Proofs.Ytgjclhhjigflkac.Vi

/- What vint.Take and the reference's Put and Take come to. -/
namespace Go.Proofs.Ytgjclhhjigflkac.Vi
set_option linter.unusedVariables false
set_option linter.unusedSimpArgs false
open Go.RowKit Go.Proofs.Ytgjclhhjigflkac.C Go.Proofs.Ytgjclhhjigflkac.EvW Go.Proofs.YtgjclhhjigflkacW.PrintWords Go.Proofs.YtgjclhhjigflkacW.PrintLast Go.Proofs.YtgjclhhjigflkacW.PrintMore
theorem bt_get (s : ByteArray) (i : Nat) (h : i < s.data.toList.length) : bt s (i : Int) = ((s.data.toList[i]'h).toNat : Int) := by
  have hs : i < s.size := by rw [← data_length]; exact h
  unfold bt
  rw [dif_pos (by simpa using hs)]
  rfl
theorem bt_done (s : ByteArray) (done : List UInt8) (b : UInt8) (rest : List UInt8) (h : s.data.toList = done ++ b :: rest) : bt s (done.length : Int) = (b.toNat : Int) := by
  have hl : done.length < s.data.toList.length := by rw [h]; simp
  rw [bt_get s _ hl]
  congr 2
  simp [h]
theorem andNot_u8 (n : Nat) (h : n < 256) : Go.bits .andNot .u8 (n : Int) 128 = ((n % 128 : Nat) : Int) := by
  have : ∀ n : Fin 256, Go.bits .andNot .u8 ((n.val : Nat) : Int) 128 = ((n.val % 128 : Nat) : Int) := by decide +kernel
  exact this ⟨n, h⟩
theorem acc_step (a v j : Nat) (ha : a < 128 ^ j) (hv : v < 128) (hj : j ≤ 9) : Go.bits .or .u64 (a : Int) (shl .u64 (v : Int) ((7 * j : Nat) : Int)) = (((a + 128 ^ j * v) % 18446744073709551616 : Nat) : Int) := by
  have e7 : 128 ^ j = 2 ^ (7 * j) := by rw [Nat.pow_mul]
  rw [e7] at ha ⊢
  obtain ⟨s, hs⟩ : ∃ s, 7 * j = s := ⟨_, rfl⟩
  rw [hs] at ha ⊢
  have hs63 : s ≤ 63 := by omega
  have e64 : (18446744073709551616 : Nat) = 2 ^ (64 - s) * 2 ^ s := by rw [← Nat.pow_add, show 64 - s + s = 64 by omega]
  have ex : v * 2 ^ s % 18446744073709551616 = v % 2 ^ (64 - s) * 2 ^ s := by rw [e64, Nat.mul_mod_mul_right]
  have eshl : shl .u64 (v : Int) (s : Int) = ((v * 2 ^ s % 18446744073709551616 : Nat) : Int) := by
    unfold shl
    rw [Int.toNat_natCast, show IntKind.u64.bits = 64 from rfl, Nat.min_eq_left (by omega), IntKind.wrap_u64, Int.natCast_emod, Int.natCast_mul, Int.natCast_pow]
    rfl
  have hq : v % 2 ^ (64 - s) < 2 ^ (64 - s) := Nat.mod_lt _ (Nat.pow_pos (by decide))
  obtain ⟨q, hqe⟩ : ∃ q, v % 2 ^ (64 - s) = q := ⟨_, rfl⟩
  rw [hqe] at hq ex
  have hp : (q + 1) * 2 ^ s ≤ 2 ^ (64 - s) * 2 ^ s := Nat.mul_le_mul_right _ hq
  rw [← e64, Nat.add_mul, Nat.one_mul] at hp
  have ha2 : a < 18446744073709551616 := by omega
  rw [eshl, bits_join_low .u64 64 (by decide) wraps_u64 s (a : Int) _ (by omega) (by exact_mod_cast ha) (by exact_mod_cast ha2) (by omega) (by rw [ex]; exact_mod_cast Nat.mul_mod_left q (2 ^ s)) (by have := Nat.mod_lt (v * 2 ^ s) (show 0 < 18446744073709551616 by decide); exact_mod_cast this)]
  rw [← Int.natCast_add]
  congr 1
  rw [Nat.mul_comm (2 ^ s) v]
  omega
theorem dec_snoc (done : List UInt8) (b : UInt8) : dec (done ++ [b]) = dec done + 128 ^ done.length * (b.toNat % 128) := by
  rw [dec_append]
  simp [dec]
theorem pos_of_ne {b : UInt8} (h : b ≠ 0) : 1 ≤ b.toNat := by
  rcases Nat.eq_zero_or_pos b.toNat with h' | h'
  · exact absurd (UInt8.toNat_inj.1 (by rw [h']; rfl)) h
  · exact h'
theorem dec_big (done : List UInt8) (hl : done.length ≤ 8) (b : UInt8) : dec (done ++ [b]) < 9223372036854775808 := by
  have h1 := dec_lt (done ++ [b])
  have h2 : 128 ^ (done ++ [b]).length ≤ 128 ^ 9 := Nat.pow_le_pow_right (by decide) (by simp; omega)
  have h3 : (128 : Nat) ^ 9 = 9223372036854775808 := by decide
  omega
theorem cond_iff (done : List UInt8) (b : UInt8) (h : ∀ c ∈ done, 128 ≤ c.toNat) (hb : b.toNat < 128) (hl : done.length ≤ 9) :
    ((vbu 9 (dec (done ++ [b]) % 18446744073709551616)).length = done.length + 1 ∧ (done.length < 9 ∨ b.toNat = 1)) ↔ ((done = [] ∨ b ≠ 0) ∧ dec (done ++ [b]) < 18446744073709551616) := by
  have h9 : (128 : Nat) ^ 9 = 9223372036854775808 := by decide
  constructor
  · rintro ⟨h1, h2⟩
    rcases Nat.lt_or_ge done.length 9 with h8 | h8
    · have hd := dec_big done (by omega) b
      refine ⟨?_, by omega⟩
      rw [Nat.mod_eq_of_lt (by omega)] at h1
      by_cases hd0 : done = []
      · exact .inl hd0
      · refine .inr fun hb0 => ?_
        subst hb0
        have hd2 := dec_lt done
        have e : dec (done ++ [0]) = dec done := by rw [dec_snoc]; simp
        rw [e] at h1
        have hl1 : 1 ≤ done.length := by
          rcases Nat.eq_zero_or_pos done.length with h' | h'
          · exact absurd (List.length_eq_zero_iff.1 h') hd0
          · exact h'
        obtain ⟨l1, l2, l3, l4⟩ := vbu_len 9 (dec done) (by rw [p64]; omega)
        rw [h1] at l4
        rcases l4 with l4 | l4
        · omega
        · rw [Nat.add_sub_cancel] at l4
          omega
    · have e9 : done.length = 9 := by omega
      have hb1 : b.toNat = 1 := h2.resolve_left (by omega)
      have hd2 := dec_lt done
      rw [dec_snoc, e9, hb1]
      rw [e9] at hd2
      rw [h9] at hd2 ⊢
      refine ⟨.inr fun hb0 => ?_, by omega⟩
      subst hb0
      exact absurd hb1 (by decide)
  · rintro ⟨h1, h2⟩
    rw [Nat.mod_eq_of_lt h2, canon 9 done b h hb hl h1]
    refine ⟨by simp, ?_⟩
    rcases Nat.lt_or_ge done.length 9 with h8 | h8
    · exact .inl h8
    · have e9 : done.length = 9 := by omega
      have hb0 : b ≠ 0 := h1.resolve_left (fun h' => by rw [h'] at e9; simp at e9)
      have := pos_of_ne hb0
      rw [dec_snoc, e9, h9] at h2
      exact .inr (by omega)
/-! vint.Take -/
theorem take_l0 (s : ByteArray) (m : Int) (hm : m = mn (s.size : Int) 10) : ∀ (rest done : List UInt8), s.data.toList = done ++ rest → (∀ c ∈ done, 128 ≤ c.toNat) → done.length ≤ 10 →
    Ev (fun k => vint_Take.l0 k s ((dec done % 18446744073709551616 : Nat) : Int) m (done.length : Int)) (takeS done rest) := by
  intro rest
  induction rest with
  | nil =>
    intro done h1 h2 h3
    have hs : (s.size : Int) = (done.length : Int) := by rw [← data_length, h1]; simp
    refine Ev.step (fun k => ?_) (Ev.now _)
    rw [vint_Take.l0, if_neg (by rw [hm, hs]; unfold mn; split <;> omega)]
    rfl
  | cons b rest ih =>
    intro done h1 h2 h3
    have hs : (s.size : Int) = (done.length : Int) + 1 + (rest.length : Int) := by rw [← data_length, h1]; simp; omega
    have hbt := bt_done s done b rest h1
    have hb := b.toNat_lt
    rw [takeS]
    by_cases h10 : 10 ≤ done.length
    · rw [if_pos h10]
      refine Ev.step (fun k => ?_) (Ev.now _)
      rw [vint_Take.l0, if_neg (by rw [hm, hs]; unfold mn; split <;> omega)]
    · rw [if_neg h10]
      have hd := dec_lt done
      have hdm : dec done < 18446744073709551616 := by
        have h2 : 128 ^ done.length ≤ 128 ^ 9 := Nat.pow_le_pow_right (by decide) (by omega)
        have h3 : (128 : Nat) ^ 9 = 9223372036854775808 := by decide
        omega
      have hacc : Go.bits .or .u64 ((dec done % 18446744073709551616 : Nat) : Int) (shl .u64 (IntKind.u64.wrap (Go.bits .andNot .u8 (b.toNat : Int) 128)) (wrap64 (7 * (done.length : Int)))) = ((dec (done ++ [b]) % 18446744073709551616 : Nat) : Int) := by
        rw [andNot_u8 _ hb, Nat.mod_eq_of_lt hdm, uw _ (by omega) (by omega), w64 _ (by omega) (by omega), show (7 : Int) * (done.length : Int) = ((7 * done.length : Nat) : Int) by omega, acc_step _ _ _ hd (by omega) (by omega), dec_snoc]
      have hstep : ∀ k, vint_Take.l0 (k + 1) s ((dec done % 18446744073709551616 : Nat) : Int) m (done.length : Int) =
          (if (b.toNat : Int) ≥ 128 then (vint_Take.l0 k s ((dec (done ++ [b]) % 18446744073709551616 : Nat) : Int) m ((done.length : Int) + 1)) else ((bits_Zag.f (wrap64 ((dec (done ++ [b]) % 18446744073709551616 : Nat) : Int))).bind fun t162 => ((vint_Len.f k t162).bind fun t163 => (if t163 = (done.length : Int) + 1 then (if (done.length : Int) < 9 then (some (t162, (done.length : Int) + 1, 0)) else (if (b.toNat : Int) = 1 then (some (t162, (done.length : Int) + 1, 0)) else (some (0, 0, 20)))) else (some (0, 0, 20)))))) := by
        intro k
        rw [vint_Take.l0, hbt, hacc, w64 ((done.length : Int) + 1) (by omega) (by omega), if_pos (by rw [hm, hs]; unfold mn; split <;> omega), if_pos (by omega), if_pos (by omega), if_pos (by rw [w64 _ (by omega) (by omega)]; omega)]
      by_cases hc : 128 ≤ b.toNat
      · rw [if_pos hc]
        have := ih (done ++ [b]) (by rw [h1]; simp) (by intro c hc'; rcases List.mem_append.1 hc' with hc' | hc'; exact h2 c hc'; simp at hc'; subst hc'; exact hc) (by simp; omega)
        refine Ev.step (fun k => ?_) this
        rw [hstep, if_pos (by omega), List.length_append]
        rfl
      · rw [if_neg hc]
        have hW : dec (done ++ [b]) % 18446744073709551616 < 18446744073709551616 := Nat.mod_lt _ (by decide)
        have hzag : bits_Zag.f (wrap64 ((dec (done ++ [b]) % 18446744073709551616 : Nat) : Int)) = some (uz (dec (done ++ [b]) % 18446744073709551616)) := by
          rw [bits_Zag.f, zag_uz _ hW _ (wrap_wrap _ hW)]
        have hiff := cond_iff done b h2 (by omega) (by omega)
        have hlen := len_ev (uz (dec (done ++ [b]) % 18446744073709551616)) (uz_wf _ hW)
        rw [zz_uz] at hlen
        refine Ev.step (f := fun k => (vint_Len.f k (uz (dec (done ++ [b]) % 18446744073709551616))).bind fun t163 => (if t163 = (done.length : Int) + 1 then (if (done.length : Int) < 9 then (some (uz (dec (done ++ [b]) % 18446744073709551616), (done.length : Int) + 1, 0)) else (if (b.toNat : Int) = 1 then (some (uz (dec (done ++ [b]) % 18446744073709551616), (done.length : Int) + 1, 0)) else (some (0, 0, 20)))) else (some (0, 0, 20)))) (fun k => ?_) (Ev.bind hlen ?_)
        · rw [hstep, if_neg (by omega), hzag]
          rfl
        · by_cases hC : (done = [] ∨ b ≠ 0) ∧ dec (done ++ [b]) < 18446744073709551616
          · obtain ⟨g1, g2⟩ := hiff.2 hC
            rw [if_pos hC]
            refine Ev.congr (fun k => ?_) (Ev.now _)
            rw [if_pos (by omega)]
            rw [Nat.mod_eq_of_lt hC.2]
            by_cases h9 : done.length < 9
            · rw [if_pos (by omega)]
            · rw [if_neg (by omega), if_pos (by omega)]
          · rw [if_neg hC]
            refine Ev.congr (fun k => ?_) (Ev.now _)
            by_cases g1 : (vbu 9 (dec (done ++ [b]) % 18446744073709551616)).length = done.length + 1
            · have g2 : ¬ (done.length < 9 ∨ b.toNat = 1) := fun g => hC (hiff.1 ⟨g1, g⟩)
              rw [if_pos (by omega), if_neg (by omega), if_neg (by omega)]
            · rw [if_neg (by omega)]
theorem take_ev (s : ByteArray) : Ev (fun k => vint_Take.f k s) (takeS [] s.data.toList) := by
  have := take_l0 s _ rfl s.data.toList [] rfl (by simp) (by simp)
  exact Ev.congr (fun k => rfl) this
/-! the reference's Put -/
/-! the reference's Take -/
end Go.Proofs.Ytgjclhhjigflkac.Vi

/- What a call may turn: blocks of a set, and what is new. The reader in memory. -/
namespace Go.Proofs.Ytgjclhhjigflkac.Sc
open Go Go.RowKit Go.Proofs.Ytgjclhhjigflkac.C Go.Proofs.Ytgjclhhjigflkac.MyWords Go.Proofs.Ytgjclhhjigflkac.Hand Go.Proofs.Ytgjclhhjigflkac.Vi Go.Proofs.YtgjclhhjigflkacW.PrintWords Go.Proofs.YtgjclhhjigflkacW.PrintLast Go.Proofs.YtgjclhhjigflkacW.PrintMore
set_option linter.unusedVariables false
set_option linter.unusedSimpArgs false
abbrev TR : Nat := 119
/-- nothing but blocks of ok, and what is new, has turned -/
structure Chg (w w' : World) (ok : Nat → Prop) : Prop where
  os : w'.os = w.os
  tape : w'.tape = w.tape
  output : w'.output = w.output
  size : w.heap.size ≤ w'.heap.size
  block : ∀ k, k < w.heap.size → ¬ ok k → w'.heap[k]? = w.heap[k]?
namespace Chg
variable {w w1 w2 : World} {ok ok' : Nat → Prop}
theorem refl (w : World) (ok : Nat → Prop) : Chg w w ok := ⟨rfl, rfl, rfl, Nat.le_refl _, fun _ _ _ => rfl⟩
theorem trans (h : Chg w w1 ok) (k : Chg w1 w2 ok) : Chg w w2 ok :=
  ⟨k.os.trans h.os, k.tape.trans h.tape, k.output.trans h.output, Nat.le_trans h.size k.size, fun i hi ho => (k.block i (Nat.lt_of_lt_of_le hi h.size) ho).trans (h.block i hi ho)⟩
theorem mono (h : Chg w w1 ok) (ho : ∀ k, k < w.heap.size → ok k → ok' k) : Chg w w1 ok' := ⟨h.os, h.tape, h.output, h.size, fun i hi hn => h.block i hi (fun hk => hn (ho i hi hk))⟩
/-- what is new since w may be turned, too -/
theorem then_ (h : Chg w w1 ok) (k : Chg w1 w2 ok') (ho : ∀ i, i < w.heap.size → ok' i → ok i) : Chg w w2 ok :=
  ⟨k.os.trans h.os, k.tape.trans h.tape, k.output.trans h.output, Nat.le_trans h.size k.size, fun i hi hn => (k.block i (Nat.lt_of_lt_of_le hi h.size) (fun hk => hn (ho i hi hk))).trans (h.block i hi hn)⟩
theorem of_below (h : Below w.heap.size w w1) : Chg w w1 ok := ⟨h.os, h.tape, h.output, h.size, fun i hi _ => h.block i hi⟩
theorem of_grown {row : Option Nat} (h : w.grownBy w1 row) (ho : ∀ k, row = some k → ok k) : Chg w w1 ok := ⟨h.os, h.tape, h.output, h.size, fun i hi hn => h.block i hi (fun e => hn (ho i e.symm))⟩
theorem setCell (w : World) (g j : Nat) (v : Value) (ho : ok g) : Chg w (w.setCell ⟨g, j, none⟩ v) ok :=
  of_grown (row := some g) ⟨rfl, rfl, rfl, by simp, fun i _ hi => heap_setCell_other w _ i v (fun e => hi (by rw [e]))⟩ (fun k e => by injection e with e; exact e ▸ ho)
theorem drew (w : World) (ok : Nat → Prop) : Chg w w.drew ok := ⟨rfl, rfl, rfl, Nat.le_refl _, fun _ _ _ => rfl⟩
theorem below {w0 : World} {B : Nat} (h : Chg w w1 ok) (hb : Below B w0 w) (hB : B ≤ w.heap.size) (ho : ∀ k, ok k → B ≤ k) : Below B w0 w1 :=
  hb.trans ⟨h.os, h.tape, h.output, h.size, fun i hi => h.block i (Nat.lt_of_lt_of_le hi hB) (fun hk => by have := ho i hk; omega)⟩
theorem keep {k : Nat} {o : Obj} (h : Chg w w1 ok) (hk : w.heap[k]? = some o) (ho : ¬ ok k) : w1.heap[k]? = some o := (h.block k (Array.getElem?_eq_some_iff.1 hk).1 ho).trans hk
theorem set {g i : Nat} {v : Value} {cs : Array Value} {t : TypeId} (h : CellSet w w1 g i v cs t) (hb : Below 0 w w1) (ho : ok g) : Chg w w1 ok := ⟨hb.os, hb.tape, hb.output, hb.size, fun k hk hn => h.other k (fun e => hn (e ▸ ho))⟩
end Chg
/-- a reader in block g -/
def Rd (T : Nat) (w : World) (g : Nat) (s : ByteArray) (x : RS) : Prop := w.heap[g]? = some (.cells #[.string s, .int .i64 (x.at_ : Int), .bool x.bad] T (0, 0)) ∧ x.at_ ≤ s.size
theorem Rd.keep {T : Nat} {w w1 : World} {g : Nat} {s : ByteArray} {x : RS} {ok : Nat → Prop} (h : Rd T w g s x) (hc : Chg w w1 ok) (ho : ¬ ok g) : Rd T w1 g s x := ⟨hc.keep h.1 ho, h.2⟩
theorem Rd.lt {T : Nat} {w : World} {g : Nat} {s : ByteArray} {x : RS} (h : Rd T w g s x) : g < w.heap.size := (Array.getElem?_eq_some_iff.1 h.1).1
theorem Rd.below {T : Nat} {w w1 : World} {g : Nat} {s : ByteArray} {x : RS} (h : Rd T w g s x) (hb : Below w.heap.size w w1) : Rd T w1 g s x := ⟨(hb.block g h.lt).trans h.1, h.2⟩
theorem ext_tk (s : ByteArray) (p : Nat) : takeS [] (s.extract p s.size).data.toList = tk s p := by
  unfold tk
  congr 1
  rw [ByteArray.data_extract, Array.toList_extract, List.extract_eq_take_drop]
  exact List.take_of_length_le (Nat.le_of_eq (by rw [List.length_drop, data_length]))
end Go.Proofs.Ytgjclhhjigflkac.Sc

/- The builder that a schema.writer embeds: the walks of strings.Builder's copyCheck, WriteString, String at it. (Written by genbuild.py.) -/
namespace Go.Proofs.Ytgjclhhjigflkac.Sc
open Go Go.RowKit Go.Proofs.Ytgjclhhjigflkac.C Go.Proofs.Ytgjclhhjigflkac.MyWords Go.Proofs.YtgjclhhjigflkacW.PrintWords Go.Proofs.YtgjclhhjigflkacW.PrintLast Go.Proofs.YtgjclhhjigflkacW.PrintMore
set_option linter.unusedVariables false
set_option linter.unusedSimpArgs false
abbrev TWr : Nat := 110
/-- a builder at block b, of the caller's own (from B on), that holds these cells -/
abbrev Bld (B b : Nat) (bs : List Value) (w : World) : Prop := Lib.IsBuilder TWr 5 B b bs w
theorem bldInfo : ∃ j, Try.prog.info? 108 = some j ∧ j.size = 2 := by
  have h : (Try.prog.info? 108).map (fun j => j.size) = some 2 := by kernel_rfl
  obtain ⟨j, h1, h2⟩ := Option.map_eq_some_iff.1 h
  exact ⟨j, h1, h2⟩
set_option maxHeartbeats 1000000 in
set_option maxRecDepth 100000 in
theorem copyCheck_used (b : Nat) (w : World) (h0 : w.cell? ⟨b, 0, none⟩ = some (.pointer (some ⟨b, 0, none⟩))) :
    Calls Try.prog 129 #[.pointer (some ⟨b, 0, none⟩)] w fun e w' => e = .returned (.tuple #[]) ∧ w = w' := by
  obtain ⟨j, hj, _⟩ := bldInfo
  have hn := fun w => Lib.run_neq_ptr_same (P := Try.prog) w ⟨b, 0, none⟩ Try.underlying105 hj
  go_enter Try.func129, Try.ntmps129
  go_wp2
  go_end0
  exact ⟨rfl, rfl⟩
set_option maxHeartbeats 1000000 in
set_option maxRecDepth 100000 in
theorem copyCheck_fresh (b : Nat) (w : World) (h0 : w.cell? ⟨b, 0, none⟩ = some (.pointer none)) (hsh : w.shape? b = some (TWr, 2)) (hfz : w.frozen? ⟨b, 0, none⟩ = false) :
    Calls Try.prog 129 #[.pointer (some ⟨b, 0, none⟩)] w fun e w' => e = .returned (.tuple #[]) ∧ w' = w.setCell ⟨b, 0, none⟩ (.pointer (some ⟨b, 0, none⟩)) := by
  obtain ⟨j, hj, hjs⟩ := bldInfo
  have hto := Lib.run_to_unsafe (P := Try.prog) (e := TWr) (cells := 2) w ⟨b, 0, none⟩ Try.underlying105 Try.underlying193 hj (by rw [hjs]; decide) hsh (Nat.zero_lt_succ 1)
  have hfrom := Lib.run_from_unsafe (P := Try.prog) (e := TWr) (cells := 2) w ⟨b, 0, none⟩ Try.underlying193 Try.underlying105 hj hsh (by kernel_rfl)
  have hno : (callFunc 151 #[.pointer (some ⟨b, 0, none⟩)]).run Try.prog w = Result.ok (Next.value (.pointer (some ⟨b, 0, none⟩))) w := by
    rw [run_callFunc_extern Try.func151 (by kernel_rfl) (by kernel_rfl) (by kernel_rfl) (e := Extern.AbiNoEscape.same) (by kernel_rfl), Lib.run_noEscape]
    rfl
  go_enter Try.func129, Try.ntmps129
  go_wp2
  go_end0
  exact ⟨rfl, rfl⟩
theorem copyCheck_calls (B b : Nat) (bs : List Value) (w : World) (h : Bld B b bs w) :
    Calls Try.prog 129 #[.pointer (some ⟨b, 0, none⟩)] w fun e w' => e = .returned (.tuple #[]) ∧ Lib.BuilderAt TWr 5 B b (.pointer (some ⟨b, 0, none⟩)) bs w' ∧ Below B w w' := by
  rcases h with h | h
  · refine (copyCheck_fresh b w h.cell0 h.shape h.frozen0).mono ?_
    rintro e w' ⟨rfl, rfl⟩
    exact ⟨rfl, h.used _, (Below.refl B w).setCell (p := ⟨b, 0, none⟩) h.1 _⟩
  · refine (copyCheck_used b w h.cell0).mono ?_
    rintro e w' ⟨rfl, rfl⟩
    exact ⟨rfl, h, Below.refl B _⟩
/-- the blocks that are neither a builder's nor bytes stay -/
def Others (w w' : World) : Prop := ∀ (g : Nat) (cs : Array Value) (T : TypeId) (fz : Nat × Nat), w.heap[g]? = some (.cells cs T fz) → T ≠ 5 → T ≠ TWr → w'.heap[g]? = some (.cells cs T fz)
theorem Others.trans {a b c : World} (h : Others a b) (k : Others b c) : Others a c := fun g cs T fz hg h1 h2 => k g cs T fz (h g cs T fz hg h1 h2) h1 h2
theorem Others.set {w : World} {b i : Nat} {v : Value} {cs : Array Value} {fz : Nat × Nat} (hb : w.heap[b]? = some (.cells cs TWr fz)) : Others w (w.setCell ⟨b, i, none⟩ v) := by
  intro g cs' T fz' hg h1 h2
  have hne : g ≠ b := by
    rintro rfl
    rw [hg] at hb
    injection hb with hb
    injection hb with _ hb
    exact h2 hb
  exact (Below.heap_setCell w _ v g hne).trans hg
theorem copyCheck_calls2 (B b : Nat) (bs : List Value) (w : World) (h : Bld B b bs w) :
    Calls Try.prog 129 #[.pointer (some ⟨b, 0, none⟩)] w fun e w' => e = .returned (.tuple #[]) ∧ Lib.BuilderAt TWr 5 B b (.pointer (some ⟨b, 0, none⟩)) bs w' ∧ Below B w w' ∧ Others w w' := by
  rcases h with h | h
  · refine (copyCheck_fresh b w h.cell0 h.shape h.frozen0).mono ?_
    rintro e w' ⟨rfl, rfl⟩
    refine ⟨rfl, h.used _, (Below.refl B w).setCell (p := ⟨b, 0, none⟩) h.1 _, ?_⟩
    obtain ⟨_, v, hb, _⟩ := h
    exact Others.set hb
  · refine (copyCheck_used b w h.cell0).mono ?_
    rintro e w' ⟨rfl, rfl⟩
    exact ⟨rfl, h, Below.refl B _, fun _ _ _ _ hg _ _ => hg⟩
theorem infoByte : (Try.prog.info? 5).map (fun i => (i.zero, i.size, i.bytes)) = some (some (.int .u8 0), 1, 1) := by kernel_rfl
set_option maxHeartbeats 2000000 in
set_option maxRecDepth 100000 in
theorem bld_WriteString (B b : Nat) (bs : List Value) (s : ByteArray) (w : World) (h : Bld B b bs w) (hlen : bs.length + s.size ≤ 140737488355328) (hBw : B ≤ w.heap.size) :
    Calls Try.prog 96 #[.pointer (some ⟨b, 0, none⟩), .string s] w fun e w' => e = .returned (.tuple #[.int .i64 s.size, .nilIface]) ∧ Bld B b (bs ++ Lib.strCells s) w' ∧ Below B w w' := by
  obtain ⟨i0, hi, hz0, hz1, hz2⟩ := info_parts infoByte
  go_enter Try.func96, Try.ntmps96
  go_wp2_with fail
  refine (copyCheck_calls B b bs w h).mono ?_
  rintro e w1 ⟨rfl, ⟨hB, v, hbk, hown, hne⟩, hb1⟩
  have hsz := hb1.size
  have c0 : w1.cell? ⟨b, 0, none⟩ = some (.pointer (some ⟨b, 0, none⟩)) := by rw [Lib.cell_of_heap hbk]; rfl
  have c1 : w1.cell? ⟨b, 1, none⟩ = some v := by rw [Lib.cell_of_heap hbk]; rfl
  have hlt : b < w1.heap.size := blk_lt hbk
  go_wp2_with (at_builtin; refine Lib.wpList_append_own_string _ rfl _ _ 106 9 rfl B 5 i0 Try.underlying106 Try.underlying9 hi hz0 hz1 hz2 _ _ _ rfl hown s rfl ?c3 ?c4 ?c5 ?_)
  case c3 => unfold maxLen; omega
  case c4 => omega
  case c5 => omega
  intro v' w2 hown' hgrow _
  have hb2 : w2.heap[b]? = some (.cells #[.pointer (some ⟨b, 0, none⟩), v] TWr (0, 0)) := (hgrow.block b hlt (fun e => hne e.symm)).trans hbk
  have d0 : w2.cell? ⟨b, 0, none⟩ = some (.pointer (some ⟨b, 0, none⟩)) := by rw [Lib.cell_of_heap hb2]; rfl
  have d1 : w2.cell? ⟨b, 1, none⟩ = some v := by rw [Lib.cell_of_heap hb2]; rfl
  have f1 : w2.frozen? ⟨b, 1, none⟩ = false := Lib.frozen_of_heap hb2 1
  have hb3 : Below B w w2 := hb1.grown hgrow (by omega) (fun k hk => (hown.lt k hk).1)
  have hput := fun v'' (e : v'' = v') => Lib.BuilderAt.put (T := TWr) (e := 5) hB hb2 (bs' := bs ++ Lib.strCells s) (v' := v'') (by rw [List.length_append, Lib.strCells_length, e]; exact hown') (by decide)
  obtain ⟨ao, cap, rfl⟩ := own_slice hown'
  clear hown' hgrow hown
  have HP := Aside0.mk (hput _ rfl)
  clear hput
  go_wp2
  go_ret2
  exact ⟨rfl, .inr HP.out, hb3.setCell (p := ⟨b, 1, none⟩) hB _⟩
set_option maxHeartbeats 2000000 in
set_option maxRecDepth 100000 in
theorem bld_WriteString2 (B b : Nat) (bs : List Value) (s : ByteArray) (w : World) (h : Bld B b bs w) (hlen : bs.length + s.size ≤ 140737488355328) (hBw : B ≤ w.heap.size) :
    Calls Try.prog 96 #[.pointer (some ⟨b, 0, none⟩), .string s] w fun e w' => e = .returned (.tuple #[.int .i64 s.size, .nilIface]) ∧ Bld B b (bs ++ Lib.strCells s) w' ∧ Below B w w' ∧ Others w w' := by
  obtain ⟨i0, hi, hz0, hz1, hz2⟩ := info_parts infoByte
  go_enter Try.func96, Try.ntmps96
  go_wp2_with fail
  refine (copyCheck_calls2 B b bs w h).mono ?_
  rintro e w1 ⟨rfl, ⟨hB, v, hbk, hown, hne⟩, hb1, ho1⟩
  have HO1 := Aside0.mk ho1
  clear ho1
  have hsz := hb1.size
  have c0 : w1.cell? ⟨b, 0, none⟩ = some (.pointer (some ⟨b, 0, none⟩)) := by rw [Lib.cell_of_heap hbk]; rfl
  have c1 : w1.cell? ⟨b, 1, none⟩ = some v := by rw [Lib.cell_of_heap hbk]; rfl
  have hlt : b < w1.heap.size := blk_lt hbk
  go_wp2_with (at_builtin; refine Lib.wpList_append_own_string _ rfl _ _ 106 9 rfl B 5 i0 Try.underlying106 Try.underlying9 hi hz0 hz1 hz2 _ _ _ rfl hown s rfl ?c3 ?c4 ?c5 ?_)
  case c3 => unfold maxLen; omega
  case c4 => omega
  case c5 => omega
  intro v' w2 hown' hgrow _
  have hb2 : w2.heap[b]? = some (.cells #[.pointer (some ⟨b, 0, none⟩), v] TWr (0, 0)) := (hgrow.block b hlt (fun e => hne e.symm)).trans hbk
  have d0 : w2.cell? ⟨b, 0, none⟩ = some (.pointer (some ⟨b, 0, none⟩)) := by rw [Lib.cell_of_heap hb2]; rfl
  have d1 : w2.cell? ⟨b, 1, none⟩ = some v := by rw [Lib.cell_of_heap hb2]; rfl
  have f1 : w2.frozen? ⟨b, 1, none⟩ = false := Lib.frozen_of_heap hb2 1
  have hb3 : Below B w w2 := hb1.grown hgrow (by omega) (fun k hk => (hown.lt k hk).1)
  have hput := fun v'' (e : v'' = v') => Lib.BuilderAt.put (T := TWr) (e := 5) hB hb2 (bs' := bs ++ Lib.strCells s) (v' := v'') (by rw [List.length_append, Lib.strCells_length, e]; exact hown') (by decide)
  have HO2 : Aside0 (Others w1 w2) := ⟨fun g cs T fz hg h1 h2 => (hgrow.block g (blk_lt hg) (fun e => by
    obtain ⟨cells, hc⟩ := own_typed hown g e.symm
    rw [hg] at hc
    injection hc with hc
    injection hc with _ hc
    exact h1 hc)).trans hg⟩
  have HO3 := Aside0.mk ((HO1.out.trans HO2.out).trans (Others.set (i := 1) (v := v') hb2))
  clear HO1 HO2
  obtain ⟨ao, cap, rfl⟩ := own_slice hown'
  clear hown' hgrow hown
  have HP := Aside0.mk (hput _ rfl)
  clear hput
  go_wp2
  go_ret2
  exact ⟨rfl, .inr HP.out, hb3.setCell (p := ⟨b, 1, none⟩) hB _, HO3.out⟩
theorem bld_new (w : World) : Bld w.heap.size w.heap.size (Lib.byteCells []) (w.alloc (.cells #[.pointer none, .slice none 0 0] TWr)) := Lib.fresh_isBuilder _ _ w
theorem bld_below {B b : Nat} {bs : List Value} {w w1 : World} (h : Bld B b bs w) (hb : Below w.heap.size w w1) : Bld B b bs w1 := by
  have go : ∀ p, Lib.BuilderAt TWr 5 B b p bs w → Lib.BuilderAt TWr 5 B b p bs w1 := by
    rintro p ⟨hB, v, hk, ho, hn⟩
    exact ⟨hB, v, blk_below hk hb, pw_own_below ho hb, hn⟩
  rcases h with h | h
  · exact .inl (go _ h)
  · exact .inr (go _ h)
set_option maxHeartbeats 4000000 in
set_option maxRecDepth 100000 in
theorem bld_String (B b : Nat) (l : List UInt8) (w : World) (h : Bld B b (Lib.byteCells l) w) (h0 : l ≠ []) :
    Calls Try.prog 63 #[.pointer (some ⟨b, 0, none⟩)] w fun e w' => e = .returned (.string ⟨l.toArray⟩) ∧ Below B w w' := by
  obtain ⟨p, hB, v, hbk, hown, hne⟩ : ∃ p, Lib.BuilderAt TWr 5 B b p (Lib.byteCells l) w := by
    rcases h with h | h
    · exact ⟨_, h⟩
    · exact ⟨_, h⟩
  have hl0 : l.length ≠ 0 := by simpa using h0
  rw [Lib.byteCells_length] at hown
  obtain ⟨g, cap, cur, rfl, hbg, hg, hnc, hcm, hcs, htake⟩ : ∃ g cap cur, v = .slice (some ⟨g, 0, none⟩) l.length cap ∧ B ≤ g ∧ w.heap[g]? = some (.cells cur 5 (0, 0)) ∧ l.length ≤ cap ∧ cap ≤ maxLen ∧ cur.size = cap * 1 ∧ cur.toList.take (l.length * 1) = Lib.byteCells l := by
    rcases hown.2 with ⟨_, hz⟩ | ⟨g, cap, cur, hv, r⟩
    · exact absurd hz hl0
    · exact ⟨g, cap, cur, hv, r⟩
  have c1 : w.drew.cell? ⟨b, 1, none⟩ = some (.slice (some ⟨g, 0, none⟩) l.length cap) := by
    have : w.drew.heap[b]? = some (.cells #[p, .slice (some ⟨g, 0, none⟩) l.length cap] TWr (0, 0)) := hbk
    rw [Lib.cell_of_heap this]; rfl
  have hSD : (Builtin.unsafeSliceData_ #[106] 157 #[.slice (some ⟨g, 0, none⟩) l.length cap]).run Try.prog w.drew = .ok (.pointer (some ⟨g, 0, none⟩)) w.drew :=
    Lib.run_unsafeSliceData_row _ _ _ _ _ _ (by omega)
  have hUS : (Builtin.unsafeString_ #[157, 3] 9 #[.pointer (some ⟨g, 0, none⟩), .int .i64 l.length]).run Try.prog w.drew = .ok (.string ⟨l.toArray⟩) (w.drew.freeze ⟨g, 0, none⟩ l.length) := by
    refine Lib.run_unsafeString_row w.drew 157 3 9 5 Try.underlying157 (by kernel_rfl) g cur.size (by have hg' : w.drew.heap[g]? = some (.cells cur 5 (0, 0)) := hg; simp [World.shape?, hg']) l h0 (by omega) (by unfold maxLen at hcm; omega) ?_
    intro j x hx
    exact hown.cells (g := g) rfl j (.int .u8 x.toNat) (by simp [Lib.byteCells, hx])
  have mixed : Try.prog.follows .mixedOrders = true := by kernel_rfl
  go_enter Try.func63, Try.ntmps63
  go_wp2
  go_region_o
  all_goals (go_wp2; go_ret; exact ⟨rfl, Lib.below_freeze (Below.drew (Below.refl B w)) (p := ⟨g, 0, none⟩) hbg _⟩)
end Go.Proofs.Ytgjclhhjigflkac.Sc

/- The walks of schema.writer's nums and name. -/
namespace Go.Proofs.Ytgjclhhjigflkac.Sc
open Go Go.RowKit Go.Proofs.Ytgjclhhjigflkac.C Go.Proofs.Ytgjclhhjigflkac.MyWords Go.Proofs.Ytgjclhhjigflkac.Hand Go.Proofs.Ytgjclhhjigflkac.Vi Go.Proofs.YtgjclhhjigflkacW.PrintWords Go.Proofs.YtgjclhhjigflkacW.PrintLast Go.Proofs.YtgjclhhjigflkacW.PrintMore
set_option linter.unusedVariables false
set_option linter.unusedSimpArgs false
/-- what stays while a writer is written: blocks below B, and blocks that are neither bytes nor a writer -/
def Safe (B : Nat) (w : World) (k : Nat) : Prop := k < B ∨ ∃ cs T fz, w.heap[k]? = some (.cells cs T fz) ∧ T ≠ 5 ∧ T ≠ TWr
theorem Safe.keep {B k : Nat} {w w1 : World} (h : Safe B w k) (hb : Below B w w1) (ho : Others w w1) : w1.heap[k]? = w.heap[k]? := by
  rcases h with h | ⟨cs, T, fz, h1, h2, h3⟩
  · exact hb.block k h
  · rw [h1]; exact ho k cs T fz h1 h2 h3
theorem Others.of_below {w w1 : World} (h : Below w.heap.size w w1) : Others w w1 := fun g cs T fz hg _ _ => blk_below hg h
theorem below_into {B : Nat} {w wr w1 : World} (h : Below B w wr) (hle : B ≤ wr.heap.size) (hb : Below wr.heap.size wr w1) : Below B w w1 := h.trans ⟨hb.os, hb.tape, hb.output, hb.size, fun k hk => hb.block k (Nat.lt_of_lt_of_le hk hle)⟩
/-- numbers in a block of their own -/
theorem box_F {w : World} {g : Nat} {xs : List Int} {T : TypeId} {fz : Nat × Nat} (h : w.heap[g]? = some (.cells (nums .i64 xs).toArray T fz)) (hl : xs.length ≤ 1000000 := by simp) : Kd.F (Kd.int .i64) w (fun k => k = g) (some ⟨g, 0, none⟩) xs.length xs := by
  intro W' hW
  have h' : W'.heap[g]? = some (.cells (nums .i64 xs).toArray T fz) := (hW g rfl (Array.getElem?_eq_some_iff.1 h).1).trans h
  refine ⟨rfl, by omega, fun _ => ⟨_, rfl, fun j p hj => ⟨[.int .i64 p], rfl, rfl, fun i u hu => ?_⟩⟩⟩
  rw [add_plain, cell_of_row _ _ _ _ _ _ h']
  rcases i with _ | i
  · simp only [List.getElem?_cons_zero, Option.some.injEq] at hu
    subst hu
    show (nums .i64 xs).toArray[j * 1 + 0]? = some (.int .i64 p)
    simp [nums, hj]
  · simp at hu
theorem put_len (acc : List UInt8) (l : List Int) (k : Nat) : (acc ++ vputs (l.take k)).length ≤ acc.length + 10 * l.length := by
  have h1 := vputs_length (l.take k)
  have h2 : (l.take k).length ≤ l.length := by rw [List.length_take]; omega
  rw [List.length_append]; omega
set_option maxHeartbeats 2000000 in
set_option maxRecDepth 100000 in
theorem nums_calls (B b : Nat) (acc : List UInt8) (A : Option Addr) (c : Nat) (l : List Int) (P : Nat → Prop) (w : World) (h : Bld B b (Lib.byteCells acc) w) (hr : Kd.F (Kd.int .i64) w P A l.length l) (hP : ∀ k, P k → Safe B w k) (hB : B ≤ w.heap.size) (hl : acc.length + 10 * l.length ≤ 1000000000000) :
    Calls Try.prog 61 #[.pointer (some ⟨b, 0, none⟩), .slice A l.length c] w fun e w' => e = .returned (.tuple #[]) ∧ Bld B b (Lib.byteCells (acc ++ vputs l)) w' ∧ Below B w w' ∧ Others w w' := by
  have HR := Aside0.mk hr
  have HP := Aside0.mk hP
  have HD0 := Aside0.mk h
  clear hr hP h
  go_enter Try.func61, Try.ntmps61
  go_wp2
  go_loopw [8] (fun v8 wr => ∃ k : Nat, v8 = .int .i64 (k : Int) ∧ k ≤ l.length ∧ Aside0 (Bld B b (Lib.byteCells (acc ++ vputs (l.take k))) wr) ∧ Aside0 (Below B w wr) ∧ Aside0 (Others w wr)) (fun v8 _ => l.length - (intOf v8).toNat)
  case atStart => exact ⟨0, rfl, Nat.zero_le _, ⟨by simpa [vputs] using HD0.out⟩, ⟨Below.refl _ _⟩, ⟨fun _ _ _ _ h _ _ => h⟩⟩
  case round =>
    obtain ⟨k, rfl, hk, HD, HB, HO⟩ := hrel
    by_cases hlt : k < l.length
    · obtain ⟨ad, hA, hcell⟩ := Kd.at_int (Kd.F_now (Kd.F_step HR.out (fun j hj _ => (HP.out j hj).keep HB.out HO.out))) (k : Int) (by omega) (by omega)
      subst hA
      obtain ⟨x, hx⟩ : ∃ x, rd l (k : Int) = x := ⟨_, rfl⟩
      rw [hx, Int.toNat_natCast] at hcell
      have HX := Aside0.mk hx
      clear hx
      have hlen := put_len acc l k
      have hp := vputB_size x
      have hsz := HB.out.size
      go_wp2_with fail
      refine start_ (n := 6) (S := fun w' => True) (ds := []) #[Z,Z,Z,Z,Z,Z] (by kernel_rfl) rfl rfl (trivial) (fun hHeld => ?_)
      refine pure_ (i := 0) (N := (some 12)) (v := ?_) (a' := ?_) #[Y,Z,Z,Z,Z,Z] rfl rfl (by kernel_rfl) (fun _ _ _ h => h) (Or.inl ⟨by rfl, ?_⟩) ?_ ?_
      rotate_left
      · intro w'
        go_simp
        with_reducible rfl
      rotate_left
      · simp only [Act.put, List.setIfInBounds_toArray, List.set_cons_zero, List.set_cons_succ, i64_w, i32_w]
        rfl
      refine pure_ (i := 1) (N := (some 13)) (v := ?_) (a' := ?_) #[Y,Y,Z,Z,Z,Z] rfl rfl (by kernel_rfl) (fun _ _ _ h => h) (Or.inl ⟨by rfl, ?_⟩) ?_ ?_
      rotate_left
      · intro w'
        go_simp
        with_reducible rfl
      rotate_left
      · simp only [Act.put, List.setIfInBounds_toArray, List.set_cons_zero, List.set_cons_succ, i64_w, i32_w]
        rfl
      refine pure_ (i := 2) (N := (some 14)) (v := ?_) (a' := ?_) #[Y,Y,Y,Z,Z,Z] rfl rfl (by kernel_rfl) (fun _ _ _ h => h) (Or.inl ⟨by rfl, ?_⟩) ?_ ?_
      rotate_left
      · intro w'
        go_simp
        with_reducible rfl
      rotate_left
      · simp only [Act.put, List.setIfInBounds_toArray, List.set_cons_zero, List.set_cons_succ, i64_w, i32_w]
        rfl
      refine pure_ (i := 3) (N := (some 15)) (v := ?_) (a' := ?_) #[Y,Y,Y,Y,Z,Z] rfl rfl (by kernel_rfl) (fun _ _ _ h => h) (Or.inl ⟨by rfl, ?_⟩) ?_ ?_
      rotate_left
      · intro w'
        go_simp
        with_reducible rfl
      rotate_left
      · simp only [Act.put, List.setIfInBounds_toArray, List.set_cons_zero, List.set_cons_succ, i64_w, i32_w]
        rfl
      refine one_ (i := 4) (N := (some 16)) #[Y,Y,Y,Y,Y,Z] rfl rfl (by kernel_rfl) (by decide) (fun K hK => ?_)
      refine goes_ Try.func97 (by kernel_rfl) rfl #[.int .i64 x] (by rfl) rfl rfl (by (try simp only [List.map_toArray, List.map_cons, List.map_nil]); first | done | rfl) ?_
      refine (vint_Put.calls x (vputB x) _ rfl).mono ?_
      rintro e w1 ⟨rfl, hb1⟩
      refine ⟨_, rfl, ?_⟩
      have hb1 : Below wr.heap.size wr w1 := below_step (below_drew (Below.refl _ _)) hb1
      have HD1 := Aside0.mk (bld_below HD.out hb1)
      have hsz1 := hb1.size
      have HB1 := Aside0.mk (below_into HB.out (by omega) hb1)
      have HO1 := Aside0.mk (HO.out.trans (Others.of_below hb1))
      refine hK.out _ _ trivial (fun hHeld => ?_)
      clear hb1
      clear hK K
      refine norm_ (a' := ?_) ?_ ?_
      rotate_left
      · show Act.put _ (some 16) _ = _
        simp only [Act.put, List.setIfInBounds_toArray, List.set_cons_zero, List.set_cons_succ, i64_w, i32_w]
        rfl
      refine one_ (i := 5) (N := (some 17)) #[Y,Y,Y,Y,Y,Y] rfl rfl (by kernel_rfl) (by decide) (fun K hK => ?_)
      refine goes_ Try.func96 (by kernel_rfl) rfl #[.pointer (some ⟨b, 0, none⟩), .string (vputB x)] (by rfl) rfl rfl (by (try simp only [List.map_toArray, List.map_cons, List.map_nil]); first | done | rfl) ?_
      refine (bld_WriteString2 B b _ (vputB x) w1 HD1.out (by rw [Lib.byteCells_length]; omega) (by omega)).mono ?_
      rintro e w2 ⟨rfl, hD2, hb2, ho2⟩
      refine ⟨_, rfl, ?_⟩
      have HD2 := Aside0.mk hD2
      have HB2 := Aside0.mk (HB1.out.trans hb2)
      have HO2 := Aside0.mk (HO1.out.trans ho2)
      refine hK.out _ _ trivial (fun hHeld => ?_)
      clear hD2 hb2 ho2
      clear hK K
      refine norm_ (a' := ?_) ?_ ?_
      rotate_left
      · show Act.put _ (some 17) _ = _
        simp only [Act.put, List.setIfInBounds_toArray, List.set_cons_zero, List.set_cons_succ, i64_w, i32_w]
        rfl
      refine done_ (by kernel_rfl) ?_
      go_wp2
      refine ⟨⟨k + 1, by simp, by omega, ⟨?_⟩, HB2, HO2⟩, by simp [intOf]; omega⟩
      rw [take_rd l k hlt, vputs_snoc, ← List.append_assoc, Lib.byteCells_append, HX.out]
      exact HD2.out
    · have hk2 : l.take k = l := List.take_of_length_le (by omega)
      have hd := HD.out
      rw [hk2] at hd
      have HD2 := Aside0.mk hd
      clear hk2 hd
      go_wp2_with fail
      go_end0
      exact ⟨rfl, HD2.out, HB.out, HO.out⟩
/-- a name: its length, its bytes -/
def nameB (s : ByteArray) : List UInt8 := vputs [(s.size : Int)] ++ s.data.toList
theorem nameB_len (s : ByteArray) : (nameB s).length ≤ 10 + s.size := by
  have h := vputs_length [(s.size : Int)]
  unfold nameB
  rw [List.length_append, data_length]
  simp at h
  omega
set_option maxHeartbeats 2000000 in
set_option maxRecDepth 100000 in
theorem wname_calls (B b : Nat) (acc : List UInt8) (s : ByteArray) (w : World) (h : Bld B b (Lib.byteCells acc) w) (hB : B ≤ w.heap.size) (hl : acc.length ≤ 100000000000) (hs : s.size ≤ 1000000) :
    Calls Try.prog 62 #[.pointer (some ⟨b, 0, none⟩), .string s] w fun e w' => e = .returned (.tuple #[]) ∧ Bld B b (Lib.byteCells (acc ++ nameB s)) w' ∧ Below B w w' ∧ Others w w' := by
  have HD0 := Aside0.mk h
  clear h
  go_enter Try.func62, Try.ntmps62
  go_wp2_with fail
  obtain ⟨w1, hw1⟩ : ∃ y, y = w.alloc (.cells #[.int .i64 (s.size : Int)] 3) := ⟨_, rfl⟩
  rw [← hw1]
  have hb1 : Below w.heap.size w w1 := by rw [hw1]; exact below_alloc (Below.refl _ _) _
  have hx1 : w1.heap[w.heap.size]? = some (.cells #[.int .i64 (s.size : Int)] 3 (0, 0)) := by rw [hw1]; exact blk_new _ _
  clear hw1
  have hsz := hb1.size
  refine (nums_calls B b acc (some ⟨w.heap.size, 0, none⟩) 1 [(s.size : Int)] (fun k => k = w.heap.size) w1 (bld_below HD0.out hb1) (box_F hx1) (fun k hk => .inr ⟨_, _, _, hk ▸ hx1, by decide, by decide⟩) (by omega) (by simp; omega)).mono ?_
  rintro e w2 ⟨rfl, hD2, hb2, ho2⟩
  have HD2 := Aside0.mk hD2
  have HB2 : Aside0 (Below B w w2) := ⟨(below_into (Below.refl B w) hB hb1).trans hb2⟩
  have HO2 : Aside0 (Others w w2) := ⟨(Others.of_below hb1).trans ho2⟩
  have hsz2 := hb2.size
  have hlen := nameB_len s
  have hl2 : (vputs [(s.size : Int)]).length ≤ 10 := by have := vputs_length [(s.size : Int)]; simpa using this
  clear hD2 hb2 ho2 hx1 hb1
  go_wp2_with fail
  refine (bld_WriteString2 B b _ s w2 HD2.out (by rw [Lib.byteCells_length, List.length_append]; omega) (by omega)).mono ?_
  rintro e w3 ⟨rfl, hD3, hb3, ho3⟩
  have HD3 := Aside0.mk hD3
  have HB3 := Aside0.mk (HB2.out.trans hb3)
  have HO3 := Aside0.mk (HO2.out.trans ho3)
  clear hD3 hb3 ho3
  go_wp2_with fail
  go_end0
  refine ⟨rfl, ?_, HB3.out, HO3.out⟩
  unfold nameB
  rw [← List.append_assoc, Lib.byteCells_append]
  exact HD3.out
end Go.Proofs.Ytgjclhhjigflkac.Sc
