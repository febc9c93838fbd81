-- written by mkprint.py, a program of this session, over the kit's printer
import Derived.Test.YtgjclhhjigflkabCx0
import Derived.Test.YtgjclhhjigflkabCx1
import Derived.Test.YtgjclhhjigflkabCx3
import Derived.Test.YtgjclhhjigflkabCvManual
namespace Go.Proofs.Ytgjclhhjigflkab.C
open Go.RowKit Go.Proofs.YtgjclhhjigflkabW.PrintWords Go.Proofs.YtgjclhhjigflkabW.PrintLast Go.Proofs.YtgjclhhjigflkabW.PrintMore
attribute [local go_sem] max2_int min2_int max_two min_two max_three min_three max_four min_four   -- for this text's walks alone
set_option linter.unusedVariables false
set_option linter.unusedSimpArgs false

/-! ### peristylelaw32_awake: function 31 -/
abbrev ob_ (A : Option Addr) (n c : Nat) := (Value.slice A n c).ownBlock
def peristylelaw32_awake.f (k : Nat)  : Option (Bool) := (peristylelaw32_table.f k).bind fun bt210 => ((cover_Choose.f k bt210.1 bt210.2.1 bt210.2.2 (([1] : List Int)) ([] : List Int) ([] : List ByteArray)).bind fun bt220 => ((peristylelaw32_table.f k).bind fun bt226 => ((cover_Choose.f k bt226.1 bt226.2.1 bt226.2.2 (([0, 1] : List Int)) ([] : List Int) (([(⟨#[112]⟩ : ByteArray), (⟨#[115, 117, 112, 101, 114]⟩ : ByteArray)] : List ByteArray))).bind fun bt239 => ((peristylelaw32_table.f k).bind fun bt245 => ((cover_Choose.f k bt245.1 bt245.2.1 bt245.2.2 (([0] : List Int)) ([] : List Int) (([(⟨#[112]⟩ : ByteArray)] : List ByteArray))).bind fun bt258 => (if bt220.2.2 = 0 then (if bt220.1 = 1 then ((peristyleref01_Same.f k bt220.2.1 (([(-1), 1] : List Int))).bind fun t267 => (if t267 = true then (if bt239.2.2 = 0 then (if bt239.1 = 1 then ((peristyleref01_Same.f k bt239.2.1 (([0, 1] : List Int))).bind fun t271 => (if t271 = true then (if bt258.2.2 = 320 then ((peristylelaw32_table.f k).bind fun bt272 => ((cover_Place.f k bt272.1 bt272.2.1 bt272.2.2 1 1).bind fun t279 => (if t279 = 0 then ((peristylelaw32_table.f k).bind fun bt280 => ((cover_Check.f k bt280.1 bt280.2.1 bt280.2.2 (([1] : List Int)) bt220.1 bt220.2.1).bind fun t290 => (some (t290 == 0)))) else (none)))) else (none)) else (none))) else (none)) else (none)) else (none))) else (none)) else (none)))))))
theorem peristylelaw32_awake.mono : ∀ k, LeO (peristylelaw32_awake.f k ) (peristylelaw32_awake.f (k + 1) ) := by
 intro  k
 unfold peristylelaw32_awake.f
 repeat' first
   | (with_reducible exact cover_Check.mono _ _ _ _ _ _ _)
   | (with_reducible exact cover_Choose.mono _ _ _ _ _ _ _)
   | (with_reducible exact cover_Place.mono _ _ _ _ _ _)
   | (with_reducible exact peristylelaw32_table.mono _)
   | (with_reducible exact peristyleref01_Same.mono _ _ _)
   | (with_reducible exact LeO.refl _)
   | (with_reducible exact LeO.none _)
   | (with_reducible refine LeO.ite ?_ ?_)
   | (with_reducible refine LeO.bind ?_ (fun _ => ?_))
   | exact cover_Check.mono _ _ _ _ _ _ _
   | exact cover_Choose.mono _ _ _ _ _ _ _
   | exact cover_Place.mono _ _ _ _ _ _
   | exact peristylelaw32_table.mono _
   | exact peristyleref01_Same.mono _ _ _
   | exact LeO.none _
   | refine LeO.ite ?_ ?_
   | refine LeO.bind ?_ (fun _ => ?_)
def peristylelaw32_awake.T4 : Bool × List (List Nat × List Nat) := (true, [([], []), ([0], [0]), ([1], [1]), ([2], [2]), ([3, 2], [2, 3]), ([4, 2], [2, 4]), ([2, 5], [2, 5]), ([6, 2], [6]), ([7], [7]), ([8, 7], [7, 8]), ([7], [7]), ([9, 10, 7, 7], [7, 9, 10]), ([7, 11], [7, 11]), ([12, 11], [12]), ([13], [13]), ([14, 13], [13, 14]), ([13, 15], [13, 15]), ([16, 13], [16]), ([17], [17]), ([18, 17], [17, 18]), ([19, 17], [17, 19]), ([17, 20], [17, 20]), ([21, 17], [21]), ([22], [22]), ([23, 22], [22, 23]), ([22], [22]), ([24, 25, 22, 22], [22, 24, 25]), ([22, 26], [22, 26]), ([27, 26], [27]), ([28], [28]), ([29, 28], [28, 29]), ([28, 30], [28, 30]), ([31, 28], [31]), ([32, 32], [32]), ([33, 33, 32], [32, 33]), ([34, 32], [32, 34]), ([32, 35], [32, 35]), ([36, 34], [36]), ([37, 37], [37]), ([37], [37]), ([37], [37]), ([38, 39, 40, 38, 37], [37, 38, 39, 40]), ([41, 37], [37, 41]), ([37, 42], [37, 42]), ([43, 41, 0, 1, 2, 3, 4, 5, 6, 7, 8, 9, 10, 11, 12, 13, 14, 15, 16, 17, 18, 19, 20, 21, 22, 23, 24, 25, 26, 27, 28, 29, 30, 31, 32, 33, 34, 35, 36, 37, 38, 39, 40, 41, 42, 43], [43])])
def peristylelaw32_awake.B4 : List Nat := [0, 1, 3, 7, 15, 31, 63, 127, 255, 511, 255, 2047, 4095, 8191, 16383, 32767, 65535, 131071, 262143, 524287, 1048575, 2097151, 4194303, 8388607, 16777215, 8388607, 67108863, 134217727, 268435455, 536870911, 1073741823, 2147483647, 4294967295, 8589934591, 17179869183, 34359738367, 68719476735, 137438953471, 274877906943, 274877906943, 274877906943, 2199023255551, 4398046511103, 8796093022207, 17592186044415]
theorem peristylelaw32_awake.tab4 : rtab .any (opsOf Try.f31 4) = peristylelaw32_awake.T4 := by kernel_rfl
theorem peristylelaw32_awake.bits4 : waitsOk peristylelaw32_awake.T4.2 peristylelaw32_awake.B4 = true := by kernel_rfl
set_option maxHeartbeats 8000000 in
set_option maxRecDepth 100000 in
theorem peristylelaw32_awake.calls (k : Nat)  (r : Bool) (w : World) (h : peristylelaw32_awake.f k  = some r) :
  Calls Try.prog 31 #[] w fun e w' => e = .returned (.bool r) ∧ Below w.heap.size w w' := by
 have hu68 := Try.underlying68
 have HB := Aside0.mk (Below.refl w.heap.size w)
 have H : ((peristylelaw32_table.f k).bind fun bt210 => ((cover_Choose.f k bt210.1 bt210.2.1 bt210.2.2 (([1] : List Int)) ([] : List Int) ([] : List ByteArray)).bind fun bt220 => ((peristylelaw32_table.f k).bind fun bt226 => ((cover_Choose.f k bt226.1 bt226.2.1 bt226.2.2 (([0, 1] : List Int)) ([] : List Int) (([(⟨#[112]⟩ : ByteArray), (⟨#[115, 117, 112, 101, 114]⟩ : ByteArray)] : List ByteArray))).bind fun bt239 => ((peristylelaw32_table.f k).bind fun bt245 => ((cover_Choose.f k bt245.1 bt245.2.1 bt245.2.2 (([0] : List Int)) ([] : List Int) (([(⟨#[112]⟩ : ByteArray)] : List ByteArray))).bind fun bt258 => (if bt220.2.2 = 0 then (if bt220.1 = 1 then ((peristyleref01_Same.f k bt220.2.1 (([(-1), 1] : List Int))).bind fun t267 => (if t267 = true then (if bt239.2.2 = 0 then (if bt239.1 = 1 then ((peristyleref01_Same.f k bt239.2.1 (([0, 1] : List Int))).bind fun t271 => (if t271 = true then (if bt258.2.2 = 320 then ((peristylelaw32_table.f k).bind fun bt272 => ((cover_Place.f k bt272.1 bt272.2.1 bt272.2.2 1 1).bind fun t279 => (if t279 = 0 then ((peristylelaw32_table.f k).bind fun bt280 => ((cover_Check.f k bt280.1 bt280.2.1 bt280.2.2 (([1] : List Int)) bt220.1 bt220.2.1).bind fun t290 => (some (t290 == 0)))) else (none)))) else (none)) else (none))) else (none)) else (none)) else (none))) else (none)) else (none)))))))) = some r := h
 clear h
 replace H := Option.bind_eq_some_iff.mp H
 obtain ⟨⟨t210, t211, t214⟩, A10, H⟩ := H
 try dsimp only at H
 have A1 := Aside0.mk A10
 clear A10
 obtain ⟨y217, hy217⟩ : ∃ y_ : List Int, y_ = (([1] : List Int)) := ⟨_, rfl⟩
 replace H : ((cover_Choose.f k t210 t211 t214 y217 ([] : List Int) ([] : List ByteArray)).bind fun bt220 => ((peristylelaw32_table.f k).bind fun bt226 => ((cover_Choose.f k bt226.1 bt226.2.1 bt226.2.2 (([0, 1] : List Int)) ([] : List Int) (([(⟨#[112]⟩ : ByteArray), (⟨#[115, 117, 112, 101, 114]⟩ : ByteArray)] : List ByteArray))).bind fun bt239 => ((peristylelaw32_table.f k).bind fun bt245 => ((cover_Choose.f k bt245.1 bt245.2.1 bt245.2.2 (([0] : List Int)) ([] : List Int) (([(⟨#[112]⟩ : ByteArray)] : List ByteArray))).bind fun bt258 => (if bt220.2.2 = 0 then (if bt220.1 = 1 then ((peristyleref01_Same.f k bt220.2.1 (([(-1), 1] : List Int))).bind fun t267 => (if t267 = true then (if bt239.2.2 = 0 then (if bt239.1 = 1 then ((peristyleref01_Same.f k bt239.2.1 (([0, 1] : List Int))).bind fun t271 => (if t271 = true then (if bt258.2.2 = 320 then ((peristylelaw32_table.f k).bind fun bt272 => ((cover_Place.f k bt272.1 bt272.2.1 bt272.2.2 1 1).bind fun t279 => (if t279 = 0 then ((peristylelaw32_table.f k).bind fun bt280 => ((cover_Check.f k bt280.1 bt280.2.1 bt280.2.2 (([1] : List Int)) bt220.1 bt220.2.1).bind fun t290 => (some (t290 == 0)))) else (none)))) else (none)) else (none))) else (none)) else (none)) else (none))) else (none)) else (none))))))) = some r := by (rw [hy217]; with_reducible exact H)
 have Ny217 := Aside0.mk hy217
 clear hy217
 replace H := Option.bind_eq_some_iff.mp H
 obtain ⟨⟨t220, t221, t224⟩, A20, H⟩ := H
 try dsimp only at H
 have A2 := Aside0.mk A20
 clear A20
 replace H := Option.bind_eq_some_iff.mp H
 obtain ⟨⟨t226, t227, t230⟩, A30, H⟩ := H
 try dsimp only at H
 have A3 := Aside0.mk A30
 clear A30
 obtain ⟨y233, hy233⟩ : ∃ y_ : List Int, y_ = (([0, 1] : List Int)) := ⟨_, rfl⟩
 replace H : ((cover_Choose.f k t226 t227 t230 y233 ([] : List Int) (([(⟨#[112]⟩ : ByteArray), (⟨#[115, 117, 112, 101, 114]⟩ : ByteArray)] : List ByteArray))).bind fun bt239 => ((peristylelaw32_table.f k).bind fun bt245 => ((cover_Choose.f k bt245.1 bt245.2.1 bt245.2.2 (([0] : List Int)) ([] : List Int) (([(⟨#[112]⟩ : ByteArray)] : List ByteArray))).bind fun bt258 => (if t224 = 0 then (if t220 = 1 then ((peristyleref01_Same.f k t221 (([(-1), 1] : List Int))).bind fun t267 => (if t267 = true then (if bt239.2.2 = 0 then (if bt239.1 = 1 then ((peristyleref01_Same.f k bt239.2.1 (([0, 1] : List Int))).bind fun t271 => (if t271 = true then (if bt258.2.2 = 320 then ((peristylelaw32_table.f k).bind fun bt272 => ((cover_Place.f k bt272.1 bt272.2.1 bt272.2.2 1 1).bind fun t279 => (if t279 = 0 then ((peristylelaw32_table.f k).bind fun bt280 => ((cover_Check.f k bt280.1 bt280.2.1 bt280.2.2 (([1] : List Int)) t220 t221).bind fun t290 => (some (t290 == 0)))) else (none)))) else (none)) else (none))) else (none)) else (none)) else (none))) else (none)) else (none))))) = some r := by (rw [hy233]; with_reducible exact H)
 have Ny233 := Aside0.mk hy233
 clear hy233
 obtain ⟨y236, hy236⟩ : ∃ y_ : List ByteArray, y_ = (([(⟨#[112]⟩ : ByteArray), (⟨#[115, 117, 112, 101, 114]⟩ : ByteArray)] : List ByteArray)) := ⟨_, rfl⟩
 replace H : ((cover_Choose.f k t226 t227 t230 y233 ([] : List Int) y236).bind fun bt239 => ((peristylelaw32_table.f k).bind fun bt245 => ((cover_Choose.f k bt245.1 bt245.2.1 bt245.2.2 (([0] : List Int)) ([] : List Int) (([(⟨#[112]⟩ : ByteArray)] : List ByteArray))).bind fun bt258 => (if t224 = 0 then (if t220 = 1 then ((peristyleref01_Same.f k t221 (([(-1), 1] : List Int))).bind fun t267 => (if t267 = true then (if bt239.2.2 = 0 then (if bt239.1 = 1 then ((peristyleref01_Same.f k bt239.2.1 (([0, 1] : List Int))).bind fun t271 => (if t271 = true then (if bt258.2.2 = 320 then ((peristylelaw32_table.f k).bind fun bt272 => ((cover_Place.f k bt272.1 bt272.2.1 bt272.2.2 1 1).bind fun t279 => (if t279 = 0 then ((peristylelaw32_table.f k).bind fun bt280 => ((cover_Check.f k bt280.1 bt280.2.1 bt280.2.2 (([1] : List Int)) t220 t221).bind fun t290 => (some (t290 == 0)))) else (none)))) else (none)) else (none))) else (none)) else (none)) else (none))) else (none)) else (none))))) = some r := by (rw [hy236]; with_reducible exact H)
 have Ny236 := Aside0.mk hy236
 clear hy236
 replace H := Option.bind_eq_some_iff.mp H
 obtain ⟨⟨t239, t240, t243⟩, A40, H⟩ := H
 try dsimp only at H
 have A4 := Aside0.mk A40
 clear A40
 replace H := Option.bind_eq_some_iff.mp H
 obtain ⟨⟨t245, t246, t249⟩, A50, H⟩ := H
 try dsimp only at H
 have A5 := Aside0.mk A50
 clear A50
 obtain ⟨y252, hy252⟩ : ∃ y_ : List Int, y_ = (([0] : List Int)) := ⟨_, rfl⟩
 replace H : ((cover_Choose.f k t245 t246 t249 y252 ([] : List Int) (([(⟨#[112]⟩ : ByteArray)] : List ByteArray))).bind fun bt258 => (if t224 = 0 then (if t220 = 1 then ((peristyleref01_Same.f k t221 (([(-1), 1] : List Int))).bind fun t267 => (if t267 = true then (if t243 = 0 then (if t239 = 1 then ((peristyleref01_Same.f k t240 (([0, 1] : List Int))).bind fun t271 => (if t271 = true then (if bt258.2.2 = 320 then ((peristylelaw32_table.f k).bind fun bt272 => ((cover_Place.f k bt272.1 bt272.2.1 bt272.2.2 1 1).bind fun t279 => (if t279 = 0 then ((peristylelaw32_table.f k).bind fun bt280 => ((cover_Check.f k bt280.1 bt280.2.1 bt280.2.2 (([1] : List Int)) t220 t221).bind fun t290 => (some (t290 == 0)))) else (none)))) else (none)) else (none))) else (none)) else (none)) else (none))) else (none)) else (none))) = some r := by (rw [hy252]; with_reducible exact H)
 have Ny252 := Aside0.mk hy252
 clear hy252
 obtain ⟨y255, hy255⟩ : ∃ y_ : List ByteArray, y_ = (([(⟨#[112]⟩ : ByteArray)] : List ByteArray)) := ⟨_, rfl⟩
 replace H : ((cover_Choose.f k t245 t246 t249 y252 ([] : List Int) y255).bind fun bt258 => (if t224 = 0 then (if t220 = 1 then ((peristyleref01_Same.f k t221 (([(-1), 1] : List Int))).bind fun t267 => (if t267 = true then (if t243 = 0 then (if t239 = 1 then ((peristyleref01_Same.f k t240 (([0, 1] : List Int))).bind fun t271 => (if t271 = true then (if bt258.2.2 = 320 then ((peristylelaw32_table.f k).bind fun bt272 => ((cover_Place.f k bt272.1 bt272.2.1 bt272.2.2 1 1).bind fun t279 => (if t279 = 0 then ((peristylelaw32_table.f k).bind fun bt280 => ((cover_Check.f k bt280.1 bt280.2.1 bt280.2.2 (([1] : List Int)) t220 t221).bind fun t290 => (some (t290 == 0)))) else (none)))) else (none)) else (none))) else (none)) else (none)) else (none))) else (none)) else (none))) = some r := by (rw [hy255]; with_reducible exact H)
 have Ny255 := Aside0.mk hy255
 clear hy255
 replace H := Option.bind_eq_some_iff.mp H
 obtain ⟨⟨t258, t259, t262⟩, A60, H⟩ := H
 try dsimp only at H
 have A6 := Aside0.mk A60
 clear A60
 by_cases c7 : t224 = 0
 ·
  rw [if_pos c7] at H
  have c7b0 : (t224 == 0) = true := beq_iff_eq.mpr c7
  have c7b1 : (t224 != 0) = false := bne_eq_false_iff_eq.mpr c7
  clear c7
  by_cases c8 : t220 = 1
  ·
   rw [if_pos c8] at H
   have c8b0 : (t220 == 1) = true := beq_iff_eq.mpr c8
   have c8b1 : (t220 != 1) = false := bne_eq_false_iff_eq.mpr c8
   clear c8
   obtain ⟨y264, hy264⟩ : ∃ y_ : List Int, y_ = (([(-1), 1] : List Int)) := ⟨_, rfl⟩
   replace H : ((peristyleref01_Same.f k t221 y264).bind fun t267 => (if t267 = true then (if t243 = 0 then (if t239 = 1 then ((peristyleref01_Same.f k t240 (([0, 1] : List Int))).bind fun t271 => (if t271 = true then (if t262 = 320 then ((peristylelaw32_table.f k).bind fun bt272 => ((cover_Place.f k bt272.1 bt272.2.1 bt272.2.2 1 1).bind fun t279 => (if t279 = 0 then ((peristylelaw32_table.f k).bind fun bt280 => ((cover_Check.f k bt280.1 bt280.2.1 bt280.2.2 (([1] : List Int)) t220 t221).bind fun t290 => (some (t290 == 0)))) else (none)))) else (none)) else (none))) else (none)) else (none)) else (none))) = some r := by (rw [hy264]; with_reducible exact H)
   have Ny264 := Aside0.mk hy264
   clear hy264
   replace H := Option.bind_eq_some_iff.mp H
   obtain ⟨t267, A90, H⟩ := H
   try dsimp only at H
   have A9 := Aside0.mk A90
   clear A90
   by_cases c10 : t267 = true
   ·
    subst c10
    have H1 : (if t243 = 0 then (if t239 = 1 then ((peristyleref01_Same.f k t240 (([0, 1] : List Int))).bind fun t271 => (if t271 = true then (if t262 = 320 then ((peristylelaw32_table.f k).bind fun bt272 => ((cover_Place.f k bt272.1 bt272.2.1 bt272.2.2 1 1).bind fun t279 => (if t279 = 0 then ((peristylelaw32_table.f k).bind fun bt280 => ((cover_Check.f k bt280.1 bt280.2.1 bt280.2.2 (([1] : List Int)) t220 t221).bind fun t290 => (some (t290 == 0)))) else (none)))) else (none)) else (none))) else (none)) else (none)) = some r := by rw [if_pos rfl] at H; exact H
    clear H
    have H := H1
    clear H1
    by_cases c11 : t243 = 0
    ·
     rw [if_pos c11] at H
     have c11b0 : (t243 == 0) = true := beq_iff_eq.mpr c11
     have c11b1 : (t243 != 0) = false := bne_eq_false_iff_eq.mpr c11
     clear c11
     by_cases c12 : t239 = 1
     ·
      rw [if_pos c12] at H
      have c12b0 : (t239 == 1) = true := beq_iff_eq.mpr c12
      have c12b1 : (t239 != 1) = false := bne_eq_false_iff_eq.mpr c12
      clear c12
      obtain ⟨y268, hy268⟩ : ∃ y_ : List Int, y_ = (([0, 1] : List Int)) := ⟨_, rfl⟩
      replace H : ((peristyleref01_Same.f k t240 y268).bind fun t271 => (if t271 = true then (if t262 = 320 then ((peristylelaw32_table.f k).bind fun bt272 => ((cover_Place.f k bt272.1 bt272.2.1 bt272.2.2 1 1).bind fun t279 => (if t279 = 0 then ((peristylelaw32_table.f k).bind fun bt280 => ((cover_Check.f k bt280.1 bt280.2.1 bt280.2.2 (([1] : List Int)) t220 t221).bind fun t290 => (some (t290 == 0)))) else (none)))) else (none)) else (none))) = some r := by (rw [hy268]; with_reducible exact H)
      have Ny268 := Aside0.mk hy268
      clear hy268
      replace H := Option.bind_eq_some_iff.mp H
      obtain ⟨t271, A130, H⟩ := H
      try dsimp only at H
      have A13 := Aside0.mk A130
      clear A130
      by_cases c14 : t271 = true
      ·
       subst c14
       have H1 : (if t262 = 320 then ((peristylelaw32_table.f k).bind fun bt272 => ((cover_Place.f k bt272.1 bt272.2.1 bt272.2.2 1 1).bind fun t279 => (if t279 = 0 then ((peristylelaw32_table.f k).bind fun bt280 => ((cover_Check.f k bt280.1 bt280.2.1 bt280.2.2 (([1] : List Int)) t220 t221).bind fun t290 => (some (t290 == 0)))) else (none)))) else (none)) = some r := by rw [if_pos rfl] at H; exact H
       clear H
       have H := H1
       clear H1
       by_cases c15 : t262 = 320
       ·
        rw [if_pos c15] at H
        have c15b0 : (t262 == 320) = true := beq_iff_eq.mpr c15
        have c15b1 : (t262 != 320) = false := bne_eq_false_iff_eq.mpr c15
        clear c15
        replace H := Option.bind_eq_some_iff.mp H
        obtain ⟨⟨t272, t273, t276⟩, A160, H⟩ := H
        try dsimp only at H
        have A16 := Aside0.mk A160
        clear A160
        replace H := Option.bind_eq_some_iff.mp H
        obtain ⟨t279, A170, H⟩ := H
        try dsimp only at H
        have A17 := Aside0.mk A170
        clear A170
        by_cases c18 : t279 = 0
        ·
         rw [if_pos c18] at H
         have c18b0 : (t279 == 0) = true := beq_iff_eq.mpr c18
         have c18b1 : (t279 != 0) = false := bne_eq_false_iff_eq.mpr c18
         clear c18
         replace H := Option.bind_eq_some_iff.mp H
         obtain ⟨⟨t280, t281, t284⟩, A190, H⟩ := H
         try dsimp only at H
         have A19 := Aside0.mk A190
         clear A190
         obtain ⟨y287, hy287⟩ : ∃ y_ : List Int, y_ = (([1] : List Int)) := ⟨_, rfl⟩
         replace H : ((cover_Check.f k t280 t281 t284 y287 t220 t221).bind fun t290 => (some (t290 == 0))) = some r := by (rw [hy287]; with_reducible exact H)
         have Ny287 := Aside0.mk hy287
         clear hy287
         replace H := Option.bind_eq_some_iff.mp H
         obtain ⟨t290, A200, H⟩ := H
         try dsimp only at H
         have A20 := Aside0.mk A200
         clear A200
         obtain rfl := Option.some.inj H
         go_enter Try.func31, Try.ntmps31
         try go_wp2_with (first | ((with_reducible refine gate_callee (f := 75) rfl ?_); refine goesL_ (some 8) rfl rfl Try.func75 (by kernel_rfl) rfl #[] rfl (by (try simp only [List.map_toArray, List.map_cons, List.map_nil]); done) ?_; (with_reducible refine (peristylelaw32_table.calls k  t210 t211 t214 _ A1.out).mono ?_); rintro e w21 ⟨v212, v215, rfl, ho0, ho1, hb⟩; refine ⟨_, rfl, ?_⟩; have n0_ := Aside0.mk (Kd.V_lower (Kd.V_mono (ok' := fun k_ => True) ho0 (fun k_ hk_ => trivial)) (below_size HB.out)); have n1_ := Aside0.mk (Kd.V_lower (Kd.V_mono (ok' := fun k_ => True) ho1 (fun k_ hk_ => trivial)) (below_size HB.out)); have n2_ := Aside0.mk (below_step HB.out hb); clear HB; have HO213 := n0_; have HO216 := n1_; have HB := n2_; clear n0_ n1_ n2_; (try clear hb); (try clear ho0); (try clear ho1)) | ((with_reducible refine gate_dst (N := 9) rfl ?_); (try (refine gate_guard (by rfl) ?_; dsimp only)); refine Kd.R_lit (Kd.int .i64) _ 3 ?hg (N := 9) ?hd (xs := ([1] : List Int)) (inner := [.int .i64 1]) (ok := fun _ => True) (okp := fun _ => True) ?hr ?hp (fun _ hk => hk) trivial (Below.refl _ _) (Nat.le_refl _) (by simp) ?_; (case hd => rfl); (case hg => rfl); (case hr => (go_simp; done)); (case hp => exact (Reps.one (show Kd.M (Kd.int .i64) _ _ _ 1 [.int .i64 1] from rfl) (Reps.none _ _))); intro v218 w22 ho23 hb hg_ hnew_; clear hg_ hnew_; (rw [← Ny217.out] at ho23); have n0_ := Aside0.mk (Kd.V_elder' HO213.out (Kd.R_base ho23) hb); have n1_ := Aside0.mk (Kd.V_elder' HO216.out (Kd.R_base ho23) hb); have n2_ := Aside0.mk (Kd.R_lower ho23 (below_size HB.out)); have n3_ := Aside0.mk (below_step HB.out hb); clear HO213 HO216 HB; have HO213 := n0_; have HO216 := n1_; have HO219 := n2_; have HB := n3_; clear n0_ n1_ n2_ n3_ hb ho23; obtain ⟨Ao24, co24, eo24⟩ := Kd.V_slice HO213.out; subst eo24; obtain ⟨Ao25, co25, eo25⟩ := Kd.V_slice HO216.out; subst eo25; obtain ⟨Ao26, co26, eo26⟩ := Kd.R_slice HO219.out; subst eo26) | ((with_reducible refine gate_callee (f := 32) rfl ?_); refine goesL_ (some 10) rfl rfl Try.func32 (by kernel_rfl) rfl #[.agg #[.string t210, .slice Ao24 t211.length co24, .slice Ao25 t214.length co25], .slice Ao26 y217.length co26, .slice none 0 0, .slice none 0 0] rfl (by (try simp only [List.map_toArray, List.map_cons, List.map_nil]); rfl) ?_; (refine (cover_Choose.calls k t210 _ _ t211 _ _ t214 _ _ y217 _ _ ([] : List Int) _ _ ([] : List ByteArray) t220 t221 t224 _ ?side1 ?side2 ?side3 ?side4 ?side5 ?side6 ?side7 ?side8 ?side9 ?side10 A2.out).mono ?_); (case side1 => repeat (exact (Kd.V_reads' HO213.out).2.2)); (case side2 => exact (Kd.V_reads' HO213.out).2.1); (case side3 => repeat (exact (Kd.V_reads' HO216.out).2.2)); (case side4 => exact (Kd.V_reads' HO216.out).2.1); (case side5 => repeat (exact (Kd.R_reads' HO219.out).2.2)); (case side6 => exact (Kd.R_reads' HO219.out).2.1); (case side7 => exact Kd.C_nil _ _); (case side8 => exact Nat.le_refl _); (case side9 => exact Kd.C_nil _ _); (case side10 => exact Nat.le_refl _); rintro e w27 ⟨v222, rfl, ho0, hb⟩; refine ⟨_, rfl, ?_⟩; have n0_ := Aside0.mk (Kd.V_elder' HO213.out (Kd.R_base ho0) hb); have n1_ := Aside0.mk (Kd.V_elder' HO216.out (Kd.R_base ho0) hb); have n2_ := Aside0.mk (Kd.R_elder' HO219.out (Kd.R_base ho0) hb); have n3_ := Aside0.mk (Kd.R_lower (Kd.R_new' ho0 (Kd.R_lt HO219.out)) (below_size HB.out)); have n4_ := Aside0.mk (below_step HB.out hb); clear HO213 HO216 HO219 HB; have HO213 := n0_; have HO216 := n1_; have HO219 := n2_; have HO223 := n3_; have HB := n4_; clear n0_ n1_ n2_ n3_ n4_; (try clear hb); (try clear ho0)) | ((with_reducible refine gate_dst (N := 1) rfl ?_); (try (refine gate_guard (by rfl) ?_; dsimp only)); refine box_event ?hg (N := 1) ?hd (cs := #[.int .i64 0, .slice none 0 0]) (t := 68) ?hr ?_; (case hd => rfl); (case hg => rfl); (case hr => (go_simp; done)); intro gb225 hg w28 hbox hb; have n0_ := Aside0.mk (Kd.V_below (Kd.V_elderB HO213.out gb225 (Nat.le_of_eq hg.symm)) hb); have n1_ := Aside0.mk (Kd.V_below (Kd.V_elderB HO216.out gb225 (Nat.le_of_eq hg.symm)) hb); have n2_ := Aside0.mk (Kd.R_below HO219.out hb); have n3_ := Aside0.mk (Kd.R_below HO223.out hb); have n4_ := Aside0.mk (below_step HB.out hb); have n5_ := Aside0.mk (hbox); have n6_ := Aside0.mk ((by rw [hg]; exact (below_size HB.out) : w.heap.size ≤ gb225)); have n7_ := Aside0.mk ((by rw [hg]; exact (below_size HB.out) : w.heap.size ≤ gb225)); clear HO213 HO216 HO219 HO223 HB; have HO213 := n0_; have HO216 := n1_; have HO219 := n2_; have HO223 := n3_; have HB := n4_; have BK225 := n5_; have GW225 := n6_; have GE225 := n7_; clear n0_ n1_ n2_ n3_ n4_ n5_ n6_ n7_ hb hbox hg; have hcz29_0 : w28.cell? ⟨gb225, 0, none⟩ = some (.int .i64 0) := (blk_cell BK225.out 0).trans rfl; have hcz29_1 : w28.cell? ⟨gb225, 1, none⟩ = some (.slice none 0 0) := (blk_cell BK225.out 1).trans rfl; have hfz29_0 := blk_frozen BK225.out 0; have hfz29_1 := blk_frozen BK225.out 1; obtain ⟨Ao30, co30, eo30⟩ := Kd.R_slice HO223.out; subst eo30) | ((with_reducible refine gate_callee (f := 75) rfl ?_); refine goesL_ (some 14) rfl rfl Try.func75 (by kernel_rfl) rfl #[] rfl (by (try simp only [List.map_toArray, List.map_cons, List.map_nil]); done) ?_; (with_reducible refine (peristylelaw32_table.calls k  t226 t227 t230 _ A3.out).mono ?_); rintro e w31 ⟨v228, v231, rfl, ho0, ho1, hb⟩; refine ⟨_, rfl, ?_⟩; have n0_ := Aside0.mk (Kd.V_below (by exact (Kd.V_mono (Kd.V_far (p := ⟨gb225, 1, none⟩) (Kd.V_far (p := ⟨gb225, 0, none⟩) (Kd.V_mono HO213.out (fun k_ hk => (⟨hk, hk.2⟩ : _ ∧ k_ ≠ gb225))) (fun _ hk => hk.2) (.int .i64 t220)) (fun _ hk => hk.2) (.slice Ao30 t221.length co30)) (fun _ h_ => h_.1))) hb); have n1_ := Aside0.mk (Kd.V_below (by exact (Kd.V_mono (Kd.V_far (p := ⟨gb225, 1, none⟩) (Kd.V_far (p := ⟨gb225, 0, none⟩) (Kd.V_mono HO216.out (fun k_ hk => (⟨hk, hk.2⟩ : _ ∧ k_ ≠ gb225))) (fun _ hk => hk.2) (.int .i64 t220)) (fun _ hk => hk.2) (.slice Ao30 t221.length co30)) (fun _ h_ => h_.1))) hb); have n2_ := Aside0.mk (Kd.R_below (by exact (Kd.R_mono (Kd.R_far (p := ⟨gb225, 1, none⟩) (Kd.R_far (p := ⟨gb225, 0, none⟩) (Kd.R_types HO219.out BK225.out (by decide)) (fun _ hk => hk.2) (.int .i64 t220)) (fun _ hk => hk.2) (.slice Ao30 t221.length co30)) (fun _ h_ => h_.1))) hb); have n3_ := Aside0.mk (Kd.R_below (by exact (Kd.R_mono (Kd.R_far (p := ⟨gb225, 1, none⟩) (Kd.R_far (p := ⟨gb225, 0, none⟩) (Kd.R_types HO223.out BK225.out (by decide)) (fun _ hk => hk.2) (.int .i64 t220)) (fun _ hk => hk.2) (.slice Ao30 t221.length co30)) (fun _ h_ => h_.1))) hb); have n4_ := Aside0.mk (Kd.V_lower (Kd.V_mono (ok' := fun k_ => some k_ ≠ ob_ Ao26 y217.length co26 ∧ some k_ ≠ ob_ Ao30 t221.length co30 ∧ k_ ≠ gb225) ho0 (fun k_ hk_ => ⟨(Kd.fresh' (Kd.R_lt (by exact (Kd.R_mono (Kd.R_far (p := ⟨gb225, 1, none⟩) (Kd.R_far (p := ⟨gb225, 0, none⟩) (Kd.R_types HO219.out BK225.out (by decide)) (fun _ hk => hk.2) (.int .i64 t220)) (fun _ hk => hk.2) (.slice Ao30 t221.length co30)) (fun _ h_ => h_.1)))) k_ hk_), (Kd.fresh' (Kd.R_lt (by exact (Kd.R_mono (Kd.R_far (p := ⟨gb225, 1, none⟩) (Kd.R_far (p := ⟨gb225, 0, none⟩) (Kd.R_types HO223.out BK225.out (by decide)) (fun _ hk => hk.2) (.int .i64 t220)) (fun _ hk => hk.2) (.slice Ao30 t221.length co30)) (fun _ h_ => h_.1)))) k_ hk_), (Kd.freshB (g := gb225) (o := .cells #[.int .i64 t220, .slice Ao30 t221.length co30] 68 (0, 0)) (by refine blk_put (cs := #[.int .i64 t220, .slice none 0 0]) ?_ 1 _ rfl; refine blk_put (cs := #[.int .i64 0, .slice none 0 0]) ?_ 0 _ rfl; exact BK225.out) k_ hk_)⟩)) (below_size (by repeat ((with_reducible first | exact HB.out | refine below_set ?_ GE225.out))))); have n5_ := Aside0.mk (Kd.V_lower (Kd.V_mono (ok' := fun k_ => some k_ ≠ ob_ Ao26 y217.length co26 ∧ some k_ ≠ ob_ Ao30 t221.length co30 ∧ k_ ≠ gb225) ho1 (fun k_ hk_ => ⟨(Kd.fresh' (Kd.R_lt (by exact (Kd.R_mono (Kd.R_far (p := ⟨gb225, 1, none⟩) (Kd.R_far (p := ⟨gb225, 0, none⟩) (Kd.R_types HO219.out BK225.out (by decide)) (fun _ hk => hk.2) (.int .i64 t220)) (fun _ hk => hk.2) (.slice Ao30 t221.length co30)) (fun _ h_ => h_.1)))) k_ hk_), (Kd.fresh' (Kd.R_lt (by exact (Kd.R_mono (Kd.R_far (p := ⟨gb225, 1, none⟩) (Kd.R_far (p := ⟨gb225, 0, none⟩) (Kd.R_types HO223.out BK225.out (by decide)) (fun _ hk => hk.2) (.int .i64 t220)) (fun _ hk => hk.2) (.slice Ao30 t221.length co30)) (fun _ h_ => h_.1)))) k_ hk_), (Kd.freshB (g := gb225) (o := .cells #[.int .i64 t220, .slice Ao30 t221.length co30] 68 (0, 0)) (by refine blk_put (cs := #[.int .i64 t220, .slice none 0 0]) ?_ 1 _ rfl; refine blk_put (cs := #[.int .i64 0, .slice none 0 0]) ?_ 0 _ rfl; exact BK225.out) k_ hk_)⟩)) (below_size (by repeat ((with_reducible first | exact HB.out | refine below_set ?_ GE225.out))))); have n6_ := Aside0.mk (blk_below (g := gb225) (o := .cells #[.int .i64 t220, .slice Ao30 t221.length co30] 68 (0, 0)) (by refine blk_put (cs := #[.int .i64 t220, .slice none 0 0]) ?_ 1 _ rfl; refine blk_put (cs := #[.int .i64 0, .slice none 0 0]) ?_ 0 _ rfl; exact BK225.out) hb); have n7_ := Aside0.mk (below_step (by repeat ((with_reducible first | exact HB.out | refine below_set ?_ GE225.out))) hb); clear HO213 HO216 HO219 HO223 BK225 HB; have HO213 := n0_; have HO216 := n1_; have HO219 := n2_; have HO223 := n3_; have HO229 := n4_; have HO232 := n5_; have BK225 := n6_; have HB := n7_; clear n0_ n1_ n2_ n3_ n4_ n5_ n6_ n7_; (try clear hb); (try clear ho0); (try clear ho1)) | ((with_reducible refine gate_dst (N := 15) rfl ?_); (try (refine gate_guard (by rfl) ?_; dsimp only)); refine Kd.R_lit (Kd.int .i64) _ 3 ?hg (N := 15) ?hd (xs := ([0, 1] : List Int)) (inner := [.int .i64 0, .int .i64 1]) (ok := fun _ => True) (okp := fun _ => True) ?hr ?hp (fun _ hk => hk) trivial (Below.refl _ _) (Nat.le_refl _) (by simp) ?_; (case hd => rfl); (case hg => rfl); (case hr => (go_simp; done)); (case hp => exact (Reps.one (show Kd.M (Kd.int .i64) _ _ _ 0 [.int .i64 0] from rfl) (Reps.one (show Kd.M (Kd.int .i64) _ _ _ 1 [.int .i64 1] from rfl) (Reps.none _ _)))); intro v234 w32 ho33 hb hg_ hnew_; clear hg_ hnew_; (rw [← Ny233.out] at ho33); have n0_ := Aside0.mk (Kd.V_elder' HO213.out (Kd.R_base ho33) hb); have n1_ := Aside0.mk (Kd.V_elder' HO216.out (Kd.R_base ho33) hb); have n2_ := Aside0.mk (Kd.R_elder' HO219.out (Kd.R_base ho33) hb); have n3_ := Aside0.mk (Kd.R_elder' HO223.out (Kd.R_base ho33) hb); have n4_ := Aside0.mk (Kd.V_elder' HO229.out (Kd.R_base ho33) hb); have n5_ := Aside0.mk (Kd.V_elder' HO232.out (Kd.R_base ho33) hb); have n6_ := Aside0.mk (Kd.R_lower (Kd.R_new' (Kd.R_new' ho33 (Kd.R_lt HO219.out)) (Kd.R_lt HO223.out)) (below_size HB.out)); have n7_ := Aside0.mk (blk_below (g := gb225) (o := .cells #[.int .i64 t220, .slice Ao30 t221.length co30] 68 (0, 0)) BK225.out hb); have n8_ := Aside0.mk (below_step HB.out hb); clear HO213 HO216 HO219 HO223 HO229 HO232 BK225 HB; have HO213 := n0_; have HO216 := n1_; have HO219 := n2_; have HO223 := n3_; have HO229 := n4_; have HO232 := n5_; have HO235 := n6_; have BK225 := n7_; have HB := n8_; clear n0_ n1_ n2_ n3_ n4_ n5_ n6_ n7_ n8_ hb ho33) | ((with_reducible refine gate_dst (N := 16) rfl ?_); (try (refine gate_guard (by rfl) ?_; dsimp only)); refine Kd.R_lit Kd.string _ 9 ?hg (N := 16) ?hd (xs := ([(⟨#[112]⟩ : ByteArray), (⟨#[115, 117, 112, 101, 114]⟩ : ByteArray)] : List ByteArray)) (inner := [.string (⟨#[112]⟩ : ByteArray), .string (⟨#[115, 117, 112, 101, 114]⟩ : ByteArray)]) (ok := fun _ => True) (okp := fun _ => True) ?hr ?hp (fun _ hk => hk) trivial (Below.refl _ _) (Nat.le_refl _) (by simp) ?_; (case hd => rfl); (case hg => rfl); (case hr => (go_simp; done)); (case hp => exact (Reps.one (show Kd.M Kd.string _ _ _ (⟨#[112]⟩ : ByteArray) [.string (⟨#[112]⟩ : ByteArray)] from rfl) (Reps.one (show Kd.M Kd.string _ _ _ (⟨#[115, 117, 112, 101, 114]⟩ : ByteArray) [.string (⟨#[115, 117, 112, 101, 114]⟩ : ByteArray)] from rfl) (Reps.none _ _)))); intro v237 w34 ho35 hb hg_ hnew_; clear hg_ hnew_; (rw [← Ny236.out] at ho35); have n0_ := Aside0.mk (Kd.V_elder' HO213.out (Kd.R_base ho35) hb); have n1_ := Aside0.mk (Kd.V_elder' HO216.out (Kd.R_base ho35) hb); have n2_ := Aside0.mk (Kd.R_below HO219.out hb); have n3_ := Aside0.mk (Kd.R_below HO223.out hb); have n4_ := Aside0.mk (Kd.V_elder' HO229.out (Kd.R_base ho35) hb); have n5_ := Aside0.mk (Kd.V_elder' HO232.out (Kd.R_base ho35) hb); have n6_ := Aside0.mk (Kd.R_below HO235.out hb); have n7_ := Aside0.mk (Kd.R_lower ho35 (below_size HB.out)); have n8_ := Aside0.mk (blk_below (g := gb225) (o := .cells #[.int .i64 t220, .slice Ao30 t221.length co30] 68 (0, 0)) BK225.out hb); have n9_ := Aside0.mk (below_step HB.out hb); clear HO213 HO216 HO219 HO223 HO229 HO232 HO235 BK225 HB; have HO213 := n0_; have HO216 := n1_; have HO219 := n2_; have HO223 := n3_; have HO229 := n4_; have HO232 := n5_; have HO235 := n6_; have HO238 := n7_; have BK225 := n8_; have HB := n9_; clear n0_ n1_ n2_ n3_ n4_ n5_ n6_ n7_ n8_ n9_ hb ho35; obtain ⟨Ao36, co36, eo36⟩ := Kd.V_slice HO229.out; subst eo36; obtain ⟨Ao37, co37, eo37⟩ := Kd.V_slice HO232.out; subst eo37; obtain ⟨Ao38, co38, eo38⟩ := Kd.R_slice HO235.out; subst eo38; obtain ⟨Ao39, co39, eo39⟩ := Kd.R_slice HO238.out; subst eo39) | ((with_reducible refine gate_callee (f := 32) rfl ?_); refine goesL_ (some 17) rfl rfl Try.func32 (by kernel_rfl) rfl #[.agg #[.string t226, .slice Ao36 t227.length co36, .slice Ao37 t230.length co37], .slice Ao38 y233.length co38, .slice none 0 0, .slice Ao39 y236.length co39] rfl (by (try simp only [List.map_toArray, List.map_cons, List.map_nil]); rfl) ?_; (refine (cover_Choose.calls k t226 _ _ t227 _ _ t230 _ _ y233 _ _ ([] : List Int) _ _ y236 t239 t240 t243 _ ?side1 ?side2 ?side3 ?side4 ?side5 ?side6 ?side7 ?side8 ?side9 ?side10 A4.out).mono ?_); (case side1 => repeat (exact (Kd.V_reads' HO229.out).2.2)); (case side2 => exact (Kd.V_reads' HO229.out).2.1); (case side3 => repeat (exact (Kd.V_reads' HO232.out).2.2)); (case side4 => exact (Kd.V_reads' HO232.out).2.1); (case side5 => repeat (exact (Kd.R_reads' HO235.out).2.2)); (case side6 => exact (Kd.R_reads' HO235.out).2.1); (case side7 => exact Kd.C_nil _ _); (case side8 => exact Nat.le_refl _); (case side9 => repeat (exact (Kd.R_reads' HO238.out).2.2)); (case side10 => exact (Kd.R_reads' HO238.out).2.1); rintro e w40 ⟨v241, rfl, ho0, hb⟩; refine ⟨_, rfl, ?_⟩; have n0_ := Aside0.mk (Kd.V_elder' HO213.out (Kd.R_base ho0) hb); have n1_ := Aside0.mk (Kd.V_elder' HO216.out (Kd.R_base ho0) hb); have n2_ := Aside0.mk (Kd.R_elder' HO219.out (Kd.R_base ho0) hb); have n3_ := Aside0.mk (Kd.R_elder' HO223.out (Kd.R_base ho0) hb); have n4_ := Aside0.mk (Kd.V_elder' HO229.out (Kd.R_base ho0) hb); have n5_ := Aside0.mk (Kd.V_elder' HO232.out (Kd.R_base ho0) hb); have n6_ := Aside0.mk (Kd.R_elder' HO235.out (Kd.R_base ho0) hb); have n7_ := Aside0.mk (Kd.R_below HO238.out hb); have n8_ := Aside0.mk (Kd.R_lower (Kd.R_new' (Kd.R_new' (Kd.R_new' ho0 (Kd.R_lt HO219.out)) (Kd.R_lt HO223.out)) (Kd.R_lt HO235.out)) (below_size HB.out)); have n9_ := Aside0.mk (blk_below (g := gb225) (o := .cells #[.int .i64 t220, .slice Ao30 t221.length co30] 68 (0, 0)) BK225.out hb); have n10_ := Aside0.mk (below_step HB.out hb); clear HO213 HO216 HO219 HO223 HO229 HO232 HO235 HO238 BK225 HB; have HO213 := n0_; have HO216 := n1_; have HO219 := n2_; have HO223 := n3_; have HO229 := n4_; have HO232 := n5_; have HO235 := n6_; have HO238 := n7_; have HO242 := n8_; have BK225 := n9_; have HB := n10_; clear n0_ n1_ n2_ n3_ n4_ n5_ n6_ n7_ n8_ n9_ n10_; (try clear hb); (try clear ho0)) | ((with_reducible refine gate_dst (N := 3) rfl ?_); (try (refine gate_guard (by rfl) ?_; dsimp only)); refine box_event ?hg (N := 3) ?hd (cs := #[.int .i64 0, .slice none 0 0]) (t := 68) ?hr ?_; (case hd => rfl); (case hg => rfl); (case hr => (go_simp; done)); intro gb244 hg w41 hbox hb; have n0_ := Aside0.mk (Kd.V_below (Kd.V_elderB HO213.out gb244 (Nat.le_of_eq hg.symm)) hb); have n1_ := Aside0.mk (Kd.V_below (Kd.V_elderB HO216.out gb244 (Nat.le_of_eq hg.symm)) hb); have n2_ := Aside0.mk (Kd.R_below HO219.out hb); have n3_ := Aside0.mk (Kd.R_below HO223.out hb); have n4_ := Aside0.mk (Kd.V_below (Kd.V_elderB HO229.out gb244 (Nat.le_of_eq hg.symm)) hb); have n5_ := Aside0.mk (Kd.V_below (Kd.V_elderB HO232.out gb244 (Nat.le_of_eq hg.symm)) hb); have n6_ := Aside0.mk (Kd.R_below HO235.out hb); have n7_ := Aside0.mk (Kd.R_below HO238.out hb); have n8_ := Aside0.mk (Kd.R_below HO242.out hb); have n9_ := Aside0.mk (blk_below (g := gb225) (o := .cells #[.int .i64 t220, .slice Ao30 t221.length co30] 68 (0, 0)) BK225.out hb); have n10_ := Aside0.mk (below_step HB.out hb); have n11_ := Aside0.mk (hbox); have n12_ := Aside0.mk ((by rw [hg]; exact (below_size HB.out) : w.heap.size ≤ gb244)); have n13_ := Aside0.mk ((by rw [hg]; exact (below_size HB.out) : w.heap.size ≤ gb244)); have n14_ := Aside0.mk ((by rw [hg]; exact Nat.ne_of_lt (blk_lt (g := gb225) (o := .cells #[.int .i64 t220, .slice Ao30 t221.length co30] 68 (0, 0)) BK225.out) : gb225 ≠ gb244)); have n15_ := Aside0.mk ((by rw [hg]; exact Nat.ne_of_gt (blk_lt (g := gb225) (o := .cells #[.int .i64 t220, .slice Ao30 t221.length co30] 68 (0, 0)) BK225.out) : gb244 ≠ gb225)); clear HO213 HO216 HO219 HO223 HO229 HO232 HO235 HO238 HO242 BK225 HB; have HO213 := n0_; have HO216 := n1_; have HO219 := n2_; have HO223 := n3_; have HO229 := n4_; have HO232 := n5_; have HO235 := n6_; have HO238 := n7_; have HO242 := n8_; have BK225 := n9_; have HB := n10_; have BK244 := n11_; have GW244 := n12_; have GE244 := n13_; have NB225_244 := n14_; have NB244_225 := n15_; clear n0_ n1_ n2_ n3_ n4_ n5_ n6_ n7_ n8_ n9_ n10_ n11_ n12_ n13_ n14_ n15_ hb hbox hg; have hnb42 := NB244_225.out; have hnc42 := NB225_244.out; have hcz43_0 : w41.cell? ⟨gb244, 0, none⟩ = some (.int .i64 0) := (blk_cell BK244.out 0).trans rfl; have hcz43_1 : w41.cell? ⟨gb244, 1, none⟩ = some (.slice none 0 0) := (blk_cell BK244.out 1).trans rfl; have hfz43_0 := blk_frozen BK244.out 0; have hfz43_1 := blk_frozen BK244.out 1; obtain ⟨Ao44, co44, eo44⟩ := Kd.R_slice HO242.out; subst eo44) | ((with_reducible refine gate_callee (f := 75) rfl ?_); refine goesL_ (some 21) rfl rfl Try.func75 (by kernel_rfl) rfl #[] rfl (by (try simp only [List.map_toArray, List.map_cons, List.map_nil]); done) ?_; (with_reducible refine (peristylelaw32_table.calls k  t245 t246 t249 _ A5.out).mono ?_); rintro e w45 ⟨v247, v250, rfl, ho0, ho1, hb⟩; refine ⟨_, rfl, ?_⟩; have n0_ := Aside0.mk (Kd.V_below (by exact (Kd.V_mono (Kd.V_far (p := ⟨gb244, 1, none⟩) (Kd.V_far (p := ⟨gb244, 0, none⟩) (Kd.V_mono HO213.out (fun k_ hk => (⟨hk, hk.2⟩ : _ ∧ k_ ≠ gb244))) (fun _ hk => hk.2) (.int .i64 t239)) (fun _ hk => hk.2) (.slice Ao44 t240.length co44)) (fun _ h_ => h_.1))) hb); have n1_ := Aside0.mk (Kd.V_below (by exact (Kd.V_mono (Kd.V_far (p := ⟨gb244, 1, none⟩) (Kd.V_far (p := ⟨gb244, 0, none⟩) (Kd.V_mono HO216.out (fun k_ hk => (⟨hk, hk.2⟩ : _ ∧ k_ ≠ gb244))) (fun _ hk => hk.2) (.int .i64 t239)) (fun _ hk => hk.2) (.slice Ao44 t240.length co44)) (fun _ h_ => h_.1))) hb); have n2_ := Aside0.mk (Kd.R_below (by exact (Kd.R_mono (Kd.R_far (p := ⟨gb244, 1, none⟩) (Kd.R_far (p := ⟨gb244, 0, none⟩) (Kd.R_types HO219.out BK244.out (by decide)) (fun _ hk => hk.2) (.int .i64 t239)) (fun _ hk => hk.2) (.slice Ao44 t240.length co44)) (fun _ h_ => h_.1))) hb); have n3_ := Aside0.mk (Kd.R_below (by exact (Kd.R_mono (Kd.R_far (p := ⟨gb244, 1, none⟩) (Kd.R_far (p := ⟨gb244, 0, none⟩) (Kd.R_types HO223.out BK244.out (by decide)) (fun _ hk => hk.2) (.int .i64 t239)) (fun _ hk => hk.2) (.slice Ao44 t240.length co44)) (fun _ h_ => h_.1))) hb); have n4_ := Aside0.mk (Kd.V_below (by exact (Kd.V_mono (Kd.V_far (p := ⟨gb244, 1, none⟩) (Kd.V_far (p := ⟨gb244, 0, none⟩) (Kd.V_mono HO229.out (fun k_ hk => (⟨hk, hk.2⟩ : _ ∧ k_ ≠ gb244))) (fun _ hk => hk.2) (.int .i64 t239)) (fun _ hk => hk.2) (.slice Ao44 t240.length co44)) (fun _ h_ => h_.1))) hb); have n5_ := Aside0.mk (Kd.V_below (by exact (Kd.V_mono (Kd.V_far (p := ⟨gb244, 1, none⟩) (Kd.V_far (p := ⟨gb244, 0, none⟩) (Kd.V_mono HO232.out (fun k_ hk => (⟨hk, hk.2⟩ : _ ∧ k_ ≠ gb244))) (fun _ hk => hk.2) (.int .i64 t239)) (fun _ hk => hk.2) (.slice Ao44 t240.length co44)) (fun _ h_ => h_.1))) hb); have n6_ := Aside0.mk (Kd.R_below (by exact (Kd.R_mono (Kd.R_far (p := ⟨gb244, 1, none⟩) (Kd.R_far (p := ⟨gb244, 0, none⟩) (Kd.R_types HO235.out BK244.out (by decide)) (fun _ hk => hk.2) (.int .i64 t239)) (fun _ hk => hk.2) (.slice Ao44 t240.length co44)) (fun _ h_ => h_.1))) hb); have n7_ := Aside0.mk (Kd.R_below (by exact (Kd.R_mono (Kd.R_far (p := ⟨gb244, 1, none⟩) (Kd.R_far (p := ⟨gb244, 0, none⟩) (Kd.R_types HO238.out BK244.out (by decide)) (fun _ hk => hk.2) (.int .i64 t239)) (fun _ hk => hk.2) (.slice Ao44 t240.length co44)) (fun _ h_ => h_.1))) hb); have n8_ := Aside0.mk (Kd.R_below (by exact (Kd.R_mono (Kd.R_far (p := ⟨gb244, 1, none⟩) (Kd.R_far (p := ⟨gb244, 0, none⟩) (Kd.R_types HO242.out BK244.out (by decide)) (fun _ hk => hk.2) (.int .i64 t239)) (fun _ hk => hk.2) (.slice Ao44 t240.length co44)) (fun _ h_ => h_.1))) hb); have n9_ := Aside0.mk (Kd.V_lower (Kd.V_mono (ok' := fun k_ => some k_ ≠ ob_ Ao26 y217.length co26 ∧ some k_ ≠ ob_ Ao30 t221.length co30 ∧ some k_ ≠ ob_ Ao38 y233.length co38 ∧ some k_ ≠ ob_ Ao39 y236.length co39 ∧ some k_ ≠ ob_ Ao44 t240.length co44 ∧ k_ ≠ gb225 ∧ k_ ≠ gb244) ho0 (fun k_ hk_ => ⟨(Kd.fresh' (Kd.R_lt (by exact (Kd.R_mono (Kd.R_far (p := ⟨gb244, 1, none⟩) (Kd.R_far (p := ⟨gb244, 0, none⟩) (Kd.R_types HO219.out BK244.out (by decide)) (fun _ hk => hk.2) (.int .i64 t239)) (fun _ hk => hk.2) (.slice Ao44 t240.length co44)) (fun _ h_ => h_.1)))) k_ hk_), (Kd.fresh' (Kd.R_lt (by exact (Kd.R_mono (Kd.R_far (p := ⟨gb244, 1, none⟩) (Kd.R_far (p := ⟨gb244, 0, none⟩) (Kd.R_types HO223.out BK244.out (by decide)) (fun _ hk => hk.2) (.int .i64 t239)) (fun _ hk => hk.2) (.slice Ao44 t240.length co44)) (fun _ h_ => h_.1)))) k_ hk_), (Kd.fresh' (Kd.R_lt (by exact (Kd.R_mono (Kd.R_far (p := ⟨gb244, 1, none⟩) (Kd.R_far (p := ⟨gb244, 0, none⟩) (Kd.R_types HO235.out BK244.out (by decide)) (fun _ hk => hk.2) (.int .i64 t239)) (fun _ hk => hk.2) (.slice Ao44 t240.length co44)) (fun _ h_ => h_.1)))) k_ hk_), (Kd.fresh' (Kd.R_lt (by exact (Kd.R_mono (Kd.R_far (p := ⟨gb244, 1, none⟩) (Kd.R_far (p := ⟨gb244, 0, none⟩) (Kd.R_types HO238.out BK244.out (by decide)) (fun _ hk => hk.2) (.int .i64 t239)) (fun _ hk => hk.2) (.slice Ao44 t240.length co44)) (fun _ h_ => h_.1)))) k_ hk_), (Kd.fresh' (Kd.R_lt (by exact (Kd.R_mono (Kd.R_far (p := ⟨gb244, 1, none⟩) (Kd.R_far (p := ⟨gb244, 0, none⟩) (Kd.R_types HO242.out BK244.out (by decide)) (fun _ hk => hk.2) (.int .i64 t239)) (fun _ hk => hk.2) (.slice Ao44 t240.length co44)) (fun _ h_ => h_.1)))) k_ hk_), (Kd.freshB (g := gb225) (o := .cells #[.int .i64 t220, .slice Ao30 t221.length co30] 68 (0, 0)) (by refine blk_far ?_ NB225_244.out _; refine blk_far ?_ NB225_244.out _; exact BK225.out) k_ hk_), (Kd.freshB (g := gb244) (o := .cells #[.int .i64 t239, .slice Ao44 t240.length co44] 68 (0, 0)) (by refine blk_put (cs := #[.int .i64 t239, .slice none 0 0]) ?_ 1 _ rfl; refine blk_put (cs := #[.int .i64 0, .slice none 0 0]) ?_ 0 _ rfl; exact BK244.out) k_ hk_)⟩)) (below_size (by repeat ((with_reducible first | exact HB.out | refine below_set ?_ GE244.out))))); have n10_ := Aside0.mk (Kd.V_lower (Kd.V_mono (ok' := fun k_ => some k_ ≠ ob_ Ao26 y217.length co26 ∧ some k_ ≠ ob_ Ao30 t221.length co30 ∧ some k_ ≠ ob_ Ao38 y233.length co38 ∧ some k_ ≠ ob_ Ao39 y236.length co39 ∧ some k_ ≠ ob_ Ao44 t240.length co44 ∧ k_ ≠ gb225 ∧ k_ ≠ gb244) ho1 (fun k_ hk_ => ⟨(Kd.fresh' (Kd.R_lt (by exact (Kd.R_mono (Kd.R_far (p := ⟨gb244, 1, none⟩) (Kd.R_far (p := ⟨gb244, 0, none⟩) (Kd.R_types HO219.out BK244.out (by decide)) (fun _ hk => hk.2) (.int .i64 t239)) (fun _ hk => hk.2) (.slice Ao44 t240.length co44)) (fun _ h_ => h_.1)))) k_ hk_), (Kd.fresh' (Kd.R_lt (by exact (Kd.R_mono (Kd.R_far (p := ⟨gb244, 1, none⟩) (Kd.R_far (p := ⟨gb244, 0, none⟩) (Kd.R_types HO223.out BK244.out (by decide)) (fun _ hk => hk.2) (.int .i64 t239)) (fun _ hk => hk.2) (.slice Ao44 t240.length co44)) (fun _ h_ => h_.1)))) k_ hk_), (Kd.fresh' (Kd.R_lt (by exact (Kd.R_mono (Kd.R_far (p := ⟨gb244, 1, none⟩) (Kd.R_far (p := ⟨gb244, 0, none⟩) (Kd.R_types HO235.out BK244.out (by decide)) (fun _ hk => hk.2) (.int .i64 t239)) (fun _ hk => hk.2) (.slice Ao44 t240.length co44)) (fun _ h_ => h_.1)))) k_ hk_), (Kd.fresh' (Kd.R_lt (by exact (Kd.R_mono (Kd.R_far (p := ⟨gb244, 1, none⟩) (Kd.R_far (p := ⟨gb244, 0, none⟩) (Kd.R_types HO238.out BK244.out (by decide)) (fun _ hk => hk.2) (.int .i64 t239)) (fun _ hk => hk.2) (.slice Ao44 t240.length co44)) (fun _ h_ => h_.1)))) k_ hk_), (Kd.fresh' (Kd.R_lt (by exact (Kd.R_mono (Kd.R_far (p := ⟨gb244, 1, none⟩) (Kd.R_far (p := ⟨gb244, 0, none⟩) (Kd.R_types HO242.out BK244.out (by decide)) (fun _ hk => hk.2) (.int .i64 t239)) (fun _ hk => hk.2) (.slice Ao44 t240.length co44)) (fun _ h_ => h_.1)))) k_ hk_), (Kd.freshB (g := gb225) (o := .cells #[.int .i64 t220, .slice Ao30 t221.length co30] 68 (0, 0)) (by refine blk_far ?_ NB225_244.out _; refine blk_far ?_ NB225_244.out _; exact BK225.out) k_ hk_), (Kd.freshB (g := gb244) (o := .cells #[.int .i64 t239, .slice Ao44 t240.length co44] 68 (0, 0)) (by refine blk_put (cs := #[.int .i64 t239, .slice none 0 0]) ?_ 1 _ rfl; refine blk_put (cs := #[.int .i64 0, .slice none 0 0]) ?_ 0 _ rfl; exact BK244.out) k_ hk_)⟩)) (below_size (by repeat ((with_reducible first | exact HB.out | refine below_set ?_ GE244.out))))); have n11_ := Aside0.mk (blk_below (g := gb225) (o := .cells #[.int .i64 t220, .slice Ao30 t221.length co30] 68 (0, 0)) (by refine blk_far ?_ NB225_244.out _; refine blk_far ?_ NB225_244.out _; exact BK225.out) hb); have n12_ := Aside0.mk (blk_below (g := gb244) (o := .cells #[.int .i64 t239, .slice Ao44 t240.length co44] 68 (0, 0)) (by refine blk_put (cs := #[.int .i64 t239, .slice none 0 0]) ?_ 1 _ rfl; refine blk_put (cs := #[.int .i64 0, .slice none 0 0]) ?_ 0 _ rfl; exact BK244.out) hb); have n13_ := Aside0.mk (below_step (by repeat ((with_reducible first | exact HB.out | refine below_set ?_ GE244.out))) hb); clear HO213 HO216 HO219 HO223 HO229 HO232 HO235 HO238 HO242 BK225 BK244 HB; have HO213 := n0_; have HO216 := n1_; have HO219 := n2_; have HO223 := n3_; have HO229 := n4_; have HO232 := n5_; have HO235 := n6_; have HO238 := n7_; have HO242 := n8_; have HO248 := n9_; have HO251 := n10_; have BK225 := n11_; have BK244 := n12_; have HB := n13_; clear n0_ n1_ n2_ n3_ n4_ n5_ n6_ n7_ n8_ n9_ n10_ n11_ n12_ n13_; (try clear hb); (try clear ho0); (try clear ho1)) | ((with_reducible refine gate_dst (N := 22) rfl ?_); (try (refine gate_guard (by rfl) ?_; dsimp only)); refine Kd.R_lit (Kd.int .i64) _ 3 ?hg (N := 22) ?hd (xs := ([0] : List Int)) (inner := [.int .i64 0]) (ok := fun _ => True) (okp := fun _ => True) ?hr ?hp (fun _ hk => hk) trivial (Below.refl _ _) (Nat.le_refl _) (by simp) ?_; (case hd => rfl); (case hg => rfl); (case hr => (go_simp; done)); (case hp => exact (Reps.one (show Kd.M (Kd.int .i64) _ _ _ 0 [.int .i64 0] from rfl) (Reps.none _ _))); intro v253 w46 ho47 hb hg_ hnew_; clear hg_ hnew_; (rw [← Ny252.out] at ho47); have n0_ := Aside0.mk (Kd.V_elder' HO213.out (Kd.R_base ho47) hb); have n1_ := Aside0.mk (Kd.V_elder' HO216.out (Kd.R_base ho47) hb); have n2_ := Aside0.mk (Kd.R_elder' HO219.out (Kd.R_base ho47) hb); have n3_ := Aside0.mk (Kd.R_elder' HO223.out (Kd.R_base ho47) hb); have n4_ := Aside0.mk (Kd.V_elder' HO229.out (Kd.R_base ho47) hb); have n5_ := Aside0.mk (Kd.V_elder' HO232.out (Kd.R_base ho47) hb); have n6_ := Aside0.mk (Kd.R_elder' HO235.out (Kd.R_base ho47) hb); have n7_ := Aside0.mk (Kd.R_below HO238.out hb); have n8_ := Aside0.mk (Kd.R_elder' HO242.out (Kd.R_base ho47) hb); have n9_ := Aside0.mk (Kd.V_elder' HO248.out (Kd.R_base ho47) hb); have n10_ := Aside0.mk (Kd.V_elder' HO251.out (Kd.R_base ho47) hb); have n11_ := Aside0.mk (Kd.R_lower (Kd.R_new' (Kd.R_new' (Kd.R_new' (Kd.R_new' ho47 (Kd.R_lt HO219.out)) (Kd.R_lt HO223.out)) (Kd.R_lt HO235.out)) (Kd.R_lt HO242.out)) (below_size HB.out)); have n12_ := Aside0.mk (blk_below (g := gb225) (o := .cells #[.int .i64 t220, .slice Ao30 t221.length co30] 68 (0, 0)) BK225.out hb); have n13_ := Aside0.mk (blk_below (g := gb244) (o := .cells #[.int .i64 t239, .slice Ao44 t240.length co44] 68 (0, 0)) BK244.out hb); have n14_ := Aside0.mk (below_step HB.out hb); clear HO213 HO216 HO219 HO223 HO229 HO232 HO235 HO238 HO242 HO248 HO251 BK225 BK244 HB; have HO213 := n0_; have HO216 := n1_; have HO219 := n2_; have HO223 := n3_; have HO229 := n4_; have HO232 := n5_; have HO235 := n6_; have HO238 := n7_; have HO242 := n8_; have HO248 := n9_; have HO251 := n10_; have HO254 := n11_; have BK225 := n12_; have BK244 := n13_; have HB := n14_; clear n0_ n1_ n2_ n3_ n4_ n5_ n6_ n7_ n8_ n9_ n10_ n11_ n12_ n13_ n14_ hb ho47) | ((with_reducible refine gate_dst (N := 23) rfl ?_); (try (refine gate_guard (by rfl) ?_; dsimp only)); refine Kd.R_lit Kd.string _ 9 ?hg (N := 23) ?hd (xs := ([(⟨#[112]⟩ : ByteArray)] : List ByteArray)) (inner := [.string (⟨#[112]⟩ : ByteArray)]) (ok := fun _ => True) (okp := fun _ => True) ?hr ?hp (fun _ hk => hk) trivial (Below.refl _ _) (Nat.le_refl _) (by simp) ?_; (case hd => rfl); (case hg => rfl); (case hr => (go_simp; done)); (case hp => exact (Reps.one (show Kd.M Kd.string _ _ _ (⟨#[112]⟩ : ByteArray) [.string (⟨#[112]⟩ : ByteArray)] from rfl) (Reps.none _ _))); intro v256 w48 ho49 hb hg_ hnew_; clear hg_ hnew_; (rw [← Ny255.out] at ho49); have n0_ := Aside0.mk (Kd.V_elder' HO213.out (Kd.R_base ho49) hb); have n1_ := Aside0.mk (Kd.V_elder' HO216.out (Kd.R_base ho49) hb); have n2_ := Aside0.mk (Kd.R_below HO219.out hb); have n3_ := Aside0.mk (Kd.R_below HO223.out hb); have n4_ := Aside0.mk (Kd.V_elder' HO229.out (Kd.R_base ho49) hb); have n5_ := Aside0.mk (Kd.V_elder' HO232.out (Kd.R_base ho49) hb); have n6_ := Aside0.mk (Kd.R_below HO235.out hb); have n7_ := Aside0.mk (Kd.R_elder' HO238.out (Kd.R_base ho49) hb); have n8_ := Aside0.mk (Kd.R_below HO242.out hb); have n9_ := Aside0.mk (Kd.V_elder' HO248.out (Kd.R_base ho49) hb); have n10_ := Aside0.mk (Kd.V_elder' HO251.out (Kd.R_base ho49) hb); have n11_ := Aside0.mk (Kd.R_below HO254.out hb); have n12_ := Aside0.mk (Kd.R_lower (Kd.R_new' ho49 (Kd.R_lt HO238.out)) (below_size HB.out)); have n13_ := Aside0.mk (blk_below (g := gb225) (o := .cells #[.int .i64 t220, .slice Ao30 t221.length co30] 68 (0, 0)) BK225.out hb); have n14_ := Aside0.mk (blk_below (g := gb244) (o := .cells #[.int .i64 t239, .slice Ao44 t240.length co44] 68 (0, 0)) BK244.out hb); have n15_ := Aside0.mk (below_step HB.out hb); clear HO213 HO216 HO219 HO223 HO229 HO232 HO235 HO238 HO242 HO248 HO251 HO254 BK225 BK244 HB; have HO213 := n0_; have HO216 := n1_; have HO219 := n2_; have HO223 := n3_; have HO229 := n4_; have HO232 := n5_; have HO235 := n6_; have HO238 := n7_; have HO242 := n8_; have HO248 := n9_; have HO251 := n10_; have HO254 := n11_; have HO257 := n12_; have BK225 := n13_; have BK244 := n14_; have HB := n15_; clear n0_ n1_ n2_ n3_ n4_ n5_ n6_ n7_ n8_ n9_ n10_ n11_ n12_ n13_ n14_ n15_ hb ho49; obtain ⟨Ao50, co50, eo50⟩ := Kd.V_slice HO248.out; subst eo50; obtain ⟨Ao51, co51, eo51⟩ := Kd.V_slice HO251.out; subst eo51; obtain ⟨Ao52, co52, eo52⟩ := Kd.R_slice HO254.out; subst eo52; obtain ⟨Ao53, co53, eo53⟩ := Kd.R_slice HO257.out; subst eo53) | ((with_reducible refine gate_callee (f := 32) rfl ?_); refine goesL_ (some 24) rfl rfl Try.func32 (by kernel_rfl) rfl #[.agg #[.string t245, .slice Ao50 t246.length co50, .slice Ao51 t249.length co51], .slice Ao52 y252.length co52, .slice none 0 0, .slice Ao53 y255.length co53] rfl (by (try simp only [List.map_toArray, List.map_cons, List.map_nil]); rfl) ?_; (refine (cover_Choose.calls k t245 _ _ t246 _ _ t249 _ _ y252 _ _ ([] : List Int) _ _ y255 t258 t259 t262 _ ?side1 ?side2 ?side3 ?side4 ?side5 ?side6 ?side7 ?side8 ?side9 ?side10 A6.out).mono ?_); (case side1 => repeat (exact (Kd.V_reads' HO248.out).2.2)); (case side2 => exact (Kd.V_reads' HO248.out).2.1); (case side3 => repeat (exact (Kd.V_reads' HO251.out).2.2)); (case side4 => exact (Kd.V_reads' HO251.out).2.1); (case side5 => repeat (exact (Kd.R_reads' HO254.out).2.2)); (case side6 => exact (Kd.R_reads' HO254.out).2.1); (case side7 => exact Kd.C_nil _ _); (case side8 => exact Nat.le_refl _); (case side9 => repeat (exact (Kd.R_reads' HO257.out).2.2)); (case side10 => exact (Kd.R_reads' HO257.out).2.1); rintro e w54 ⟨v260, rfl, ho0, hb⟩; refine ⟨_, rfl, ?_⟩; have n0_ := Aside0.mk (Kd.V_elder' HO213.out (Kd.R_base ho0) hb); have n1_ := Aside0.mk (Kd.V_elder' HO216.out (Kd.R_base ho0) hb); have n2_ := Aside0.mk (Kd.R_elder' HO219.out (Kd.R_base ho0) hb); have n3_ := Aside0.mk (Kd.R_elder' HO223.out (Kd.R_base ho0) hb); have n4_ := Aside0.mk (Kd.V_elder' HO229.out (Kd.R_base ho0) hb); have n5_ := Aside0.mk (Kd.V_elder' HO232.out (Kd.R_base ho0) hb); have n6_ := Aside0.mk (Kd.R_elder' HO235.out (Kd.R_base ho0) hb); have n7_ := Aside0.mk (Kd.R_below HO238.out hb); have n8_ := Aside0.mk (Kd.R_elder' HO242.out (Kd.R_base ho0) hb); have n9_ := Aside0.mk (Kd.V_elder' HO248.out (Kd.R_base ho0) hb); have n10_ := Aside0.mk (Kd.V_elder' HO251.out (Kd.R_base ho0) hb); have n11_ := Aside0.mk (Kd.R_elder' HO254.out (Kd.R_base ho0) hb); have n12_ := Aside0.mk (Kd.R_below HO257.out hb); have n13_ := Aside0.mk (Kd.R_lower (Kd.R_new' (Kd.R_new' (Kd.R_new' (Kd.R_new' (Kd.R_new' ho0 (Kd.R_lt HO219.out)) (Kd.R_lt HO223.out)) (Kd.R_lt HO235.out)) (Kd.R_lt HO242.out)) (Kd.R_lt HO254.out)) (below_size HB.out)); have n14_ := Aside0.mk (blk_below (g := gb225) (o := .cells #[.int .i64 t220, .slice Ao30 t221.length co30] 68 (0, 0)) BK225.out hb); have n15_ := Aside0.mk (blk_below (g := gb244) (o := .cells #[.int .i64 t239, .slice Ao44 t240.length co44] 68 (0, 0)) BK244.out hb); have n16_ := Aside0.mk (below_step HB.out hb); clear HO213 HO216 HO219 HO223 HO229 HO232 HO235 HO238 HO242 HO248 HO251 HO254 HO257 BK225 BK244 HB; have HO213 := n0_; have HO216 := n1_; have HO219 := n2_; have HO223 := n3_; have HO229 := n4_; have HO232 := n5_; have HO235 := n6_; have HO238 := n7_; have HO242 := n8_; have HO248 := n9_; have HO251 := n10_; have HO254 := n11_; have HO257 := n12_; have HO261 := n13_; have BK225 := n14_; have BK244 := n15_; have HB := n16_; clear n0_ n1_ n2_ n3_ n4_ n5_ n6_ n7_ n8_ n9_ n10_ n11_ n12_ n13_ n14_ n15_ n16_; (try clear hb); (try clear ho0)) | ((with_reducible refine gate_dst (N := 5) rfl ?_); (try (refine gate_guard (by rfl) ?_; dsimp only)); refine box_event ?hg (N := 5) ?hd (cs := #[.int .i64 0, .slice none 0 0]) (t := 68) ?hr ?_; (case hd => rfl); (case hg => rfl); (case hr => (go_simp; done)); intro gb263 hg w55 hbox hb; have n0_ := Aside0.mk (Kd.V_below (Kd.V_elderB HO213.out gb263 (Nat.le_of_eq hg.symm)) hb); have n1_ := Aside0.mk (Kd.V_below (Kd.V_elderB HO216.out gb263 (Nat.le_of_eq hg.symm)) hb); have n2_ := Aside0.mk (Kd.R_below HO219.out hb); have n3_ := Aside0.mk (Kd.R_below HO223.out hb); have n4_ := Aside0.mk (Kd.V_below (Kd.V_elderB HO229.out gb263 (Nat.le_of_eq hg.symm)) hb); have n5_ := Aside0.mk (Kd.V_below (Kd.V_elderB HO232.out gb263 (Nat.le_of_eq hg.symm)) hb); have n6_ := Aside0.mk (Kd.R_below HO235.out hb); have n7_ := Aside0.mk (Kd.R_below HO238.out hb); have n8_ := Aside0.mk (Kd.R_below HO242.out hb); have n9_ := Aside0.mk (Kd.V_below (Kd.V_elderB HO248.out gb263 (Nat.le_of_eq hg.symm)) hb); have n10_ := Aside0.mk (Kd.V_below (Kd.V_elderB HO251.out gb263 (Nat.le_of_eq hg.symm)) hb); have n11_ := Aside0.mk (Kd.R_below HO254.out hb); have n12_ := Aside0.mk (Kd.R_below HO257.out hb); have n13_ := Aside0.mk (Kd.R_below HO261.out hb); have n14_ := Aside0.mk (blk_below (g := gb225) (o := .cells #[.int .i64 t220, .slice Ao30 t221.length co30] 68 (0, 0)) BK225.out hb); have n15_ := Aside0.mk (blk_below (g := gb244) (o := .cells #[.int .i64 t239, .slice Ao44 t240.length co44] 68 (0, 0)) BK244.out hb); have n16_ := Aside0.mk (below_step HB.out hb); have n17_ := Aside0.mk (hbox); have n18_ := Aside0.mk ((by rw [hg]; exact (below_size HB.out) : w.heap.size ≤ gb263)); have n19_ := Aside0.mk ((by rw [hg]; exact (below_size HB.out) : w.heap.size ≤ gb263)); have n20_ := Aside0.mk ((by rw [hg]; exact Nat.ne_of_lt (blk_lt (g := gb225) (o := .cells #[.int .i64 t220, .slice Ao30 t221.length co30] 68 (0, 0)) BK225.out) : gb225 ≠ gb263)); have n21_ := Aside0.mk ((by rw [hg]; exact Nat.ne_of_gt (blk_lt (g := gb225) (o := .cells #[.int .i64 t220, .slice Ao30 t221.length co30] 68 (0, 0)) BK225.out) : gb263 ≠ gb225)); have n22_ := Aside0.mk ((by rw [hg]; exact Nat.ne_of_lt (blk_lt (g := gb244) (o := .cells #[.int .i64 t239, .slice Ao44 t240.length co44] 68 (0, 0)) BK244.out) : gb244 ≠ gb263)); have n23_ := Aside0.mk ((by rw [hg]; exact Nat.ne_of_gt (blk_lt (g := gb244) (o := .cells #[.int .i64 t239, .slice Ao44 t240.length co44] 68 (0, 0)) BK244.out) : gb263 ≠ gb244)); clear HO213 HO216 HO219 HO223 HO229 HO232 HO235 HO238 HO242 HO248 HO251 HO254 HO257 HO261 BK225 BK244 HB; have HO213 := n0_; have HO216 := n1_; have HO219 := n2_; have HO223 := n3_; have HO229 := n4_; have HO232 := n5_; have HO235 := n6_; have HO238 := n7_; have HO242 := n8_; have HO248 := n9_; have HO251 := n10_; have HO254 := n11_; have HO257 := n12_; have HO261 := n13_; have BK225 := n14_; have BK244 := n15_; have HB := n16_; have BK263 := n17_; have GW263 := n18_; have GE263 := n19_; have NB225_263 := n20_; have NB263_225 := n21_; have NB244_263 := n22_; have NB263_244 := n23_; clear n0_ n1_ n2_ n3_ n4_ n5_ n6_ n7_ n8_ n9_ n10_ n11_ n12_ n13_ n14_ n15_ n16_ n17_ n18_ n19_ n20_ n21_ n22_ n23_ hb hbox hg; have hnb56 := NB263_225.out; have hnc56 := NB225_263.out; have hnb57 := NB263_244.out; have hnc57 := NB244_263.out; have hcz58_0 : w55.cell? ⟨gb263, 0, none⟩ = some (.int .i64 0) := (blk_cell BK263.out 0).trans rfl; have hcz58_1 : w55.cell? ⟨gb263, 1, none⟩ = some (.slice none 0 0) := (blk_cell BK263.out 1).trans rfl; have hfz58_0 := blk_frozen BK263.out 0; have hfz58_1 := blk_frozen BK263.out 1; obtain ⟨Ao59, co59, eo59⟩ := Kd.R_slice HO261.out; subst eo59))
         have n0_ : Aside0 (Kd.V k177 177 ((w55.setCell ⟨gb263, 0, none⟩ (.int .i64 t258)).setCell ⟨gb263, 1, none⟩ (.slice Ao59 t259.length co59)) w.heap.size (fun k_ => some k_ ≠ ob_ Ao26 y217.length co26 ∧ some k_ ≠ ob_ Ao30 t221.length co30 ∧ some k_ ≠ ob_ Ao38 y233.length co38 ∧ some k_ ≠ ob_ Ao39 y236.length co39 ∧ some k_ ≠ ob_ Ao44 t240.length co44 ∧ some k_ ≠ ob_ Ao52 y252.length co52 ∧ some k_ ≠ ob_ Ao53 y255.length co53 ∧ some k_ ≠ ob_ Ao59 t259.length co59 ∧ k_ ≠ gb225 ∧ k_ ≠ gb244 ∧ k_ ≠ gb263) (.slice Ao24 t211.length co24) t211) := ⟨by exact Kd.V_mono (Kd.V_far (p := ⟨gb263, 1, none⟩) (Kd.V_far (p := ⟨gb263, 0, none⟩) (Kd.V_mono HO213.out (fun k_ hk => (⟨hk, hk.2⟩ : _ ∧ k_ ≠ gb263))) (fun _ hk => hk.2) (.int .i64 t258)) (fun _ hk => hk.2) (.slice Ao59 t259.length co59)) (fun _ hk => ⟨hk.1.1.1.1.1.1.1.1.1.1.1.2, ⟨hk.1.1.1.1.1.1.1.1.1.1.2, ⟨hk.1.1.1.1.1.1.1.1.2, ⟨hk.1.1.1.1.1.1.1.2, ⟨hk.1.1.1.1.1.1.2, ⟨hk.1.1.1.1.2, ⟨hk.1.1.1.2, ⟨hk.1.1.2, ⟨hk.1.1.1.1.1.1.1.1.1.2, ⟨hk.1.1.1.1.1.2, hk.1.2⟩⟩⟩⟩⟩⟩⟩⟩⟩⟩)⟩
         have n1_ : Aside0 (Kd.V k138 138 ((w55.setCell ⟨gb263, 0, none⟩ (.int .i64 t258)).setCell ⟨gb263, 1, none⟩ (.slice Ao59 t259.length co59)) w.heap.size (fun k_ => some k_ ≠ ob_ Ao26 y217.length co26 ∧ some k_ ≠ ob_ Ao30 t221.length co30 ∧ some k_ ≠ ob_ Ao38 y233.length co38 ∧ some k_ ≠ ob_ Ao39 y236.length co39 ∧ some k_ ≠ ob_ Ao44 t240.length co44 ∧ some k_ ≠ ob_ Ao52 y252.length co52 ∧ some k_ ≠ ob_ Ao53 y255.length co53 ∧ some k_ ≠ ob_ Ao59 t259.length co59 ∧ k_ ≠ gb225 ∧ k_ ≠ gb244 ∧ k_ ≠ gb263) (.slice Ao25 t214.length co25) t214) := ⟨by exact Kd.V_mono (Kd.V_far (p := ⟨gb263, 1, none⟩) (Kd.V_far (p := ⟨gb263, 0, none⟩) (Kd.V_mono HO216.out (fun k_ hk => (⟨hk, hk.2⟩ : _ ∧ k_ ≠ gb263))) (fun _ hk => hk.2) (.int .i64 t258)) (fun _ hk => hk.2) (.slice Ao59 t259.length co59)) (fun _ hk => ⟨hk.1.1.1.1.1.1.1.1.1.1.1.2, ⟨hk.1.1.1.1.1.1.1.1.1.1.2, ⟨hk.1.1.1.1.1.1.1.1.2, ⟨hk.1.1.1.1.1.1.1.2, ⟨hk.1.1.1.1.1.1.2, ⟨hk.1.1.1.1.2, ⟨hk.1.1.1.2, ⟨hk.1.1.2, ⟨hk.1.1.1.1.1.1.1.1.1.2, ⟨hk.1.1.1.1.1.2, hk.1.2⟩⟩⟩⟩⟩⟩⟩⟩⟩⟩)⟩
         have n2_ : Aside0 (Kd.R (Kd.int .i64) 3 ((w55.setCell ⟨gb263, 0, none⟩ (.int .i64 t258)).setCell ⟨gb263, 1, none⟩ (.slice Ao59 t259.length co59)) w.heap.size (fun k_ => some k_ ≠ ob_ Ao30 t221.length co30 ∧ some k_ ≠ ob_ Ao38 y233.length co38 ∧ some k_ ≠ ob_ Ao44 t240.length co44 ∧ some k_ ≠ ob_ Ao52 y252.length co52 ∧ some k_ ≠ ob_ Ao59 t259.length co59) (.slice Ao26 y217.length co26) y217) := ⟨by exact Kd.R_mono (Kd.R_far (p := ⟨gb263, 1, none⟩) (Kd.R_far (p := ⟨gb263, 0, none⟩) (Kd.R_types HO219.out BK263.out (by decide)) (fun _ hk => hk.2) (.int .i64 t258)) (fun _ hk => hk.2) (.slice Ao59 t259.length co59)) (fun _ hk => ⟨hk.1.1.1.1.1.2, ⟨hk.1.1.1.1.2, ⟨hk.1.1.1.2, ⟨hk.1.1.2, hk.1.2⟩⟩⟩⟩)⟩
         have n3_ : Aside0 (Kd.R (Kd.int .i64) 3 ((w55.setCell ⟨gb263, 0, none⟩ (.int .i64 t258)).setCell ⟨gb263, 1, none⟩ (.slice Ao59 t259.length co59)) w.heap.size (fun k_ => some k_ ≠ ob_ Ao26 y217.length co26 ∧ some k_ ≠ ob_ Ao38 y233.length co38 ∧ some k_ ≠ ob_ Ao44 t240.length co44 ∧ some k_ ≠ ob_ Ao52 y252.length co52 ∧ some k_ ≠ ob_ Ao59 t259.length co59) (.slice Ao30 t221.length co30) t221) := ⟨by exact Kd.R_mono (Kd.R_far (p := ⟨gb263, 1, none⟩) (Kd.R_far (p := ⟨gb263, 0, none⟩) (Kd.R_types HO223.out BK263.out (by decide)) (fun _ hk => hk.2) (.int .i64 t258)) (fun _ hk => hk.2) (.slice Ao59 t259.length co59)) (fun _ hk => ⟨hk.1.1.1.1.1.2, ⟨hk.1.1.1.1.2, ⟨hk.1.1.1.2, ⟨hk.1.1.2, hk.1.2⟩⟩⟩⟩)⟩
         have n4_ : Aside0 (Kd.V k177 177 ((w55.setCell ⟨gb263, 0, none⟩ (.int .i64 t258)).setCell ⟨gb263, 1, none⟩ (.slice Ao59 t259.length co59)) w.heap.size (fun k_ => some k_ ≠ ob_ Ao26 y217.length co26 ∧ some k_ ≠ ob_ Ao30 t221.length co30 ∧ some k_ ≠ ob_ Ao38 y233.length co38 ∧ some k_ ≠ ob_ Ao39 y236.length co39 ∧ some k_ ≠ ob_ Ao44 t240.length co44 ∧ some k_ ≠ ob_ Ao52 y252.length co52 ∧ some k_ ≠ ob_ Ao53 y255.length co53 ∧ some k_ ≠ ob_ Ao59 t259.length co59 ∧ k_ ≠ gb225 ∧ k_ ≠ gb244 ∧ k_ ≠ gb263) (.slice Ao36 t227.length co36) t227) := ⟨by exact Kd.V_mono (Kd.V_far (p := ⟨gb263, 1, none⟩) (Kd.V_far (p := ⟨gb263, 0, none⟩) (Kd.V_mono HO229.out (fun k_ hk => (⟨hk, hk.2⟩ : _ ∧ k_ ≠ gb263))) (fun _ hk => hk.2) (.int .i64 t258)) (fun _ hk => hk.2) (.slice Ao59 t259.length co59)) (fun _ hk => ⟨hk.1.1.1.1.1.1.1.1.1.1, ⟨hk.1.1.1.1.1.1.1.1.1.2.1, ⟨hk.1.1.1.1.1.1.1.1.2, ⟨hk.1.1.1.1.1.1.1.2, ⟨hk.1.1.1.1.1.1.2, ⟨hk.1.1.1.1.2, ⟨hk.1.1.1.2, ⟨hk.1.1.2, ⟨hk.1.1.1.1.1.1.1.1.1.2.2, ⟨hk.1.1.1.1.1.2, hk.1.2⟩⟩⟩⟩⟩⟩⟩⟩⟩⟩)⟩
         have n5_ : Aside0 (Kd.V k138 138 ((w55.setCell ⟨gb263, 0, none⟩ (.int .i64 t258)).setCell ⟨gb263, 1, none⟩ (.slice Ao59 t259.length co59)) w.heap.size (fun k_ => some k_ ≠ ob_ Ao26 y217.length co26 ∧ some k_ ≠ ob_ Ao30 t221.length co30 ∧ some k_ ≠ ob_ Ao38 y233.length co38 ∧ some k_ ≠ ob_ Ao39 y236.length co39 ∧ some k_ ≠ ob_ Ao44 t240.length co44 ∧ some k_ ≠ ob_ Ao52 y252.length co52 ∧ some k_ ≠ ob_ Ao53 y255.length co53 ∧ some k_ ≠ ob_ Ao59 t259.length co59 ∧ k_ ≠ gb225 ∧ k_ ≠ gb244 ∧ k_ ≠ gb263) (.slice Ao37 t230.length co37) t230) := ⟨by exact Kd.V_mono (Kd.V_far (p := ⟨gb263, 1, none⟩) (Kd.V_far (p := ⟨gb263, 0, none⟩) (Kd.V_mono HO232.out (fun k_ hk => (⟨hk, hk.2⟩ : _ ∧ k_ ≠ gb263))) (fun _ hk => hk.2) (.int .i64 t258)) (fun _ hk => hk.2) (.slice Ao59 t259.length co59)) (fun _ hk => ⟨hk.1.1.1.1.1.1.1.1.1.1, ⟨hk.1.1.1.1.1.1.1.1.1.2.1, ⟨hk.1.1.1.1.1.1.1.1.2, ⟨hk.1.1.1.1.1.1.1.2, ⟨hk.1.1.1.1.1.1.2, ⟨hk.1.1.1.1.2, ⟨hk.1.1.1.2, ⟨hk.1.1.2, ⟨hk.1.1.1.1.1.1.1.1.1.2.2, ⟨hk.1.1.1.1.1.2, hk.1.2⟩⟩⟩⟩⟩⟩⟩⟩⟩⟩)⟩
         have n6_ : Aside0 (Kd.R (Kd.int .i64) 3 ((w55.setCell ⟨gb263, 0, none⟩ (.int .i64 t258)).setCell ⟨gb263, 1, none⟩ (.slice Ao59 t259.length co59)) w.heap.size (fun k_ => some k_ ≠ ob_ Ao26 y217.length co26 ∧ some k_ ≠ ob_ Ao30 t221.length co30 ∧ some k_ ≠ ob_ Ao44 t240.length co44 ∧ some k_ ≠ ob_ Ao52 y252.length co52 ∧ some k_ ≠ ob_ Ao59 t259.length co59) (.slice Ao38 y233.length co38) y233) := ⟨by exact Kd.R_mono (Kd.R_far (p := ⟨gb263, 1, none⟩) (Kd.R_far (p := ⟨gb263, 0, none⟩) (Kd.R_types HO235.out BK263.out (by decide)) (fun _ hk => hk.2) (.int .i64 t258)) (fun _ hk => hk.2) (.slice Ao59 t259.length co59)) (fun _ hk => ⟨hk.1.1.1.1.1.2, ⟨hk.1.1.1.1.2, ⟨hk.1.1.1.2, ⟨hk.1.1.2, hk.1.2⟩⟩⟩⟩)⟩
         have n7_ : Aside0 (Kd.R Kd.string 9 ((w55.setCell ⟨gb263, 0, none⟩ (.int .i64 t258)).setCell ⟨gb263, 1, none⟩ (.slice Ao59 t259.length co59)) w.heap.size (fun k_ => some k_ ≠ ob_ Ao53 y255.length co53) (.slice Ao39 y236.length co39) y236) := ⟨by exact Kd.R_mono (Kd.R_far (p := ⟨gb263, 1, none⟩) (Kd.R_far (p := ⟨gb263, 0, none⟩) (Kd.R_types HO238.out BK263.out (by decide)) (fun _ hk => hk.2) (.int .i64 t258)) (fun _ hk => hk.2) (.slice Ao59 t259.length co59)) (fun _ hk => hk.1.2)⟩
         have n8_ : Aside0 (Kd.R (Kd.int .i64) 3 ((w55.setCell ⟨gb263, 0, none⟩ (.int .i64 t258)).setCell ⟨gb263, 1, none⟩ (.slice Ao59 t259.length co59)) w.heap.size (fun k_ => some k_ ≠ ob_ Ao26 y217.length co26 ∧ some k_ ≠ ob_ Ao30 t221.length co30 ∧ some k_ ≠ ob_ Ao38 y233.length co38 ∧ some k_ ≠ ob_ Ao52 y252.length co52 ∧ some k_ ≠ ob_ Ao59 t259.length co59) (.slice Ao44 t240.length co44) t240) := ⟨by exact Kd.R_mono (Kd.R_far (p := ⟨gb263, 1, none⟩) (Kd.R_far (p := ⟨gb263, 0, none⟩) (Kd.R_types HO242.out BK263.out (by decide)) (fun _ hk => hk.2) (.int .i64 t258)) (fun _ hk => hk.2) (.slice Ao59 t259.length co59)) (fun _ hk => ⟨hk.1.1.1.1.1.2, ⟨hk.1.1.1.1.2, ⟨hk.1.1.1.2, ⟨hk.1.1.2, hk.1.2⟩⟩⟩⟩)⟩
         have n9_ : Aside0 (Kd.V k177 177 ((w55.setCell ⟨gb263, 0, none⟩ (.int .i64 t258)).setCell ⟨gb263, 1, none⟩ (.slice Ao59 t259.length co59)) w.heap.size (fun k_ => some k_ ≠ ob_ Ao26 y217.length co26 ∧ some k_ ≠ ob_ Ao30 t221.length co30 ∧ some k_ ≠ ob_ Ao38 y233.length co38 ∧ some k_ ≠ ob_ Ao39 y236.length co39 ∧ some k_ ≠ ob_ Ao44 t240.length co44 ∧ some k_ ≠ ob_ Ao52 y252.length co52 ∧ some k_ ≠ ob_ Ao53 y255.length co53 ∧ some k_ ≠ ob_ Ao59 t259.length co59 ∧ k_ ≠ gb225 ∧ k_ ≠ gb244 ∧ k_ ≠ gb263) (.slice Ao50 t246.length co50) t246) := ⟨by exact Kd.V_mono (Kd.V_far (p := ⟨gb263, 1, none⟩) (Kd.V_far (p := ⟨gb263, 0, none⟩) (Kd.V_mono HO248.out (fun k_ hk => (⟨hk, hk.2⟩ : _ ∧ k_ ≠ gb263))) (fun _ hk => hk.2) (.int .i64 t258)) (fun _ hk => hk.2) (.slice Ao59 t259.length co59)) (fun _ hk => ⟨hk.1.1.1.1.1.1, ⟨hk.1.1.1.1.1.2.1, ⟨hk.1.1.1.1.1.2.2.1, ⟨hk.1.1.1.1.1.2.2.2.1, ⟨hk.1.1.1.1.1.2.2.2.2.1, ⟨hk.1.1.1.1.2, ⟨hk.1.1.1.2, ⟨hk.1.1.2, ⟨hk.1.1.1.1.1.2.2.2.2.2.1, ⟨hk.1.1.1.1.1.2.2.2.2.2.2, hk.1.2⟩⟩⟩⟩⟩⟩⟩⟩⟩⟩)⟩
         have n10_ : Aside0 (Kd.V k138 138 ((w55.setCell ⟨gb263, 0, none⟩ (.int .i64 t258)).setCell ⟨gb263, 1, none⟩ (.slice Ao59 t259.length co59)) w.heap.size (fun k_ => some k_ ≠ ob_ Ao26 y217.length co26 ∧ some k_ ≠ ob_ Ao30 t221.length co30 ∧ some k_ ≠ ob_ Ao38 y233.length co38 ∧ some k_ ≠ ob_ Ao39 y236.length co39 ∧ some k_ ≠ ob_ Ao44 t240.length co44 ∧ some k_ ≠ ob_ Ao52 y252.length co52 ∧ some k_ ≠ ob_ Ao53 y255.length co53 ∧ some k_ ≠ ob_ Ao59 t259.length co59 ∧ k_ ≠ gb225 ∧ k_ ≠ gb244 ∧ k_ ≠ gb263) (.slice Ao51 t249.length co51) t249) := ⟨by exact Kd.V_mono (Kd.V_far (p := ⟨gb263, 1, none⟩) (Kd.V_far (p := ⟨gb263, 0, none⟩) (Kd.V_mono HO251.out (fun k_ hk => (⟨hk, hk.2⟩ : _ ∧ k_ ≠ gb263))) (fun _ hk => hk.2) (.int .i64 t258)) (fun _ hk => hk.2) (.slice Ao59 t259.length co59)) (fun _ hk => ⟨hk.1.1.1.1.1.1, ⟨hk.1.1.1.1.1.2.1, ⟨hk.1.1.1.1.1.2.2.1, ⟨hk.1.1.1.1.1.2.2.2.1, ⟨hk.1.1.1.1.1.2.2.2.2.1, ⟨hk.1.1.1.1.2, ⟨hk.1.1.1.2, ⟨hk.1.1.2, ⟨hk.1.1.1.1.1.2.2.2.2.2.1, ⟨hk.1.1.1.1.1.2.2.2.2.2.2, hk.1.2⟩⟩⟩⟩⟩⟩⟩⟩⟩⟩)⟩
         have n11_ : Aside0 (Kd.R (Kd.int .i64) 3 ((w55.setCell ⟨gb263, 0, none⟩ (.int .i64 t258)).setCell ⟨gb263, 1, none⟩ (.slice Ao59 t259.length co59)) w.heap.size (fun k_ => some k_ ≠ ob_ Ao26 y217.length co26 ∧ some k_ ≠ ob_ Ao30 t221.length co30 ∧ some k_ ≠ ob_ Ao38 y233.length co38 ∧ some k_ ≠ ob_ Ao44 t240.length co44 ∧ some k_ ≠ ob_ Ao59 t259.length co59) (.slice Ao52 y252.length co52) y252) := ⟨by exact Kd.R_mono (Kd.R_far (p := ⟨gb263, 1, none⟩) (Kd.R_far (p := ⟨gb263, 0, none⟩) (Kd.R_types HO254.out BK263.out (by decide)) (fun _ hk => hk.2) (.int .i64 t258)) (fun _ hk => hk.2) (.slice Ao59 t259.length co59)) (fun _ hk => ⟨hk.1.1.1.1.1.2, ⟨hk.1.1.1.1.2, ⟨hk.1.1.1.2, ⟨hk.1.1.2, hk.1.2⟩⟩⟩⟩)⟩
         have n12_ : Aside0 (Kd.R Kd.string 9 ((w55.setCell ⟨gb263, 0, none⟩ (.int .i64 t258)).setCell ⟨gb263, 1, none⟩ (.slice Ao59 t259.length co59)) w.heap.size (fun k_ => some k_ ≠ ob_ Ao39 y236.length co39) (.slice Ao53 y255.length co53) y255) := ⟨by exact Kd.R_mono (Kd.R_far (p := ⟨gb263, 1, none⟩) (Kd.R_far (p := ⟨gb263, 0, none⟩) (Kd.R_types HO257.out BK263.out (by decide)) (fun _ hk => hk.2) (.int .i64 t258)) (fun _ hk => hk.2) (.slice Ao59 t259.length co59)) (fun _ hk => hk.1.2)⟩
         have n13_ : Aside0 (Kd.R (Kd.int .i64) 3 ((w55.setCell ⟨gb263, 0, none⟩ (.int .i64 t258)).setCell ⟨gb263, 1, none⟩ (.slice Ao59 t259.length co59)) w.heap.size (fun k_ => some k_ ≠ ob_ Ao26 y217.length co26 ∧ some k_ ≠ ob_ Ao30 t221.length co30 ∧ some k_ ≠ ob_ Ao38 y233.length co38 ∧ some k_ ≠ ob_ Ao44 t240.length co44 ∧ some k_ ≠ ob_ Ao52 y252.length co52) (.slice Ao59 t259.length co59) t259) := ⟨by exact Kd.R_mono (Kd.R_far (p := ⟨gb263, 1, none⟩) (Kd.R_far (p := ⟨gb263, 0, none⟩) (Kd.R_types HO261.out BK263.out (by decide)) (fun _ hk => hk.2) (.int .i64 t258)) (fun _ hk => hk.2) (.slice Ao59 t259.length co59)) (fun _ hk => ⟨hk.1.1.1.1.1.2, ⟨hk.1.1.1.1.2, ⟨hk.1.1.1.2, ⟨hk.1.1.2, hk.1.2⟩⟩⟩⟩)⟩
         have n14_ : Aside0 (((w55.setCell ⟨gb263, 0, none⟩ (.int .i64 t258)).setCell ⟨gb263, 1, none⟩ (.slice Ao59 t259.length co59)).heap[gb225]? = some (.cells #[.int .i64 t220, .slice Ao30 t221.length co30] 68 (0, 0))) := ⟨by refine blk_far ?_ NB225_263.out _; refine blk_far ?_ NB225_263.out _; exact BK225.out⟩
         have n15_ : Aside0 (((w55.setCell ⟨gb263, 0, none⟩ (.int .i64 t258)).setCell ⟨gb263, 1, none⟩ (.slice Ao59 t259.length co59)).heap[gb244]? = some (.cells #[.int .i64 t239, .slice Ao44 t240.length co44] 68 (0, 0))) := ⟨by refine blk_far ?_ NB244_263.out _; refine blk_far ?_ NB244_263.out _; exact BK244.out⟩
         have n16_ : Aside0 (((w55.setCell ⟨gb263, 0, none⟩ (.int .i64 t258)).setCell ⟨gb263, 1, none⟩ (.slice Ao59 t259.length co59)).heap[gb263]? = some (.cells #[.int .i64 t258, .slice Ao59 t259.length co59] 68 (0, 0))) := ⟨by refine blk_put (cs := #[.int .i64 t258, .slice none 0 0]) ?_ 1 _ rfl; refine blk_put (cs := #[.int .i64 0, .slice none 0 0]) ?_ 0 _ rfl; exact BK263.out⟩
         have n17_ : Aside0 (Below w.heap.size w ((w55.setCell ⟨gb263, 0, none⟩ (.int .i64 t258)).setCell ⟨gb263, 1, none⟩ (.slice Ao59 t259.length co59))) := ⟨by repeat ((with_reducible first | exact HB.out | refine below_set ?_ GE263.out))⟩
         (try clear HO213)
         (try clear HO216)
         (try clear HO219)
         (try clear HO223)
         (try clear HO229)
         (try clear HO232)
         (try clear HO235)
         (try clear HO238)
         (try clear HO242)
         (try clear HO248)
         (try clear HO251)
         (try clear HO254)
         (try clear HO257)
         (try clear HO261)
         (try clear BK225)
         (try clear BK244)
         (try clear BK263)
         (try clear HB)
         generalize ((w55.setCell ⟨gb263, 0, none⟩ (.int .i64 t258)).setCell ⟨gb263, 1, none⟩ (.slice Ao59 t259.length co59)) = w60 at n0_ n1_ n2_ n3_ n4_ n5_ n6_ n7_ n8_ n9_ n10_ n11_ n12_ n13_ n14_ n15_ n16_ n17_ ⊢
         have HO213 := n0_
         have HO216 := n1_
         have HO219 := n2_
         have HO223 := n3_
         have HO229 := n4_
         have HO232 := n5_
         have HO235 := n6_
         have HO238 := n7_
         have HO242 := n8_
         have HO248 := n9_
         have HO251 := n10_
         have HO254 := n11_
         have HO257 := n12_
         have HO261 := n13_
         have BK225 := n14_
         have BK244 := n15_
         have BK263 := n16_
         have HB := n17_
         clear n0_ n1_ n2_ n3_ n4_ n5_ n6_ n7_ n8_ n9_ n10_ n11_ n12_ n13_ n14_ n15_ n16_ n17_
         have n0_ := Aside0.mk (Kd.V_drew HO213.out)
         have n1_ := Aside0.mk (Kd.V_drew HO216.out)
         have n2_ := Aside0.mk (Kd.R_drew HO219.out)
         have n3_ := Aside0.mk (Kd.R_drew HO223.out)
         have n4_ := Aside0.mk (Kd.V_drew HO229.out)
         have n5_ := Aside0.mk (Kd.V_drew HO232.out)
         have n6_ := Aside0.mk (Kd.R_drew HO235.out)
         have n7_ := Aside0.mk (Kd.R_drew HO238.out)
         have n8_ := Aside0.mk (Kd.R_drew HO242.out)
         have n9_ := Aside0.mk (Kd.V_drew HO248.out)
         have n10_ := Aside0.mk (Kd.V_drew HO251.out)
         have n11_ := Aside0.mk (Kd.R_drew HO254.out)
         have n12_ := Aside0.mk (Kd.R_drew HO257.out)
         have n13_ := Aside0.mk (Kd.R_drew HO261.out)
         have n14_ := Aside0.mk (blk_drew BK225.out)
         have n15_ := Aside0.mk (blk_drew BK244.out)
         have n16_ := Aside0.mk (blk_drew BK263.out)
         have n17_ := Aside0.mk (below_drew1 HB.out)
         clear HO213
         clear HO216
         clear HO219
         clear HO223
         clear HO229
         clear HO232
         clear HO235
         clear HO238
         clear HO242
         clear HO248
         clear HO251
         clear HO254
         clear HO257
         clear HO261
         clear BK225
         clear BK244
         clear BK263
         clear HB
         have HO213 := n0_
         have HO216 := n1_
         have HO219 := n2_
         have HO223 := n3_
         have HO229 := n4_
         have HO232 := n5_
         have HO235 := n6_
         have HO238 := n7_
         have HO242 := n8_
         have HO248 := n9_
         have HO251 := n10_
         have HO254 := n11_
         have HO257 := n12_
         have HO261 := n13_
         have BK225 := n14_
         have BK244 := n15_
         have BK263 := n16_
         have HB := n17_
         clear n0_ n1_ n2_ n3_ n4_ n5_ n6_ n7_ n8_ n9_ n10_ n11_ n12_ n13_ n14_ n15_ n16_ n17_
         refine start_ (n := 45) (S := fun w' => w'.cell? ⟨gb225, 0, none⟩ = some (.int .i64 t220) ∧ w'.cell? ⟨gb225, 1, none⟩ = some (.slice Ao30 t221.length co30) ∧ w'.cell? ⟨gb244, 0, none⟩ = some (.int .i64 t239) ∧ w'.cell? ⟨gb244, 1, none⟩ = some (.slice Ao44 t240.length co44)) (ds := []) #[Z,Z,Z,Z,Z,Z,Z,Z,Z,Z,Z,Z,Z,Z,Z,Z,Z,Z,Z,Z,Z,Z,Z,Z,Z,Z,Z,Z,Z,Z,Z,Z,Z,Z,Z,Z,Z,Z,Z,Z,Z,Z,Z,Z,Z] (by kernel_rfl) rfl rfl ⟨(blk_cell BK225.out 0).trans rfl, (blk_cell BK225.out 1).trans rfl, (blk_cell BK244.out 0).trans rfl, (blk_cell BK244.out 1).trans rfl⟩ (fun hHeld => ?_); refine with_tabW peristylelaw32_awake.tab4 peristylelaw32_awake.bits4 (fun HT_ HW_ => ?_)
         generalize w60.drew = w61 at HO213 HO216 HO219 HO223 HO229 HO232 HO235 HO238 HO242 HO248 HO251 HO254 HO257 HO261 BK225 BK244 BK263 HB hHeld ⊢
         refine pure_ (i := 0) (N := some 27) (v := ?_) (a' := ?_) #[Y,Z,Z,Z,Z,Z,Z,Z,Z,Z,Z,Z,Z,Z,Z,Z,Z,Z,Z,Z,Z,Z,Z,Z,Z,Z,Z,Z,Z,Z,Z,Z,Z,Z,Z,Z,Z,Z,Z,Z,Z,Z,Z,Z,Z] rfl rfl (any_of HT_.out (by kernel_rfl)) (fun _ _ _ h => h) (Or.inl ⟨by rfl, ?_⟩) ?_ ?_
         rotate_left
         ·
          intro w'
          go_simp
          with_reducible rfl
         rotate_left
         ·
          simp only [Act.put, List.setIfInBounds_toArray, List.set_cons_zero, List.set_cons_succ, i64_w, i32_w]
          rfl
         refine pure_ (i := 1) (N := some 28) (v := ?_) (a' := ?_) #[Y,Y,Z,Z,Z,Z,Z,Z,Z,Z,Z,Z,Z,Z,Z,Z,Z,Z,Z,Z,Z,Z,Z,Z,Z,Z,Z,Z,Z,Z,Z,Z,Z,Z,Z,Z,Z,Z,Z,Z,Z,Z,Z,Z,Z] rfl rfl (any_of HT_.out (by kernel_rfl)) (fun _ _ _ h => h) (Or.inl ⟨by rfl, ?_⟩) ?_ ?_
         rotate_left
         ·
          intro w'
          go_simp
          with_reducible rfl
         rotate_left
         ·
          simp only [Act.put, List.setIfInBounds_toArray, List.set_cons_zero, List.set_cons_succ, i64_w, i32_w]
          rfl
         refine pure_ (i := 2) (N := some 29) (v := ?_) (a' := ?_) #[Y,Y,Y,Z,Z,Z,Z,Z,Z,Z,Z,Z,Z,Z,Z,Z,Z,Z,Z,Z,Z,Z,Z,Z,Z,Z,Z,Z,Z,Z,Z,Z,Z,Z,Z,Z,Z,Z,Z,Z,Z,Z,Z,Z,Z] rfl rfl (any_of HT_.out (by kernel_rfl)) (fun _ _ _ h => h) (Or.inl ⟨by rfl, ?_⟩) ?_ ?_
         rotate_left
         ·
          intro w'
          go_simp
          with_reducible rfl
         rotate_left
         ·
          simp only [Act.put, List.setIfInBounds_toArray, List.set_cons_zero, List.set_cons_succ, i64_w, i32_w]
          rfl
         refine pure_ (i := 3) (N := some 30) (v := ?_) (a' := ?_) #[Y,Y,Y,Y,Z,Z,Z,Z,Z,Z,Z,Z,Z,Z,Z,Z,Z,Z,Z,Z,Z,Z,Z,Z,Z,Z,Z,Z,Z,Z,Z,Z,Z,Z,Z,Z,Z,Z,Z,Z,Z,Z,Z,Z,Z] rfl rfl (any_of HT_.out (by kernel_rfl)) (fun _ _ _ h => h) (Or.inl ⟨by rfl, ?_⟩) ?_ ?_
         rotate_left
         ·
          intro w'
          go_simp
          with_reducible rfl
         rotate_left
         ·
          simp only [Act.put, List.setIfInBounds_toArray, List.set_cons_zero, List.set_cons_succ, i64_w, i32_w]
          rfl
         refine take_ (i := 4) (N := some 31) (v := ?_) (a' := ?_) #[Y,Y,Y,Y,Y,Z,Z,Z,Z,Z,Z,Z,Z,Z,Z,Z,Z,Z,Z,Z,Z,Z,Z,Z,Z,Z,Z,Z,Z,Z,Z,Z,Z,Z,Z,Z,Z,Z,Z,Z,Z,Z,Z,Z,Z] rfl rfl (take_ofW HT_.out HW_.out (by kernel_rfl)) (fun _ _ _ h => h) (Or.inl ⟨by rfl, ?_⟩) hHeld ?_ ?_
         rotate_left
         ·
          rintro w' ⟨s0, s1, s2, s3⟩
          go_simp
          with_reducible rfl
         rotate_left
         ·
          simp only [Act.put, List.setIfInBounds_toArray, List.set_cons_zero, List.set_cons_succ, i64_w, i32_w]
          rfl
         refine pure_ (i := 5) (N := some 32) (v := ?_) (a' := ?_) #[Y,Y,Y,Y,Y,Y,Z,Z,Z,Z,Z,Z,Z,Z,Z,Z,Z,Z,Z,Z,Z,Z,Z,Z,Z,Z,Z,Z,Z,Z,Z,Z,Z,Z,Z,Z,Z,Z,Z,Z,Z,Z,Z,Z,Z] rfl rfl (any_of HT_.out (by kernel_rfl)) (fun _ _ _ h => h) (Or.inl ⟨by rfl, ?_⟩) ?_ ?_
         rotate_left
         ·
          intro w'
          go_simp
          with_reducible rfl
         rotate_left
         ·
          simp only [Act.put, List.setIfInBounds_toArray, List.set_cons_zero, List.set_cons_succ, i64_w, i32_w]
          rfl
         refine pure_ (i := 6) (N := some 33) (v := ?_) (a' := ?_) #[Y,Y,Y,Y,Y,Y,Y,Z,Z,Z,Z,Z,Z,Z,Z,Z,Z,Z,Z,Z,Z,Z,Z,Z,Z,Z,Z,Z,Z,Z,Z,Z,Z,Z,Z,Z,Z,Z,Z,Z,Z,Z,Z,Z,Z] rfl rfl (any_of HT_.out (by kernel_rfl)) (fun _ _ _ h => h) (Or.inl ⟨by rfl, ?_⟩) ?_ ?_
         rotate_left
         ·
          intro w'
          go_simp
          with_reducible rfl
         rotate_left
         ·
          simp only [Act.put, List.setIfInBounds_toArray, List.set_cons_zero, List.set_cons_succ, i64_w, i32_w]
          rfl
         refine pure_ (i := 7) (N := some 34) (v := ?_) (a' := ?_) #[Y,Y,Y,Y,Y,Y,Y,Y,Z,Z,Z,Z,Z,Z,Z,Z,Z,Z,Z,Z,Z,Z,Z,Z,Z,Z,Z,Z,Z,Z,Z,Z,Z,Z,Z,Z,Z,Z,Z,Z,Z,Z,Z,Z,Z] rfl rfl (any_of HT_.out (by kernel_rfl)) (fun _ _ _ h => h) (Or.inl ⟨by rfl, ?_⟩) ?_ ?_
         rotate_left
         ·
          intro w'
          go_simp
          with_reducible rfl
         rotate_left
         ·
          simp only [Act.put, List.setIfInBounds_toArray, List.set_cons_zero, List.set_cons_succ, i64_w, i32_w]
          rfl
         refine pure_ (i := 8) (N := some 35) (v := ?_) (a' := ?_) #[Y,Y,Y,Y,Y,Y,Y,Y,Y,Z,Z,Z,Z,Z,Z,Z,Z,Z,Z,Z,Z,Z,Z,Z,Z,Z,Z,Z,Z,Z,Z,Z,Z,Z,Z,Z,Z,Z,Z,Z,Z,Z,Z,Z,Z] rfl rfl (any_of HT_.out (by kernel_rfl)) (fun _ _ _ h => h) (Or.inl ⟨by rfl, ?_⟩) ?_ ?_
         rotate_left
         ·
          intro w'
          go_simp
          with_reducible rfl
         rotate_left
         ·
          simp only [Act.put, List.setIfInBounds_toArray, List.set_cons_zero, List.set_cons_succ, i64_w, i32_w]
          rfl
         refine take_ (i := 9) (N := some 36) (v := ?_) (a' := ?_) #[Y,Y,Y,Y,Y,Y,Y,Y,Y,Y,Z,Z,Z,Z,Z,Z,Z,Z,Z,Z,Z,Z,Z,Z,Z,Z,Z,Z,Z,Z,Z,Z,Z,Z,Z,Z,Z,Z,Z,Z,Z,Z,Z,Z,Z] rfl rfl (take_ofW HT_.out HW_.out (by kernel_rfl)) (fun _ _ _ h => h) (Or.inl ⟨by rfl, ?_⟩) hHeld ?_ ?_
         rotate_left
         ·
          rintro w' ⟨s0, s1, s2, s3⟩
          go_simp
          with_reducible rfl
         rotate_left
         ·
          simp only [Act.put, List.setIfInBounds_toArray, List.set_cons_zero, List.set_cons_succ, i64_w, i32_w]
          rfl
         refine one_ (i := 10) (N := some 37) #[Y,Y,Y,Y,Y,Y,Y,Y,Y,Y,Y,Z,Z,Z,Z,Z,Z,Z,Z,Z,Z,Z,Z,Z,Z,Z,Z,Z,Z,Z,Z,Z,Z,Z,Z,Z,Z,Z,Z,Z,Z,Z,Z,Z,Z] rfl rfl (one_of HT_.out (by kernel_rfl)) (by decide) (fun K hK => ?_)
         refine Kd.R_lit_step (Kd.int .i64) _ 3 ?hg (N := 37) ?hd (xs := ([(-1), 1] : List Int)) (inner := [.int .i64 (-1), .int .i64 1]) (ok := fun _ => True) (okp := fun _ => True) ?hr ?hp (fun _ hk => hk) trivial (Below.refl _ _) (Nat.le_refl _) (by simp) ?_; (case hd => rfl); (case hg => rfl); (case hr => (go_simp; done)); (case hp => exact (Reps.one (show Kd.M (Kd.int .i64) _ _ _ (-1) [.int .i64 (-1)] from rfl) (Reps.one (show Kd.M (Kd.int .i64) _ _ _ 1 [.int .i64 1] from rfl) (Reps.none _ _))))
         intro v265 w62 ho63 hb hg_ hnew_
         clear hg_ hnew_
         (rw [← Ny264.out] at ho63)
         have n0_ := Aside0.mk (Kd.V_elder' HO213.out (Kd.R_base ho63) hb)
         have n1_ := Aside0.mk (Kd.V_elder' HO216.out (Kd.R_base ho63) hb)
         have n2_ := Aside0.mk (Kd.R_elder' HO219.out (Kd.R_base ho63) hb)
         have n3_ := Aside0.mk (Kd.R_elder' HO223.out (Kd.R_base ho63) hb)
         have n4_ := Aside0.mk (Kd.V_elder' HO229.out (Kd.R_base ho63) hb)
         have n5_ := Aside0.mk (Kd.V_elder' HO232.out (Kd.R_base ho63) hb)
         have n6_ := Aside0.mk (Kd.R_elder' HO235.out (Kd.R_base ho63) hb)
         have n7_ := Aside0.mk (Kd.R_below HO238.out hb)
         have n8_ := Aside0.mk (Kd.R_elder' HO242.out (Kd.R_base ho63) hb)
         have n9_ := Aside0.mk (Kd.V_elder' HO248.out (Kd.R_base ho63) hb)
         have n10_ := Aside0.mk (Kd.V_elder' HO251.out (Kd.R_base ho63) hb)
         have n11_ := Aside0.mk (Kd.R_elder' HO254.out (Kd.R_base ho63) hb)
         have n12_ := Aside0.mk (Kd.R_below HO257.out hb)
         have n13_ := Aside0.mk (Kd.R_elder' HO261.out (Kd.R_base ho63) hb)
         have n14_ := Aside0.mk (Kd.R_lower (Kd.R_new' (Kd.R_new' (Kd.R_new' (Kd.R_new' (Kd.R_new' (Kd.R_new' ho63 (Kd.R_lt HO219.out)) (Kd.R_lt HO223.out)) (Kd.R_lt HO235.out)) (Kd.R_lt HO242.out)) (Kd.R_lt HO254.out)) (Kd.R_lt HO261.out)) (below_size HB.out))
         have n15_ := Aside0.mk (blk_below (g := gb225) (o := .cells #[.int .i64 t220, .slice Ao30 t221.length co30] 68 (0, 0)) BK225.out hb)
         have n16_ := Aside0.mk (blk_below (g := gb244) (o := .cells #[.int .i64 t239, .slice Ao44 t240.length co44] 68 (0, 0)) BK244.out hb)
         have n17_ := Aside0.mk (blk_below (g := gb263) (o := .cells #[.int .i64 t258, .slice Ao59 t259.length co59] 68 (0, 0)) BK263.out hb)
         have n18_ := Aside0.mk (below_step HB.out hb)
         clear HO213
         clear HO216
         clear HO219
         clear HO223
         clear HO229
         clear HO232
         clear HO235
         clear HO238
         clear HO242
         clear HO248
         clear HO251
         clear HO254
         clear HO257
         clear HO261
         clear BK225
         clear BK244
         clear BK263
         clear HB
         have HO213 := n0_
         have HO216 := n1_
         have HO219 := n2_
         have HO223 := n3_
         have HO229 := n4_
         have HO232 := n5_
         have HO235 := n6_
         have HO238 := n7_
         have HO242 := n8_
         have HO248 := n9_
         have HO251 := n10_
         have HO254 := n11_
         have HO257 := n12_
         have HO261 := n13_
         have HO266 := n14_
         have BK225 := n15_
         have BK244 := n16_
         have BK263 := n17_
         have HB := n18_
         clear n0_ n1_ n2_ n3_ n4_ n5_ n6_ n7_ n8_ n9_ n10_ n11_ n12_ n13_ n14_ n15_ n16_ n17_ n18_
         clear hb ho63
         obtain ⟨Ao64, co64, eo64⟩ := Kd.R_slice HO266.out
         (subst eo64)
         refine hK.out _ _ ⟨(blk_cell BK225.out 0).trans rfl, (blk_cell BK225.out 1).trans rfl, (blk_cell BK244.out 0).trans rfl, (blk_cell BK244.out 1).trans rfl⟩ (fun hHeld => ?_)
         clear hK K
         refine norm_ (a' := ?_) ?_ ?_
         rotate_left
         ·
          show Act.put _ (some 37) _ = _
          simp only [Act.put, List.setIfInBounds_toArray, List.set_cons_zero, List.set_cons_succ, i64_w, i32_w]
          rfl
         refine one_ (i := 11) (N := some 38) #[Y,Y,Y,Y,Y,Y,Y,Y,Y,Y,Y,Y,Z,Z,Z,Z,Z,Z,Z,Z,Z,Z,Z,Z,Z,Z,Z,Z,Z,Z,Z,Z,Z,Z,Z,Z,Z,Z,Z,Z,Z,Z,Z,Z,Z] rfl rfl (one_of HT_.out (by kernel_rfl)) (by decide) (fun K hK => ?_)
         refine goes_ Try.func34 (by kernel_rfl) rfl #[.slice Ao30 t221.length co30, .slice Ao64 y264.length co64] (by rfl) rfl rfl (by (try simp only [List.map_toArray, List.map_cons, List.map_nil]); rfl) ?_
         with_reducible refine (peristyleref01_Same.calls k _ _ t221 _ _ y264 true _ ?side1 ?side2 ?side3 ?side4 A9.out).mono ?_
         (case side1 => repeat (exact (Kd.R_reads' HO223.out).2.2))
         (case side2 => exact (Kd.R_reads' HO223.out).2.1)
         (case side3 => repeat (exact (Kd.R_reads' HO266.out).2.2))
         (case side4 => exact (Kd.R_reads' HO266.out).2.1)
         rintro e w' ⟨rfl, ⟨nd, rfl⟩⟩
         refine ⟨_, rfl, ?_⟩
         refine hK.out _ _ ⟨(blk_cell BK225.out 0).trans rfl, (blk_cell BK225.out 1).trans rfl, (blk_cell BK244.out 0).trans rfl, (blk_cell BK244.out 1).trans rfl⟩ (fun hHeld => ?_)
         clear hK K
         refine norm_ (a' := ?_) ?_ ?_
         rotate_left
         ·
          show Act.put _ (some 38) _ = _
          simp only [Act.put, List.setIfInBounds_toArray, List.set_cons_zero, List.set_cons_succ, i64_w, i32_w]
          rfl
         refine pure_ (i := 12) (N := some 39) (v := ?_) (a' := ?_) #[Y,Y,Y,Y,Y,Y,Y,Y,Y,Y,Y,Y,Y,Z,Z,Z,Z,Z,Z,Z,Z,Z,Z,Z,Z,Z,Z,Z,Z,Z,Z,Z,Z,Z,Z,Z,Z,Z,Z,Z,Z,Z,Z,Z,Z] rfl rfl (any_of HT_.out (by kernel_rfl)) (fun _ _ _ h => h) (Or.inl ⟨by rfl, ?_⟩) ?_ ?_
         rotate_left
         ·
          intro w'
          go_simp
          with_reducible rfl
         rotate_left
         ·
          simp only [Act.put, List.setIfInBounds_toArray, List.set_cons_zero, List.set_cons_succ, i64_w, i32_w]
          rfl
         refine pure_ (i := 13) (N := some 40) (v := ?_) (a' := ?_) #[Y,Y,Y,Y,Y,Y,Y,Y,Y,Y,Y,Y,Y,Y,Z,Z,Z,Z,Z,Z,Z,Z,Z,Z,Z,Z,Z,Z,Z,Z,Z,Z,Z,Z,Z,Z,Z,Z,Z,Z,Z,Z,Z,Z,Z] rfl rfl (any_of HT_.out (by kernel_rfl)) (fun _ _ _ h => h) (Or.inl ⟨by rfl, ?_⟩) ?_ ?_
         rotate_left
         ·
          intro w'
          go_simp
          with_reducible rfl
         rotate_left
         ·
          simp only [Act.put, List.setIfInBounds_toArray, List.set_cons_zero, List.set_cons_succ, i64_w, i32_w]
          rfl
         refine pure_ (i := 14) (N := some 41) (v := ?_) (a' := ?_) #[Y,Y,Y,Y,Y,Y,Y,Y,Y,Y,Y,Y,Y,Y,Y,Z,Z,Z,Z,Z,Z,Z,Z,Z,Z,Z,Z,Z,Z,Z,Z,Z,Z,Z,Z,Z,Z,Z,Z,Z,Z,Z,Z,Z,Z] rfl rfl (any_of HT_.out (by kernel_rfl)) (fun _ _ _ h => h) (Or.inl ⟨by rfl, ?_⟩) ?_ ?_
         rotate_left
         ·
          intro w'
          go_simp
          with_reducible rfl
         rotate_left
         ·
          simp only [Act.put, List.setIfInBounds_toArray, List.set_cons_zero, List.set_cons_succ, i64_w, i32_w]
          rfl
         refine pure_ (i := 15) (N := some 42) (v := ?_) (a' := ?_) #[Y,Y,Y,Y,Y,Y,Y,Y,Y,Y,Y,Y,Y,Y,Y,Y,Z,Z,Z,Z,Z,Z,Z,Z,Z,Z,Z,Z,Z,Z,Z,Z,Z,Z,Z,Z,Z,Z,Z,Z,Z,Z,Z,Z,Z] rfl rfl (any_of HT_.out (by kernel_rfl)) (fun _ _ _ h => h) (Or.inl ⟨by rfl, ?_⟩) ?_ ?_
         rotate_left
         ·
          intro w'
          go_simp
          with_reducible rfl
         rotate_left
         ·
          simp only [Act.put, List.setIfInBounds_toArray, List.set_cons_zero, List.set_cons_succ, i64_w, i32_w]
          rfl
         refine pure_ (i := 16) (N := some 43) (v := ?_) (a' := ?_) #[Y,Y,Y,Y,Y,Y,Y,Y,Y,Y,Y,Y,Y,Y,Y,Y,Y,Z,Z,Z,Z,Z,Z,Z,Z,Z,Z,Z,Z,Z,Z,Z,Z,Z,Z,Z,Z,Z,Z,Z,Z,Z,Z,Z,Z] rfl rfl (any_of HT_.out (by kernel_rfl)) (fun _ _ _ h => h) (Or.inl ⟨by rfl, ?_⟩) ?_ ?_
         rotate_left
         ·
          intro w'
          go_simp
          with_reducible rfl
         rotate_left
         ·
          simp only [Act.put, List.setIfInBounds_toArray, List.set_cons_zero, List.set_cons_succ, i64_w, i32_w]
          rfl
         refine pure_ (i := 17) (N := some 44) (v := ?_) (a' := ?_) #[Y,Y,Y,Y,Y,Y,Y,Y,Y,Y,Y,Y,Y,Y,Y,Y,Y,Y,Z,Z,Z,Z,Z,Z,Z,Z,Z,Z,Z,Z,Z,Z,Z,Z,Z,Z,Z,Z,Z,Z,Z,Z,Z,Z,Z] rfl rfl (any_of HT_.out (by kernel_rfl)) (fun _ _ _ h => h) (Or.inl ⟨by rfl, ?_⟩) ?_ ?_
         rotate_left
         ·
          intro w'
          go_simp
          with_reducible rfl
         rotate_left
         ·
          simp only [Act.put, List.setIfInBounds_toArray, List.set_cons_zero, List.set_cons_succ, i64_w, i32_w]
          rfl
         refine pure_ (i := 18) (N := some 45) (v := ?_) (a' := ?_) #[Y,Y,Y,Y,Y,Y,Y,Y,Y,Y,Y,Y,Y,Y,Y,Y,Y,Y,Y,Z,Z,Z,Z,Z,Z,Z,Z,Z,Z,Z,Z,Z,Z,Z,Z,Z,Z,Z,Z,Z,Z,Z,Z,Z,Z] rfl rfl (any_of HT_.out (by kernel_rfl)) (fun _ _ _ h => h) (Or.inl ⟨by rfl, ?_⟩) ?_ ?_
         rotate_left
         ·
          intro w'
          go_simp
          with_reducible rfl
         rotate_left
         ·
          simp only [Act.put, List.setIfInBounds_toArray, List.set_cons_zero, List.set_cons_succ, i64_w, i32_w]
          rfl
         refine take_ (i := 19) (N := some 46) (v := ?_) (a' := ?_) #[Y,Y,Y,Y,Y,Y,Y,Y,Y,Y,Y,Y,Y,Y,Y,Y,Y,Y,Y,Y,Z,Z,Z,Z,Z,Z,Z,Z,Z,Z,Z,Z,Z,Z,Z,Z,Z,Z,Z,Z,Z,Z,Z,Z,Z] rfl rfl (take_ofW HT_.out HW_.out (by kernel_rfl)) (fun _ _ _ h => h) (Or.inl ⟨by rfl, ?_⟩) hHeld ?_ ?_
         rotate_left
         ·
          rintro w' ⟨s0, s1, s2, s3⟩
          go_simp
          with_reducible rfl
         rotate_left
         ·
          simp only [Act.put, List.setIfInBounds_toArray, List.set_cons_zero, List.set_cons_succ, i64_w, i32_w]
          rfl
         refine pure_ (i := 20) (N := some 47) (v := ?_) (a' := ?_) #[Y,Y,Y,Y,Y,Y,Y,Y,Y,Y,Y,Y,Y,Y,Y,Y,Y,Y,Y,Y,Y,Z,Z,Z,Z,Z,Z,Z,Z,Z,Z,Z,Z,Z,Z,Z,Z,Z,Z,Z,Z,Z,Z,Z,Z] rfl rfl (any_of HT_.out (by kernel_rfl)) (fun _ _ _ h => h) (Or.inl ⟨by rfl, ?_⟩) ?_ ?_
         rotate_left
         ·
          intro w'
          go_simp
          with_reducible rfl
         rotate_left
         ·
          simp only [Act.put, List.setIfInBounds_toArray, List.set_cons_zero, List.set_cons_succ, i64_w, i32_w]
          rfl
         refine pure_ (i := 21) (N := some 48) (v := ?_) (a' := ?_) #[Y,Y,Y,Y,Y,Y,Y,Y,Y,Y,Y,Y,Y,Y,Y,Y,Y,Y,Y,Y,Y,Y,Z,Z,Z,Z,Z,Z,Z,Z,Z,Z,Z,Z,Z,Z,Z,Z,Z,Z,Z,Z,Z,Z,Z] rfl rfl (any_of HT_.out (by kernel_rfl)) (fun _ _ _ h => h) (Or.inl ⟨by rfl, ?_⟩) ?_ ?_
         rotate_left
         ·
          intro w'
          go_simp
          with_reducible rfl
         rotate_left
         ·
          simp only [Act.put, List.setIfInBounds_toArray, List.set_cons_zero, List.set_cons_succ, i64_w, i32_w]
          rfl
         refine pure_ (i := 22) (N := some 49) (v := ?_) (a' := ?_) #[Y,Y,Y,Y,Y,Y,Y,Y,Y,Y,Y,Y,Y,Y,Y,Y,Y,Y,Y,Y,Y,Y,Y,Z,Z,Z,Z,Z,Z,Z,Z,Z,Z,Z,Z,Z,Z,Z,Z,Z,Z,Z,Z,Z,Z] rfl rfl (any_of HT_.out (by kernel_rfl)) (fun _ _ _ h => h) (Or.inl ⟨by rfl, ?_⟩) ?_ ?_
         rotate_left
         ·
          intro w'
          go_simp
          with_reducible rfl
         rotate_left
         ·
          simp only [Act.put, List.setIfInBounds_toArray, List.set_cons_zero, List.set_cons_succ, i64_w, i32_w]
          rfl
         refine pure_ (i := 23) (N := some 50) (v := ?_) (a' := ?_) #[Y,Y,Y,Y,Y,Y,Y,Y,Y,Y,Y,Y,Y,Y,Y,Y,Y,Y,Y,Y,Y,Y,Y,Y,Z,Z,Z,Z,Z,Z,Z,Z,Z,Z,Z,Z,Z,Z,Z,Z,Z,Z,Z,Z,Z] rfl rfl (any_of HT_.out (by kernel_rfl)) (fun _ _ _ h => h) (Or.inl ⟨by rfl, ?_⟩) ?_ ?_
         rotate_left
         ·
          intro w'
          go_simp
          with_reducible rfl
         rotate_left
         ·
          simp only [Act.put, List.setIfInBounds_toArray, List.set_cons_zero, List.set_cons_succ, i64_w, i32_w]
          rfl
         refine take_ (i := 24) (N := some 51) (v := ?_) (a' := ?_) #[Y,Y,Y,Y,Y,Y,Y,Y,Y,Y,Y,Y,Y,Y,Y,Y,Y,Y,Y,Y,Y,Y,Y,Y,Y,Z,Z,Z,Z,Z,Z,Z,Z,Z,Z,Z,Z,Z,Z,Z,Z,Z,Z,Z,Z] rfl rfl (take_ofW HT_.out HW_.out (by kernel_rfl)) (fun _ _ _ h => h) (Or.inl ⟨by rfl, ?_⟩) hHeld ?_ ?_
         rotate_left
         ·
          rintro w' ⟨s0, s1, s2, s3⟩
          go_simp
          with_reducible rfl
         rotate_left
         ·
          simp only [Act.put, List.setIfInBounds_toArray, List.set_cons_zero, List.set_cons_succ, i64_w, i32_w]
          rfl
         refine one_ (i := 25) (N := some 52) #[Y,Y,Y,Y,Y,Y,Y,Y,Y,Y,Y,Y,Y,Y,Y,Y,Y,Y,Y,Y,Y,Y,Y,Y,Y,Y,Z,Z,Z,Z,Z,Z,Z,Z,Z,Z,Z,Z,Z,Z,Z,Z,Z,Z,Z] rfl rfl (one_of HT_.out (by kernel_rfl)) (by decide) (fun K hK => ?_)
         refine Kd.R_lit_step (Kd.int .i64) _ 3 ?hg (N := 52) ?hd (xs := ([0, 1] : List Int)) (inner := [.int .i64 0, .int .i64 1]) (ok := fun _ => True) (okp := fun _ => True) ?hr ?hp (fun _ hk => hk) trivial (Below.refl _ _) (Nat.le_refl _) (by simp) ?_; (case hd => rfl); (case hg => rfl); (case hr => (go_simp; done)); (case hp => exact (Reps.one (show Kd.M (Kd.int .i64) _ _ _ 0 [.int .i64 0] from rfl) (Reps.one (show Kd.M (Kd.int .i64) _ _ _ 1 [.int .i64 1] from rfl) (Reps.none _ _))))
         intro v269 w65 ho66 hb hg_ hnew_
         clear hg_ hnew_
         (rw [← Ny268.out] at ho66)
         have n0_ := Aside0.mk (Kd.V_elder' (by (with_reducible repeat apply Kd.V_drewN); exact HO213.out) (Kd.R_base ho66) hb)
         have n1_ := Aside0.mk (Kd.V_elder' (by (with_reducible repeat apply Kd.V_drewN); exact HO216.out) (Kd.R_base ho66) hb)
         have n2_ := Aside0.mk (Kd.R_elder' (by (with_reducible repeat apply Kd.R_drewN); exact HO219.out) (Kd.R_base ho66) hb)
         have n3_ := Aside0.mk (Kd.R_elder' (by (with_reducible repeat apply Kd.R_drewN); exact HO223.out) (Kd.R_base ho66) hb)
         have n4_ := Aside0.mk (Kd.V_elder' (by (with_reducible repeat apply Kd.V_drewN); exact HO229.out) (Kd.R_base ho66) hb)
         have n5_ := Aside0.mk (Kd.V_elder' (by (with_reducible repeat apply Kd.V_drewN); exact HO232.out) (Kd.R_base ho66) hb)
         have n6_ := Aside0.mk (Kd.R_elder' (by (with_reducible repeat apply Kd.R_drewN); exact HO235.out) (Kd.R_base ho66) hb)
         have n7_ := Aside0.mk (Kd.R_below (by (with_reducible repeat apply Kd.R_drewN); exact HO238.out) hb)
         have n8_ := Aside0.mk (Kd.R_elder' (by (with_reducible repeat apply Kd.R_drewN); exact HO242.out) (Kd.R_base ho66) hb)
         have n9_ := Aside0.mk (Kd.V_elder' (by (with_reducible repeat apply Kd.V_drewN); exact HO248.out) (Kd.R_base ho66) hb)
         have n10_ := Aside0.mk (Kd.V_elder' (by (with_reducible repeat apply Kd.V_drewN); exact HO251.out) (Kd.R_base ho66) hb)
         have n11_ := Aside0.mk (Kd.R_elder' (by (with_reducible repeat apply Kd.R_drewN); exact HO254.out) (Kd.R_base ho66) hb)
         have n12_ := Aside0.mk (Kd.R_below (by (with_reducible repeat apply Kd.R_drewN); exact HO257.out) hb)
         have n13_ := Aside0.mk (Kd.R_elder' (by (with_reducible repeat apply Kd.R_drewN); exact HO261.out) (Kd.R_base ho66) hb)
         have n14_ := Aside0.mk (Kd.R_elder' (by (with_reducible repeat apply Kd.R_drewN); exact HO266.out) (Kd.R_base ho66) hb)
         have n15_ := Aside0.mk (Kd.R_lower (Kd.R_new' (Kd.R_new' (Kd.R_new' (Kd.R_new' (Kd.R_new' (Kd.R_new' (Kd.R_new' ho66 (Kd.R_lt (by (with_reducible repeat apply Kd.R_drewN); exact HO219.out))) (Kd.R_lt (by (with_reducible repeat apply Kd.R_drewN); exact HO223.out))) (Kd.R_lt (by (with_reducible repeat apply Kd.R_drewN); exact HO235.out))) (Kd.R_lt (by (with_reducible repeat apply Kd.R_drewN); exact HO242.out))) (Kd.R_lt (by (with_reducible repeat apply Kd.R_drewN); exact HO254.out))) (Kd.R_lt (by (with_reducible repeat apply Kd.R_drewN); exact HO261.out))) (Kd.R_lt (by (with_reducible repeat apply Kd.R_drewN); exact HO266.out))) (below_size (by repeat ((with_reducible first | exact HB.out | apply pw_below_drewN)))))
         have n16_ := Aside0.mk (blk_below (g := gb225) (o := .cells #[.int .i64 t220, .slice Ao30 t221.length co30] 68 (0, 0)) (by (with_reducible repeat (refine blk_drewN ?_ _)); exact BK225.out) hb)
         have n17_ := Aside0.mk (blk_below (g := gb244) (o := .cells #[.int .i64 t239, .slice Ao44 t240.length co44] 68 (0, 0)) (by (with_reducible repeat (refine blk_drewN ?_ _)); exact BK244.out) hb)
         have n18_ := Aside0.mk (blk_below (g := gb263) (o := .cells #[.int .i64 t258, .slice Ao59 t259.length co59] 68 (0, 0)) (by (with_reducible repeat (refine blk_drewN ?_ _)); exact BK263.out) hb)
         have n19_ := Aside0.mk (below_step (by repeat ((with_reducible first | exact HB.out | apply pw_below_drewN))) hb)
         clear HO213
         clear HO216
         clear HO219
         clear HO223
         clear HO229
         clear HO232
         clear HO235
         clear HO238
         clear HO242
         clear HO248
         clear HO251
         clear HO254
         clear HO257
         clear HO261
         clear HO266
         clear BK225
         clear BK244
         clear BK263
         clear HB
         have HO213 := n0_
         have HO216 := n1_
         have HO219 := n2_
         have HO223 := n3_
         have HO229 := n4_
         have HO232 := n5_
         have HO235 := n6_
         have HO238 := n7_
         have HO242 := n8_
         have HO248 := n9_
         have HO251 := n10_
         have HO254 := n11_
         have HO257 := n12_
         have HO261 := n13_
         have HO266 := n14_
         have HO270 := n15_
         have BK225 := n16_
         have BK244 := n17_
         have BK263 := n18_
         have HB := n19_
         clear n0_ n1_ n2_ n3_ n4_ n5_ n6_ n7_ n8_ n9_ n10_ n11_ n12_ n13_ n14_ n15_ n16_ n17_ n18_ n19_
         clear hb ho66
         obtain ⟨Ao67, co67, eo67⟩ := Kd.R_slice HO270.out
         (subst eo67)
         refine hK.out _ _ ⟨(blk_cell BK225.out 0).trans rfl, (blk_cell BK225.out 1).trans rfl, (blk_cell BK244.out 0).trans rfl, (blk_cell BK244.out 1).trans rfl⟩ (fun hHeld => ?_)
         clear hK K
         refine norm_ (a' := ?_) ?_ ?_
         rotate_left
         ·
          show Act.put _ (some 52) _ = _
          simp only [Act.put, List.setIfInBounds_toArray, List.set_cons_zero, List.set_cons_succ, i64_w, i32_w]
          rfl
         refine one_ (i := 26) (N := some 53) #[Y,Y,Y,Y,Y,Y,Y,Y,Y,Y,Y,Y,Y,Y,Y,Y,Y,Y,Y,Y,Y,Y,Y,Y,Y,Y,Y,Z,Z,Z,Z,Z,Z,Z,Z,Z,Z,Z,Z,Z,Z,Z,Z,Z,Z] rfl rfl (one_of HT_.out (by kernel_rfl)) (by decide) (fun K hK => ?_)
         refine goes_ Try.func34 (by kernel_rfl) rfl #[.slice Ao44 t240.length co44, .slice Ao67 y268.length co67] (by rfl) rfl rfl (by (try simp only [List.map_toArray, List.map_cons, List.map_nil]); rfl) ?_
         with_reducible refine (peristyleref01_Same.calls k _ _ t240 _ _ y268 true _ ?side1 ?side2 ?side3 ?side4 A13.out).mono ?_
         (case side1 => repeat (exact (Kd.R_reads' HO242.out).2.2))
         (case side2 => exact (Kd.R_reads' HO242.out).2.1)
         (case side3 => repeat (exact (Kd.R_reads' HO270.out).2.2))
         (case side4 => exact (Kd.R_reads' HO270.out).2.1)
         rintro e w' ⟨rfl, ⟨nd, rfl⟩⟩
         refine ⟨_, rfl, ?_⟩
         refine hK.out _ _ ⟨(blk_cell BK225.out 0).trans rfl, (blk_cell BK225.out 1).trans rfl, (blk_cell BK244.out 0).trans rfl, (blk_cell BK244.out 1).trans rfl⟩ (fun hHeld => ?_)
         clear hK K
         refine norm_ (a' := ?_) ?_ ?_
         rotate_left
         ·
          show Act.put _ (some 53) _ = _
          simp only [Act.put, List.setIfInBounds_toArray, List.set_cons_zero, List.set_cons_succ, i64_w, i32_w]
          rfl
         refine pure_ (i := 27) (N := some 54) (v := ?_) (a' := ?_) #[Y,Y,Y,Y,Y,Y,Y,Y,Y,Y,Y,Y,Y,Y,Y,Y,Y,Y,Y,Y,Y,Y,Y,Y,Y,Y,Y,Y,Z,Z,Z,Z,Z,Z,Z,Z,Z,Z,Z,Z,Z,Z,Z,Z,Z] rfl rfl (any_of HT_.out (by kernel_rfl)) (fun _ _ _ h => h) (Or.inl ⟨by rfl, ?_⟩) ?_ ?_
         rotate_left
         ·
          intro w'
          go_simp
          with_reducible rfl
         rotate_left
         ·
          simp only [Act.put, List.setIfInBounds_toArray, List.set_cons_zero, List.set_cons_succ, i64_w, i32_w]
          rfl
         refine pure_ (i := 28) (N := some 55) (v := ?_) (a' := ?_) #[Y,Y,Y,Y,Y,Y,Y,Y,Y,Y,Y,Y,Y,Y,Y,Y,Y,Y,Y,Y,Y,Y,Y,Y,Y,Y,Y,Y,Y,Z,Z,Z,Z,Z,Z,Z,Z,Z,Z,Z,Z,Z,Z,Z,Z] rfl rfl (any_of HT_.out (by kernel_rfl)) (fun _ _ _ h => h) (Or.inl ⟨by rfl, ?_⟩) ?_ ?_
         rotate_left
         ·
          intro w'
          go_simp
          with_reducible rfl
         rotate_left
         ·
          simp only [Act.put, List.setIfInBounds_toArray, List.set_cons_zero, List.set_cons_succ, i64_w, i32_w]
          rfl
         refine pure_ (i := 29) (N := some 56) (v := ?_) (a' := ?_) #[Y,Y,Y,Y,Y,Y,Y,Y,Y,Y,Y,Y,Y,Y,Y,Y,Y,Y,Y,Y,Y,Y,Y,Y,Y,Y,Y,Y,Y,Y,Z,Z,Z,Z,Z,Z,Z,Z,Z,Z,Z,Z,Z,Z,Z] rfl rfl (any_of HT_.out (by kernel_rfl)) (fun _ _ _ h => h) (Or.inl ⟨by rfl, ?_⟩) ?_ ?_
         rotate_left
         ·
          intro w'
          go_simp
          with_reducible rfl
         rotate_left
         ·
          simp only [Act.put, List.setIfInBounds_toArray, List.set_cons_zero, List.set_cons_succ, i64_w, i32_w]
          rfl
         refine pure_ (i := 30) (N := some 57) (v := ?_) (a' := ?_) #[Y,Y,Y,Y,Y,Y,Y,Y,Y,Y,Y,Y,Y,Y,Y,Y,Y,Y,Y,Y,Y,Y,Y,Y,Y,Y,Y,Y,Y,Y,Y,Z,Z,Z,Z,Z,Z,Z,Z,Z,Z,Z,Z,Z,Z] rfl rfl (any_of HT_.out (by kernel_rfl)) (fun _ _ _ h => h) (Or.inl ⟨by rfl, ?_⟩) ?_ ?_
         rotate_left
         ·
          intro w'
          go_simp
          with_reducible rfl
         rotate_left
         ·
          simp only [Act.put, List.setIfInBounds_toArray, List.set_cons_zero, List.set_cons_succ, i64_w, i32_w]
          rfl
         refine pure_ (i := 31) (N := some 58) (v := ?_) (a' := ?_) #[Y,Y,Y,Y,Y,Y,Y,Y,Y,Y,Y,Y,Y,Y,Y,Y,Y,Y,Y,Y,Y,Y,Y,Y,Y,Y,Y,Y,Y,Y,Y,Y,Z,Z,Z,Z,Z,Z,Z,Z,Z,Z,Z,Z,Z] rfl rfl (any_of HT_.out (by kernel_rfl)) (fun _ _ _ h => h) (Or.inl ⟨by rfl, ?_⟩) ?_ ?_
         rotate_left
         ·
          intro w'
          go_simp
          with_reducible rfl
         rotate_left
         ·
          simp only [Act.put, List.setIfInBounds_toArray, List.set_cons_zero, List.set_cons_succ, i64_w, i32_w]
          rfl
         refine pure_ (i := 32) (N := some 59) (v := ?_) (a' := ?_) #[Y,Y,Y,Y,Y,Y,Y,Y,Y,Y,Y,Y,Y,Y,Y,Y,Y,Y,Y,Y,Y,Y,Y,Y,Y,Y,Y,Y,Y,Y,Y,Y,Y,Z,Z,Z,Z,Z,Z,Z,Z,Z,Z,Z,Z] rfl rfl (any_of HT_.out (by kernel_rfl)) (fun _ _ _ h => h) (Or.inl ⟨by rfl, ?_⟩) ?_ ?_
         rotate_left
         ·
          intro w'
          go_simp
          with_reducible rfl
         rotate_left
         ·
          simp only [Act.put, List.setIfInBounds_toArray, List.set_cons_zero, List.set_cons_succ, i64_w, i32_w]
          rfl
         refine one_ (i := 33) (N := some 60) #[Y,Y,Y,Y,Y,Y,Y,Y,Y,Y,Y,Y,Y,Y,Y,Y,Y,Y,Y,Y,Y,Y,Y,Y,Y,Y,Y,Y,Y,Y,Y,Y,Y,Y,Z,Z,Z,Z,Z,Z,Z,Z,Z,Z,Z] rfl rfl (one_of HT_.out (by kernel_rfl)) (by decide) (fun K hK => ?_)
         refine goes_ Try.func75 (by kernel_rfl) rfl #[] (by rfl) rfl rfl (by (try simp only [List.map_toArray, List.map_cons, List.map_nil]); done) ?_
         with_reducible refine (peristylelaw32_table.calls k  t272 t273 t276 _ A16.out).mono ?_
         rintro e w68 ⟨v274, v277, rfl, ho0, ho1, hb⟩
         refine ⟨_, rfl, ?_⟩
         have n0_ := Aside0.mk (Kd.V_below (by (with_reducible repeat apply Kd.V_drewN); exact HO213.out) hb)
         have n1_ := Aside0.mk (Kd.V_below (by (with_reducible repeat apply Kd.V_drewN); exact HO216.out) hb)
         have n2_ := Aside0.mk (Kd.R_below (by (with_reducible repeat apply Kd.R_drewN); exact HO219.out) hb)
         have n3_ := Aside0.mk (Kd.R_below (by (with_reducible repeat apply Kd.R_drewN); exact HO223.out) hb)
         have n4_ := Aside0.mk (Kd.V_below (by (with_reducible repeat apply Kd.V_drewN); exact HO229.out) hb)
         have n5_ := Aside0.mk (Kd.V_below (by (with_reducible repeat apply Kd.V_drewN); exact HO232.out) hb)
         have n6_ := Aside0.mk (Kd.R_below (by (with_reducible repeat apply Kd.R_drewN); exact HO235.out) hb)
         have n7_ := Aside0.mk (Kd.R_below (by (with_reducible repeat apply Kd.R_drewN); exact HO238.out) hb)
         have n8_ := Aside0.mk (Kd.R_below (by (with_reducible repeat apply Kd.R_drewN); exact HO242.out) hb)
         have n9_ := Aside0.mk (Kd.V_below (by (with_reducible repeat apply Kd.V_drewN); exact HO248.out) hb)
         have n10_ := Aside0.mk (Kd.V_below (by (with_reducible repeat apply Kd.V_drewN); exact HO251.out) hb)
         have n11_ := Aside0.mk (Kd.R_below (by (with_reducible repeat apply Kd.R_drewN); exact HO254.out) hb)
         have n12_ := Aside0.mk (Kd.R_below (by (with_reducible repeat apply Kd.R_drewN); exact HO257.out) hb)
         have n13_ := Aside0.mk (Kd.R_below (by (with_reducible repeat apply Kd.R_drewN); exact HO261.out) hb)
         have n14_ := Aside0.mk (Kd.R_below (by (with_reducible repeat apply Kd.R_drewN); exact HO266.out) hb)
         have n15_ := Aside0.mk (Kd.R_below (by (with_reducible repeat apply Kd.R_drewN); exact HO270.out) hb)
         have n16_ := Aside0.mk (Kd.V_lower (Kd.V_mono (ok' := fun k_ => some k_ ≠ ob_ Ao26 y217.length co26 ∧ some k_ ≠ ob_ Ao30 t221.length co30 ∧ some k_ ≠ ob_ Ao38 y233.length co38 ∧ some k_ ≠ ob_ Ao39 y236.length co39 ∧ some k_ ≠ ob_ Ao44 t240.length co44 ∧ some k_ ≠ ob_ Ao52 y252.length co52 ∧ some k_ ≠ ob_ Ao53 y255.length co53 ∧ some k_ ≠ ob_ Ao59 t259.length co59 ∧ some k_ ≠ ob_ Ao64 y264.length co64 ∧ some k_ ≠ ob_ Ao67 y268.length co67 ∧ k_ ≠ gb225 ∧ k_ ≠ gb244 ∧ k_ ≠ gb263) ho0 (fun k_ hk_ => ⟨(Kd.fresh' (Kd.R_lt (by (with_reducible repeat apply Kd.R_drewN); exact HO219.out)) k_ hk_), (Kd.fresh' (Kd.R_lt (by (with_reducible repeat apply Kd.R_drewN); exact HO223.out)) k_ hk_), (Kd.fresh' (Kd.R_lt (by (with_reducible repeat apply Kd.R_drewN); exact HO235.out)) k_ hk_), (Kd.fresh' (Kd.R_lt (by (with_reducible repeat apply Kd.R_drewN); exact HO238.out)) k_ hk_), (Kd.fresh' (Kd.R_lt (by (with_reducible repeat apply Kd.R_drewN); exact HO242.out)) k_ hk_), (Kd.fresh' (Kd.R_lt (by (with_reducible repeat apply Kd.R_drewN); exact HO254.out)) k_ hk_), (Kd.fresh' (Kd.R_lt (by (with_reducible repeat apply Kd.R_drewN); exact HO257.out)) k_ hk_), (Kd.fresh' (Kd.R_lt (by (with_reducible repeat apply Kd.R_drewN); exact HO261.out)) k_ hk_), (Kd.fresh' (Kd.R_lt (by (with_reducible repeat apply Kd.R_drewN); exact HO266.out)) k_ hk_), (Kd.fresh' (Kd.R_lt (by (with_reducible repeat apply Kd.R_drewN); exact HO270.out)) k_ hk_), (Kd.freshB (g := gb225) (o := .cells #[.int .i64 t220, .slice Ao30 t221.length co30] 68 (0, 0)) (by (with_reducible repeat (refine blk_drewN ?_ _)); exact BK225.out) k_ hk_), (Kd.freshB (g := gb244) (o := .cells #[.int .i64 t239, .slice Ao44 t240.length co44] 68 (0, 0)) (by (with_reducible repeat (refine blk_drewN ?_ _)); exact BK244.out) k_ hk_), (Kd.freshB (g := gb263) (o := .cells #[.int .i64 t258, .slice Ao59 t259.length co59] 68 (0, 0)) (by (with_reducible repeat (refine blk_drewN ?_ _)); exact BK263.out) k_ hk_)⟩)) (below_size (by repeat ((with_reducible first | exact HB.out | apply pw_below_drewN)))))
         have n17_ := Aside0.mk (Kd.V_lower (Kd.V_mono (ok' := fun k_ => some k_ ≠ ob_ Ao26 y217.length co26 ∧ some k_ ≠ ob_ Ao30 t221.length co30 ∧ some k_ ≠ ob_ Ao38 y233.length co38 ∧ some k_ ≠ ob_ Ao39 y236.length co39 ∧ some k_ ≠ ob_ Ao44 t240.length co44 ∧ some k_ ≠ ob_ Ao52 y252.length co52 ∧ some k_ ≠ ob_ Ao53 y255.length co53 ∧ some k_ ≠ ob_ Ao59 t259.length co59 ∧ some k_ ≠ ob_ Ao64 y264.length co64 ∧ some k_ ≠ ob_ Ao67 y268.length co67 ∧ k_ ≠ gb225 ∧ k_ ≠ gb244 ∧ k_ ≠ gb263) ho1 (fun k_ hk_ => ⟨(Kd.fresh' (Kd.R_lt (by (with_reducible repeat apply Kd.R_drewN); exact HO219.out)) k_ hk_), (Kd.fresh' (Kd.R_lt (by (with_reducible repeat apply Kd.R_drewN); exact HO223.out)) k_ hk_), (Kd.fresh' (Kd.R_lt (by (with_reducible repeat apply Kd.R_drewN); exact HO235.out)) k_ hk_), (Kd.fresh' (Kd.R_lt (by (with_reducible repeat apply Kd.R_drewN); exact HO238.out)) k_ hk_), (Kd.fresh' (Kd.R_lt (by (with_reducible repeat apply Kd.R_drewN); exact HO242.out)) k_ hk_), (Kd.fresh' (Kd.R_lt (by (with_reducible repeat apply Kd.R_drewN); exact HO254.out)) k_ hk_), (Kd.fresh' (Kd.R_lt (by (with_reducible repeat apply Kd.R_drewN); exact HO257.out)) k_ hk_), (Kd.fresh' (Kd.R_lt (by (with_reducible repeat apply Kd.R_drewN); exact HO261.out)) k_ hk_), (Kd.fresh' (Kd.R_lt (by (with_reducible repeat apply Kd.R_drewN); exact HO266.out)) k_ hk_), (Kd.fresh' (Kd.R_lt (by (with_reducible repeat apply Kd.R_drewN); exact HO270.out)) k_ hk_), (Kd.freshB (g := gb225) (o := .cells #[.int .i64 t220, .slice Ao30 t221.length co30] 68 (0, 0)) (by (with_reducible repeat (refine blk_drewN ?_ _)); exact BK225.out) k_ hk_), (Kd.freshB (g := gb244) (o := .cells #[.int .i64 t239, .slice Ao44 t240.length co44] 68 (0, 0)) (by (with_reducible repeat (refine blk_drewN ?_ _)); exact BK244.out) k_ hk_), (Kd.freshB (g := gb263) (o := .cells #[.int .i64 t258, .slice Ao59 t259.length co59] 68 (0, 0)) (by (with_reducible repeat (refine blk_drewN ?_ _)); exact BK263.out) k_ hk_)⟩)) (below_size (by repeat ((with_reducible first | exact HB.out | apply pw_below_drewN)))))
         have n18_ := Aside0.mk (blk_below (g := gb225) (o := .cells #[.int .i64 t220, .slice Ao30 t221.length co30] 68 (0, 0)) (by (with_reducible repeat (refine blk_drewN ?_ _)); exact BK225.out) hb)
         have n19_ := Aside0.mk (blk_below (g := gb244) (o := .cells #[.int .i64 t239, .slice Ao44 t240.length co44] 68 (0, 0)) (by (with_reducible repeat (refine blk_drewN ?_ _)); exact BK244.out) hb)
         have n20_ := Aside0.mk (blk_below (g := gb263) (o := .cells #[.int .i64 t258, .slice Ao59 t259.length co59] 68 (0, 0)) (by (with_reducible repeat (refine blk_drewN ?_ _)); exact BK263.out) hb)
         have n21_ := Aside0.mk (below_step (by repeat ((with_reducible first | exact HB.out | apply pw_below_drewN))) hb)
         clear HO213
         clear HO216
         clear HO219
         clear HO223
         clear HO229
         clear HO232
         clear HO235
         clear HO238
         clear HO242
         clear HO248
         clear HO251
         clear HO254
         clear HO257
         clear HO261
         clear HO266
         clear HO270
         clear BK225
         clear BK244
         clear BK263
         clear HB
         have HO213 := n0_
         have HO216 := n1_
         have HO219 := n2_
         have HO223 := n3_
         have HO229 := n4_
         have HO232 := n5_
         have HO235 := n6_
         have HO238 := n7_
         have HO242 := n8_
         have HO248 := n9_
         have HO251 := n10_
         have HO254 := n11_
         have HO257 := n12_
         have HO261 := n13_
         have HO266 := n14_
         have HO270 := n15_
         have HO275 := n16_
         have HO278 := n17_
         have BK225 := n18_
         have BK244 := n19_
         have BK263 := n20_
         have HB := n21_
         clear n0_ n1_ n2_ n3_ n4_ n5_ n6_ n7_ n8_ n9_ n10_ n11_ n12_ n13_ n14_ n15_ n16_ n17_ n18_ n19_ n20_ n21_
         (try clear hb)
         (try clear ho0)
         (try clear ho1)
         obtain ⟨Ao69, co69, eo69⟩ := Kd.V_slice HO275.out
         (subst eo69)
         obtain ⟨Ao70, co70, eo70⟩ := Kd.V_slice HO278.out
         (subst eo70)
         refine hK.out _ _ ⟨(blk_cell BK225.out 0).trans rfl, (blk_cell BK225.out 1).trans rfl, (blk_cell BK244.out 0).trans rfl, (blk_cell BK244.out 1).trans rfl⟩ (fun hHeld => ?_)
         clear hK K
         refine norm_ (a' := ?_) ?_ ?_
         rotate_left
         ·
          show Act.put _ (some 60) _ = _
          simp only [Act.put, List.setIfInBounds_toArray, List.set_cons_zero, List.set_cons_succ, i64_w, i32_w]
          rfl
         refine one_ (i := 34) (N := some 61) #[Y,Y,Y,Y,Y,Y,Y,Y,Y,Y,Y,Y,Y,Y,Y,Y,Y,Y,Y,Y,Y,Y,Y,Y,Y,Y,Y,Y,Y,Y,Y,Y,Y,Y,Y,Z,Z,Z,Z,Z,Z,Z,Z,Z,Z] rfl rfl (one_of HT_.out (by kernel_rfl)) (by decide) (fun K hK => ?_)
         refine goes_ Try.func37 (by kernel_rfl) rfl #[.agg #[.string t272, .slice Ao69 t273.length co69, .slice Ao70 t276.length co70], .int .i64 1, .int .i64 1] (by rfl) rfl rfl (by (try simp only [List.map_toArray, List.map_cons, List.map_nil]); rfl) ?_
         with_reducible refine (cover_Place.calls k t272 _ _ t273 _ _ t276 1 1 t279 _ ?side1 ?side2 ?side3 ?side4 A17.out).mono ?_
         (case side1 => repeat (exact (Kd.V_reads' HO275.out).2.2))
         (case side2 => exact (Kd.V_reads' HO275.out).2.1)
         (case side3 => repeat (exact (Kd.V_reads' HO278.out).2.2))
         (case side4 => exact (Kd.V_reads' HO278.out).2.1)
         rintro e w71 ⟨rfl, hb⟩
         refine ⟨_, rfl, ?_⟩
         have n0_ := Aside0.mk (Kd.V_below HO213.out hb)
         have n1_ := Aside0.mk (Kd.V_below HO216.out hb)
         have n2_ := Aside0.mk (Kd.R_below HO219.out hb)
         have n3_ := Aside0.mk (Kd.R_below HO223.out hb)
         have n4_ := Aside0.mk (Kd.V_below HO229.out hb)
         have n5_ := Aside0.mk (Kd.V_below HO232.out hb)
         have n6_ := Aside0.mk (Kd.R_below HO235.out hb)
         have n7_ := Aside0.mk (Kd.R_below HO238.out hb)
         have n8_ := Aside0.mk (Kd.R_below HO242.out hb)
         have n9_ := Aside0.mk (Kd.V_below HO248.out hb)
         have n10_ := Aside0.mk (Kd.V_below HO251.out hb)
         have n11_ := Aside0.mk (Kd.R_below HO254.out hb)
         have n12_ := Aside0.mk (Kd.R_below HO257.out hb)
         have n13_ := Aside0.mk (Kd.R_below HO261.out hb)
         have n14_ := Aside0.mk (Kd.R_below HO266.out hb)
         have n15_ := Aside0.mk (Kd.R_below HO270.out hb)
         have n16_ := Aside0.mk (Kd.V_below HO275.out hb)
         have n17_ := Aside0.mk (Kd.V_below HO278.out hb)
         have n18_ := Aside0.mk (blk_below (g := gb225) (o := .cells #[.int .i64 t220, .slice Ao30 t221.length co30] 68 (0, 0)) BK225.out hb)
         have n19_ := Aside0.mk (blk_below (g := gb244) (o := .cells #[.int .i64 t239, .slice Ao44 t240.length co44] 68 (0, 0)) BK244.out hb)
         have n20_ := Aside0.mk (blk_below (g := gb263) (o := .cells #[.int .i64 t258, .slice Ao59 t259.length co59] 68 (0, 0)) BK263.out hb)
         have n21_ := Aside0.mk (below_step HB.out hb)
         clear HO213
         clear HO216
         clear HO219
         clear HO223
         clear HO229
         clear HO232
         clear HO235
         clear HO238
         clear HO242
         clear HO248
         clear HO251
         clear HO254
         clear HO257
         clear HO261
         clear HO266
         clear HO270
         clear HO275
         clear HO278
         clear BK225
         clear BK244
         clear BK263
         clear HB
         have HO213 := n0_
         have HO216 := n1_
         have HO219 := n2_
         have HO223 := n3_
         have HO229 := n4_
         have HO232 := n5_
         have HO235 := n6_
         have HO238 := n7_
         have HO242 := n8_
         have HO248 := n9_
         have HO251 := n10_
         have HO254 := n11_
         have HO257 := n12_
         have HO261 := n13_
         have HO266 := n14_
         have HO270 := n15_
         have HO275 := n16_
         have HO278 := n17_
         have BK225 := n18_
         have BK244 := n19_
         have BK263 := n20_
         have HB := n21_
         clear n0_ n1_ n2_ n3_ n4_ n5_ n6_ n7_ n8_ n9_ n10_ n11_ n12_ n13_ n14_ n15_ n16_ n17_ n18_ n19_ n20_ n21_
         (try clear hb)
         refine hK.out _ _ ⟨(blk_cell BK225.out 0).trans rfl, (blk_cell BK225.out 1).trans rfl, (blk_cell BK244.out 0).trans rfl, (blk_cell BK244.out 1).trans rfl⟩ (fun hHeld => ?_)
         clear hK K
         refine norm_ (a' := ?_) ?_ ?_
         rotate_left
         ·
          show Act.put _ (some 61) _ = _
          simp only [Act.put, List.setIfInBounds_toArray, List.set_cons_zero, List.set_cons_succ, i64_w, i32_w]
          rfl
         refine pure_ (i := 35) (N := some 62) (v := ?_) (a' := ?_) #[Y,Y,Y,Y,Y,Y,Y,Y,Y,Y,Y,Y,Y,Y,Y,Y,Y,Y,Y,Y,Y,Y,Y,Y,Y,Y,Y,Y,Y,Y,Y,Y,Y,Y,Y,Y,Z,Z,Z,Z,Z,Z,Z,Z,Z] rfl rfl (any_of HT_.out (by kernel_rfl)) (fun _ _ _ h => h) (Or.inl ⟨by rfl, ?_⟩) ?_ ?_
         rotate_left
         ·
          intro w'
          go_simp
          with_reducible rfl
         rotate_left
         ·
          simp only [Act.put, List.setIfInBounds_toArray, List.set_cons_zero, List.set_cons_succ, i64_w, i32_w]
          rfl
         refine pure_ (i := 36) (N := some 63) (v := ?_) (a' := ?_) #[Y,Y,Y,Y,Y,Y,Y,Y,Y,Y,Y,Y,Y,Y,Y,Y,Y,Y,Y,Y,Y,Y,Y,Y,Y,Y,Y,Y,Y,Y,Y,Y,Y,Y,Y,Y,Y,Z,Z,Z,Z,Z,Z,Z,Z] rfl rfl (any_of HT_.out (by kernel_rfl)) (fun _ _ _ h => h) (Or.inl ⟨by rfl, ?_⟩) ?_ ?_
         rotate_left
         ·
          intro w'
          go_simp
          with_reducible rfl
         rotate_left
         ·
          simp only [Act.put, List.setIfInBounds_toArray, List.set_cons_zero, List.set_cons_succ, i64_w, i32_w]
          rfl
         refine pure_ (i := 37) (N := some 64) (v := ?_) (a' := ?_) #[Y,Y,Y,Y,Y,Y,Y,Y,Y,Y,Y,Y,Y,Y,Y,Y,Y,Y,Y,Y,Y,Y,Y,Y,Y,Y,Y,Y,Y,Y,Y,Y,Y,Y,Y,Y,Y,Y,Z,Z,Z,Z,Z,Z,Z] rfl rfl (any_of HT_.out (by kernel_rfl)) (fun _ _ _ h => h) (Or.inl ⟨by rfl, ?_⟩) ?_ ?_
         rotate_left
         ·
          intro w'
          go_simp
          with_reducible rfl
         rotate_left
         ·
          simp only [Act.put, List.setIfInBounds_toArray, List.set_cons_zero, List.set_cons_succ, i64_w, i32_w]
          rfl
         refine take_ (i := 40) (N := some 67) (v := ?_) (a' := ?_) #[Y,Y,Y,Y,Y,Y,Y,Y,Y,Y,Y,Y,Y,Y,Y,Y,Y,Y,Y,Y,Y,Y,Y,Y,Y,Y,Y,Y,Y,Y,Y,Y,Y,Y,Y,Y,Y,Y,Z,Z,Y,Z,Z,Z,Z] rfl rfl (take_ofW HT_.out HW_.out (by kernel_rfl)) (fun _ _ _ h => h) (Or.inl ⟨by rfl, ?_⟩) hHeld ?_ ?_
         rotate_left
         ·
          rintro w' ⟨s0, s1, s2, s3⟩
          go_simp
          with_reducible rfl
         rotate_left
         ·
          simp only [Act.put, List.setIfInBounds_toArray, List.set_cons_zero, List.set_cons_succ, i64_w, i32_w]
          rfl
         refine join_ (σ := Value × Value × Value) 4 #[Y,Y,Y,Y,Y,Y,Y,Y,Y,Y,Y,Y,Y,Y,Y,Y,Y,Y,Y,Y,Y,Y,Y,Y,Y,Y,Y,Y,Y,Y,Y,Y,Y,Y,Y,Y,Y,Y,Y,Y,Y,Z,Z,Z,Z] (fun s_ => [(65, .agg #[.string t280, s_.1, s_.2.1]), (66, s_.2.2)]) (fun s_ w' => (w'.cell? ⟨gb225, 0, none⟩ = some (.int .i64 t220) ∧ w'.cell? ⟨gb225, 1, none⟩ = some (.slice Ao30 t221.length co30) ∧ w'.cell? ⟨gb244, 0, none⟩ = some (.int .i64 t239) ∧ w'.cell? ⟨gb244, 1, none⟩ = some (.slice Ao44 t240.length co44)) ∧ (Kd.V k177 177 w' w.heap.size (fun k_ => some k_ ≠ ob_ Ao26 y217.length co26 ∧ some k_ ≠ ob_ Ao30 t221.length co30 ∧ some k_ ≠ ob_ Ao38 y233.length co38 ∧ some k_ ≠ ob_ Ao39 y236.length co39 ∧ some k_ ≠ ob_ Ao44 t240.length co44 ∧ some k_ ≠ ob_ Ao52 y252.length co52 ∧ some k_ ≠ ob_ Ao53 y255.length co53 ∧ some k_ ≠ ob_ Ao59 t259.length co59 ∧ some k_ ≠ ob_ Ao64 y264.length co64 ∧ some k_ ≠ ob_ Ao67 y268.length co67 ∧ some k_ ≠ (s_.2.2 : Value).ownBlock ∧ k_ ≠ gb225 ∧ k_ ≠ gb244 ∧ k_ ≠ gb263) (.slice Ao24 t211.length co24) t211) ∧ (Kd.V k138 138 w' w.heap.size (fun k_ => some k_ ≠ ob_ Ao26 y217.length co26 ∧ some k_ ≠ ob_ Ao30 t221.length co30 ∧ some k_ ≠ ob_ Ao38 y233.length co38 ∧ some k_ ≠ ob_ Ao39 y236.length co39 ∧ some k_ ≠ ob_ Ao44 t240.length co44 ∧ some k_ ≠ ob_ Ao52 y252.length co52 ∧ some k_ ≠ ob_ Ao53 y255.length co53 ∧ some k_ ≠ ob_ Ao59 t259.length co59 ∧ some k_ ≠ ob_ Ao64 y264.length co64 ∧ some k_ ≠ ob_ Ao67 y268.length co67 ∧ some k_ ≠ (s_.2.2 : Value).ownBlock ∧ k_ ≠ gb225 ∧ k_ ≠ gb244 ∧ k_ ≠ gb263) (.slice Ao25 t214.length co25) t214) ∧ (Kd.R (Kd.int .i64) 3 w' w.heap.size (fun k_ => some k_ ≠ ob_ Ao30 t221.length co30 ∧ some k_ ≠ ob_ Ao38 y233.length co38 ∧ some k_ ≠ ob_ Ao44 t240.length co44 ∧ some k_ ≠ ob_ Ao52 y252.length co52 ∧ some k_ ≠ ob_ Ao59 t259.length co59 ∧ some k_ ≠ ob_ Ao64 y264.length co64 ∧ some k_ ≠ ob_ Ao67 y268.length co67 ∧ some k_ ≠ (s_.2.2 : Value).ownBlock) (.slice Ao26 y217.length co26) y217) ∧ (Kd.R (Kd.int .i64) 3 w' w.heap.size (fun k_ => some k_ ≠ ob_ Ao26 y217.length co26 ∧ some k_ ≠ ob_ Ao38 y233.length co38 ∧ some k_ ≠ ob_ Ao44 t240.length co44 ∧ some k_ ≠ ob_ Ao52 y252.length co52 ∧ some k_ ≠ ob_ Ao59 t259.length co59 ∧ some k_ ≠ ob_ Ao64 y264.length co64 ∧ some k_ ≠ ob_ Ao67 y268.length co67 ∧ some k_ ≠ (s_.2.2 : Value).ownBlock) (.slice Ao30 t221.length co30) t221) ∧ (Kd.V k177 177 w' w.heap.size (fun k_ => some k_ ≠ ob_ Ao26 y217.length co26 ∧ some k_ ≠ ob_ Ao30 t221.length co30 ∧ some k_ ≠ ob_ Ao38 y233.length co38 ∧ some k_ ≠ ob_ Ao39 y236.length co39 ∧ some k_ ≠ ob_ Ao44 t240.length co44 ∧ some k_ ≠ ob_ Ao52 y252.length co52 ∧ some k_ ≠ ob_ Ao53 y255.length co53 ∧ some k_ ≠ ob_ Ao59 t259.length co59 ∧ some k_ ≠ ob_ Ao64 y264.length co64 ∧ some k_ ≠ ob_ Ao67 y268.length co67 ∧ some k_ ≠ (s_.2.2 : Value).ownBlock ∧ k_ ≠ gb225 ∧ k_ ≠ gb244 ∧ k_ ≠ gb263) (.slice Ao36 t227.length co36) t227) ∧ (Kd.V k138 138 w' w.heap.size (fun k_ => some k_ ≠ ob_ Ao26 y217.length co26 ∧ some k_ ≠ ob_ Ao30 t221.length co30 ∧ some k_ ≠ ob_ Ao38 y233.length co38 ∧ some k_ ≠ ob_ Ao39 y236.length co39 ∧ some k_ ≠ ob_ Ao44 t240.length co44 ∧ some k_ ≠ ob_ Ao52 y252.length co52 ∧ some k_ ≠ ob_ Ao53 y255.length co53 ∧ some k_ ≠ ob_ Ao59 t259.length co59 ∧ some k_ ≠ ob_ Ao64 y264.length co64 ∧ some k_ ≠ ob_ Ao67 y268.length co67 ∧ some k_ ≠ (s_.2.2 : Value).ownBlock ∧ k_ ≠ gb225 ∧ k_ ≠ gb244 ∧ k_ ≠ gb263) (.slice Ao37 t230.length co37) t230) ∧ (Kd.R (Kd.int .i64) 3 w' w.heap.size (fun k_ => some k_ ≠ ob_ Ao26 y217.length co26 ∧ some k_ ≠ ob_ Ao30 t221.length co30 ∧ some k_ ≠ ob_ Ao44 t240.length co44 ∧ some k_ ≠ ob_ Ao52 y252.length co52 ∧ some k_ ≠ ob_ Ao59 t259.length co59 ∧ some k_ ≠ ob_ Ao64 y264.length co64 ∧ some k_ ≠ ob_ Ao67 y268.length co67 ∧ some k_ ≠ (s_.2.2 : Value).ownBlock) (.slice Ao38 y233.length co38) y233) ∧ (Kd.R Kd.string 9 w' w.heap.size (fun k_ => some k_ ≠ ob_ Ao53 y255.length co53) (.slice Ao39 y236.length co39) y236) ∧ (Kd.R (Kd.int .i64) 3 w' w.heap.size (fun k_ => some k_ ≠ ob_ Ao26 y217.length co26 ∧ some k_ ≠ ob_ Ao30 t221.length co30 ∧ some k_ ≠ ob_ Ao38 y233.length co38 ∧ some k_ ≠ ob_ Ao52 y252.length co52 ∧ some k_ ≠ ob_ Ao59 t259.length co59 ∧ some k_ ≠ ob_ Ao64 y264.length co64 ∧ some k_ ≠ ob_ Ao67 y268.length co67 ∧ some k_ ≠ (s_.2.2 : Value).ownBlock) (.slice Ao44 t240.length co44) t240) ∧ (Kd.V k177 177 w' w.heap.size (fun k_ => some k_ ≠ ob_ Ao26 y217.length co26 ∧ some k_ ≠ ob_ Ao30 t221.length co30 ∧ some k_ ≠ ob_ Ao38 y233.length co38 ∧ some k_ ≠ ob_ Ao39 y236.length co39 ∧ some k_ ≠ ob_ Ao44 t240.length co44 ∧ some k_ ≠ ob_ Ao52 y252.length co52 ∧ some k_ ≠ ob_ Ao53 y255.length co53 ∧ some k_ ≠ ob_ Ao59 t259.length co59 ∧ some k_ ≠ ob_ Ao64 y264.length co64 ∧ some k_ ≠ ob_ Ao67 y268.length co67 ∧ some k_ ≠ (s_.2.2 : Value).ownBlock ∧ k_ ≠ gb225 ∧ k_ ≠ gb244 ∧ k_ ≠ gb263) (.slice Ao50 t246.length co50) t246) ∧ (Kd.V k138 138 w' w.heap.size (fun k_ => some k_ ≠ ob_ Ao26 y217.length co26 ∧ some k_ ≠ ob_ Ao30 t221.length co30 ∧ some k_ ≠ ob_ Ao38 y233.length co38 ∧ some k_ ≠ ob_ Ao39 y236.length co39 ∧ some k_ ≠ ob_ Ao44 t240.length co44 ∧ some k_ ≠ ob_ Ao52 y252.length co52 ∧ some k_ ≠ ob_ Ao53 y255.length co53 ∧ some k_ ≠ ob_ Ao59 t259.length co59 ∧ some k_ ≠ ob_ Ao64 y264.length co64 ∧ some k_ ≠ ob_ Ao67 y268.length co67 ∧ some k_ ≠ (s_.2.2 : Value).ownBlock ∧ k_ ≠ gb225 ∧ k_ ≠ gb244 ∧ k_ ≠ gb263) (.slice Ao51 t249.length co51) t249) ∧ (Kd.R (Kd.int .i64) 3 w' w.heap.size (fun k_ => some k_ ≠ ob_ Ao26 y217.length co26 ∧ some k_ ≠ ob_ Ao30 t221.length co30 ∧ some k_ ≠ ob_ Ao38 y233.length co38 ∧ some k_ ≠ ob_ Ao44 t240.length co44 ∧ some k_ ≠ ob_ Ao59 t259.length co59 ∧ some k_ ≠ ob_ Ao64 y264.length co64 ∧ some k_ ≠ ob_ Ao67 y268.length co67 ∧ some k_ ≠ (s_.2.2 : Value).ownBlock) (.slice Ao52 y252.length co52) y252) ∧ (Kd.R Kd.string 9 w' w.heap.size (fun k_ => some k_ ≠ ob_ Ao39 y236.length co39) (.slice Ao53 y255.length co53) y255) ∧ (Kd.R (Kd.int .i64) 3 w' w.heap.size (fun k_ => some k_ ≠ ob_ Ao26 y217.length co26 ∧ some k_ ≠ ob_ Ao30 t221.length co30 ∧ some k_ ≠ ob_ Ao38 y233.length co38 ∧ some k_ ≠ ob_ Ao44 t240.length co44 ∧ some k_ ≠ ob_ Ao52 y252.length co52 ∧ some k_ ≠ ob_ Ao64 y264.length co64 ∧ some k_ ≠ ob_ Ao67 y268.length co67 ∧ some k_ ≠ (s_.2.2 : Value).ownBlock) (.slice Ao59 t259.length co59) t259) ∧ (Kd.R (Kd.int .i64) 3 w' w.heap.size (fun k_ => some k_ ≠ ob_ Ao26 y217.length co26 ∧ some k_ ≠ ob_ Ao30 t221.length co30 ∧ some k_ ≠ ob_ Ao38 y233.length co38 ∧ some k_ ≠ ob_ Ao44 t240.length co44 ∧ some k_ ≠ ob_ Ao52 y252.length co52 ∧ some k_ ≠ ob_ Ao59 t259.length co59 ∧ some k_ ≠ ob_ Ao67 y268.length co67 ∧ some k_ ≠ (s_.2.2 : Value).ownBlock) (.slice Ao64 y264.length co64) y264) ∧ (Kd.R (Kd.int .i64) 3 w' w.heap.size (fun k_ => some k_ ≠ ob_ Ao26 y217.length co26 ∧ some k_ ≠ ob_ Ao30 t221.length co30 ∧ some k_ ≠ ob_ Ao38 y233.length co38 ∧ some k_ ≠ ob_ Ao44 t240.length co44 ∧ some k_ ≠ ob_ Ao52 y252.length co52 ∧ some k_ ≠ ob_ Ao59 t259.length co59 ∧ some k_ ≠ ob_ Ao64 y264.length co64 ∧ some k_ ≠ (s_.2.2 : Value).ownBlock) (.slice Ao67 y268.length co67) y268) ∧ (Kd.V k177 177 w' w.heap.size (fun k_ => some k_ ≠ ob_ Ao26 y217.length co26 ∧ some k_ ≠ ob_ Ao30 t221.length co30 ∧ some k_ ≠ ob_ Ao38 y233.length co38 ∧ some k_ ≠ ob_ Ao39 y236.length co39 ∧ some k_ ≠ ob_ Ao44 t240.length co44 ∧ some k_ ≠ ob_ Ao52 y252.length co52 ∧ some k_ ≠ ob_ Ao53 y255.length co53 ∧ some k_ ≠ ob_ Ao59 t259.length co59 ∧ some k_ ≠ ob_ Ao64 y264.length co64 ∧ some k_ ≠ ob_ Ao67 y268.length co67 ∧ some k_ ≠ (s_.2.2 : Value).ownBlock ∧ k_ ≠ gb225 ∧ k_ ≠ gb244 ∧ k_ ≠ gb263) (.slice Ao69 t273.length co69) t273) ∧ (Kd.V k138 138 w' w.heap.size (fun k_ => some k_ ≠ ob_ Ao26 y217.length co26 ∧ some k_ ≠ ob_ Ao30 t221.length co30 ∧ some k_ ≠ ob_ Ao38 y233.length co38 ∧ some k_ ≠ ob_ Ao39 y236.length co39 ∧ some k_ ≠ ob_ Ao44 t240.length co44 ∧ some k_ ≠ ob_ Ao52 y252.length co52 ∧ some k_ ≠ ob_ Ao53 y255.length co53 ∧ some k_ ≠ ob_ Ao59 t259.length co59 ∧ some k_ ≠ ob_ Ao64 y264.length co64 ∧ some k_ ≠ ob_ Ao67 y268.length co67 ∧ some k_ ≠ (s_.2.2 : Value).ownBlock ∧ k_ ≠ gb225 ∧ k_ ≠ gb244 ∧ k_ ≠ gb263) (.slice Ao70 t276.length co70) t276) ∧ (Kd.V k177 177 w' w.heap.size (fun k_ => some k_ ≠ ob_ Ao26 y217.length co26 ∧ some k_ ≠ ob_ Ao30 t221.length co30 ∧ some k_ ≠ ob_ Ao38 y233.length co38 ∧ some k_ ≠ ob_ Ao39 y236.length co39 ∧ some k_ ≠ ob_ Ao44 t240.length co44 ∧ some k_ ≠ ob_ Ao52 y252.length co52 ∧ some k_ ≠ ob_ Ao53 y255.length co53 ∧ some k_ ≠ ob_ Ao59 t259.length co59 ∧ some k_ ≠ ob_ Ao64 y264.length co64 ∧ some k_ ≠ ob_ Ao67 y268.length co67 ∧ some k_ ≠ (s_.2.2 : Value).ownBlock ∧ k_ ≠ gb225 ∧ k_ ≠ gb244 ∧ k_ ≠ gb263) s_.1 t281) ∧ (Kd.V k138 138 w' w.heap.size (fun k_ => some k_ ≠ ob_ Ao26 y217.length co26 ∧ some k_ ≠ ob_ Ao30 t221.length co30 ∧ some k_ ≠ ob_ Ao38 y233.length co38 ∧ some k_ ≠ ob_ Ao39 y236.length co39 ∧ some k_ ≠ ob_ Ao44 t240.length co44 ∧ some k_ ≠ ob_ Ao52 y252.length co52 ∧ some k_ ≠ ob_ Ao53 y255.length co53 ∧ some k_ ≠ ob_ Ao59 t259.length co59 ∧ some k_ ≠ ob_ Ao64 y264.length co64 ∧ some k_ ≠ ob_ Ao67 y268.length co67 ∧ some k_ ≠ (s_.2.2 : Value).ownBlock ∧ k_ ≠ gb225 ∧ k_ ≠ gb244 ∧ k_ ≠ gb263) s_.2.1 t284) ∧ (Kd.R (Kd.int .i64) 3 w' w.heap.size (fun k_ => some k_ ≠ ob_ Ao26 y217.length co26 ∧ some k_ ≠ ob_ Ao30 t221.length co30 ∧ some k_ ≠ ob_ Ao38 y233.length co38 ∧ some k_ ≠ ob_ Ao44 t240.length co44 ∧ some k_ ≠ ob_ Ao52 y252.length co52 ∧ some k_ ≠ ob_ Ao59 t259.length co59 ∧ some k_ ≠ ob_ Ao64 y264.length co64 ∧ some k_ ≠ ob_ Ao67 y268.length co67) s_.2.2 y287) ∧ (w'.heap[gb225]? = some (.cells #[.int .i64 t220, .slice Ao30 t221.length co30] 68 (0, 0))) ∧ (w'.heap[gb244]? = some (.cells #[.int .i64 t239, .slice Ao44 t240.length co44] 68 (0, 0))) ∧ (w'.heap[gb263]? = some (.cells #[.int .i64 t258, .slice Ao59 t259.length co59] 68 (0, 0))) ∧ (Below w.heap.size w w')) ?_ ?_
         rotate_left
         ·
          intro hCont
          refine two_ (i := 38) (j := 39) (Ni := some 65) (Nj := some 66) #[Y,Y,Y,Y,Y,Y,Y,Y,Y,Y,Y,Y,Y,Y,Y,Y,Y,Y,Y,Y,Y,Y,Y,Y,Y,Y,Y,Y,Y,Y,Y,Y,Y,Y,Y,Y,Y,Y,Y,Z,Y,Z,Z,Z,Z] #[Y,Y,Y,Y,Y,Y,Y,Y,Y,Y,Y,Y,Y,Y,Y,Y,Y,Y,Y,Y,Y,Y,Y,Y,Y,Y,Y,Y,Y,Y,Y,Y,Y,Y,Y,Y,Y,Y,Z,Y,Y,Z,Z,Z,Z] rfl rfl rfl rfl (two_of HT_.out (by kernel_rfl)) (by decide) (by decide) (fun K hK => ?_) (fun K hK => ?_)
          ·
           refine goes_ Try.func75 (by kernel_rfl) rfl #[] (by rfl) rfl rfl (by (try simp only [List.map_toArray, List.map_cons, List.map_nil]); done) ?_
           with_reducible refine (peristylelaw32_table.calls k  t280 t281 t284 _ A19.out).mono ?_
           rintro e w72 ⟨v282, v285, rfl, ho0, ho1, hb⟩
           refine ⟨_, rfl, ?_⟩
           have n0_ := Aside0.mk (Kd.V_below HO213.out hb)
           have n1_ := Aside0.mk (Kd.V_below HO216.out hb)
           have n2_ := Aside0.mk (Kd.R_below HO219.out hb)
           have n3_ := Aside0.mk (Kd.R_below HO223.out hb)
           have n4_ := Aside0.mk (Kd.V_below HO229.out hb)
           have n5_ := Aside0.mk (Kd.V_below HO232.out hb)
           have n6_ := Aside0.mk (Kd.R_below HO235.out hb)
           have n7_ := Aside0.mk (Kd.R_below HO238.out hb)
           have n8_ := Aside0.mk (Kd.R_below HO242.out hb)
           have n9_ := Aside0.mk (Kd.V_below HO248.out hb)
           have n10_ := Aside0.mk (Kd.V_below HO251.out hb)
           have n11_ := Aside0.mk (Kd.R_below HO254.out hb)
           have n12_ := Aside0.mk (Kd.R_below HO257.out hb)
           have n13_ := Aside0.mk (Kd.R_below HO261.out hb)
           have n14_ := Aside0.mk (Kd.R_below HO266.out hb)
           have n15_ := Aside0.mk (Kd.R_below HO270.out hb)
           have n16_ := Aside0.mk (Kd.V_below HO275.out hb)
           have n17_ := Aside0.mk (Kd.V_below HO278.out hb)
           have n18_ := Aside0.mk (Kd.V_lower (Kd.V_mono (ok' := fun k_ => some k_ ≠ ob_ Ao26 y217.length co26 ∧ some k_ ≠ ob_ Ao30 t221.length co30 ∧ some k_ ≠ ob_ Ao38 y233.length co38 ∧ some k_ ≠ ob_ Ao39 y236.length co39 ∧ some k_ ≠ ob_ Ao44 t240.length co44 ∧ some k_ ≠ ob_ Ao52 y252.length co52 ∧ some k_ ≠ ob_ Ao53 y255.length co53 ∧ some k_ ≠ ob_ Ao59 t259.length co59 ∧ some k_ ≠ ob_ Ao64 y264.length co64 ∧ some k_ ≠ ob_ Ao67 y268.length co67 ∧ k_ ≠ gb225 ∧ k_ ≠ gb244 ∧ k_ ≠ gb263) ho0 (fun k_ hk_ => ⟨(Kd.fresh' (Kd.R_lt HO219.out) k_ hk_), (Kd.fresh' (Kd.R_lt HO223.out) k_ hk_), (Kd.fresh' (Kd.R_lt HO235.out) k_ hk_), (Kd.fresh' (Kd.R_lt HO238.out) k_ hk_), (Kd.fresh' (Kd.R_lt HO242.out) k_ hk_), (Kd.fresh' (Kd.R_lt HO254.out) k_ hk_), (Kd.fresh' (Kd.R_lt HO257.out) k_ hk_), (Kd.fresh' (Kd.R_lt HO261.out) k_ hk_), (Kd.fresh' (Kd.R_lt HO266.out) k_ hk_), (Kd.fresh' (Kd.R_lt HO270.out) k_ hk_), (Kd.freshB (g := gb225) (o := .cells #[.int .i64 t220, .slice Ao30 t221.length co30] 68 (0, 0)) BK225.out k_ hk_), (Kd.freshB (g := gb244) (o := .cells #[.int .i64 t239, .slice Ao44 t240.length co44] 68 (0, 0)) BK244.out k_ hk_), (Kd.freshB (g := gb263) (o := .cells #[.int .i64 t258, .slice Ao59 t259.length co59] 68 (0, 0)) BK263.out k_ hk_)⟩)) (below_size HB.out))
           have n19_ := Aside0.mk (Kd.V_lower (Kd.V_mono (ok' := fun k_ => some k_ ≠ ob_ Ao26 y217.length co26 ∧ some k_ ≠ ob_ Ao30 t221.length co30 ∧ some k_ ≠ ob_ Ao38 y233.length co38 ∧ some k_ ≠ ob_ Ao39 y236.length co39 ∧ some k_ ≠ ob_ Ao44 t240.length co44 ∧ some k_ ≠ ob_ Ao52 y252.length co52 ∧ some k_ ≠ ob_ Ao53 y255.length co53 ∧ some k_ ≠ ob_ Ao59 t259.length co59 ∧ some k_ ≠ ob_ Ao64 y264.length co64 ∧ some k_ ≠ ob_ Ao67 y268.length co67 ∧ k_ ≠ gb225 ∧ k_ ≠ gb244 ∧ k_ ≠ gb263) ho1 (fun k_ hk_ => ⟨(Kd.fresh' (Kd.R_lt HO219.out) k_ hk_), (Kd.fresh' (Kd.R_lt HO223.out) k_ hk_), (Kd.fresh' (Kd.R_lt HO235.out) k_ hk_), (Kd.fresh' (Kd.R_lt HO238.out) k_ hk_), (Kd.fresh' (Kd.R_lt HO242.out) k_ hk_), (Kd.fresh' (Kd.R_lt HO254.out) k_ hk_), (Kd.fresh' (Kd.R_lt HO257.out) k_ hk_), (Kd.fresh' (Kd.R_lt HO261.out) k_ hk_), (Kd.fresh' (Kd.R_lt HO266.out) k_ hk_), (Kd.fresh' (Kd.R_lt HO270.out) k_ hk_), (Kd.freshB (g := gb225) (o := .cells #[.int .i64 t220, .slice Ao30 t221.length co30] 68 (0, 0)) BK225.out k_ hk_), (Kd.freshB (g := gb244) (o := .cells #[.int .i64 t239, .slice Ao44 t240.length co44] 68 (0, 0)) BK244.out k_ hk_), (Kd.freshB (g := gb263) (o := .cells #[.int .i64 t258, .slice Ao59 t259.length co59] 68 (0, 0)) BK263.out k_ hk_)⟩)) (below_size HB.out))
           have n20_ := Aside0.mk (blk_below (g := gb225) (o := .cells #[.int .i64 t220, .slice Ao30 t221.length co30] 68 (0, 0)) BK225.out hb)
           have n21_ := Aside0.mk (blk_below (g := gb244) (o := .cells #[.int .i64 t239, .slice Ao44 t240.length co44] 68 (0, 0)) BK244.out hb)
           have n22_ := Aside0.mk (blk_below (g := gb263) (o := .cells #[.int .i64 t258, .slice Ao59 t259.length co59] 68 (0, 0)) BK263.out hb)
           have n23_ := Aside0.mk (below_step HB.out hb)
           clear HO213
           clear HO216
           clear HO219
           clear HO223
           clear HO229
           clear HO232
           clear HO235
           clear HO238
           clear HO242
           clear HO248
           clear HO251
           clear HO254
           clear HO257
           clear HO261
           clear HO266
           clear HO270
           clear HO275
           clear HO278
           clear BK225
           clear BK244
           clear BK263
           clear HB
           have HO213 := n0_
           have HO216 := n1_
           have HO219 := n2_
           have HO223 := n3_
           have HO229 := n4_
           have HO232 := n5_
           have HO235 := n6_
           have HO238 := n7_
           have HO242 := n8_
           have HO248 := n9_
           have HO251 := n10_
           have HO254 := n11_
           have HO257 := n12_
           have HO261 := n13_
           have HO266 := n14_
           have HO270 := n15_
           have HO275 := n16_
           have HO278 := n17_
           have HO283 := n18_
           have HO286 := n19_
           have BK225 := n20_
           have BK244 := n21_
           have BK263 := n22_
           have HB := n23_
           clear n0_ n1_ n2_ n3_ n4_ n5_ n6_ n7_ n8_ n9_ n10_ n11_ n12_ n13_ n14_ n15_ n16_ n17_ n18_ n19_ n20_ n21_ n22_ n23_
           (try clear hb)
           (try clear ho0)
           (try clear ho1)
           refine hK.out _ _ ⟨(blk_cell BK225.out 0).trans rfl, (blk_cell BK225.out 1).trans rfl, (blk_cell BK244.out 0).trans rfl, (blk_cell BK244.out 1).trans rfl⟩ (fun hHeld => ?_)
           clear hK K
           refine norm_ (a' := ?_) ?_ ?_
           rotate_left
           ·
            show Act.put _ (some 65) _ = _
            simp only [Act.put, List.setIfInBounds_toArray, List.set_cons_zero, List.set_cons_succ, i64_w, i32_w]
            rfl
           refine one_ (i := 39) (N := some 66) #[Y,Y,Y,Y,Y,Y,Y,Y,Y,Y,Y,Y,Y,Y,Y,Y,Y,Y,Y,Y,Y,Y,Y,Y,Y,Y,Y,Y,Y,Y,Y,Y,Y,Y,Y,Y,Y,Y,Y,Y,Y,Z,Z,Z,Z] rfl rfl (one_of HT_.out (by kernel_rfl)) (by decide) (fun K hK => ?_)
           refine Kd.R_lit_step (Kd.int .i64) _ 3 ?hg (N := 66) ?hd (xs := ([1] : List Int)) (inner := [.int .i64 1]) (ok := fun _ => True) (okp := fun _ => True) ?hr ?hp (fun _ hk => hk) trivial (Below.refl _ _) (Nat.le_refl _) (by simp) ?_; (case hd => rfl); (case hg => rfl); (case hr => (go_simp; done)); (case hp => exact (Reps.one (show Kd.M (Kd.int .i64) _ _ _ 1 [.int .i64 1] from rfl) (Reps.none _ _)))
           intro v288 w73 ho74 hb hg_ hnew_
           clear hg_ hnew_
           (rw [← Ny287.out] at ho74)
           have n0_ := Aside0.mk (Kd.V_elder' HO213.out (Kd.R_base ho74) hb)
           have n1_ := Aside0.mk (Kd.V_elder' HO216.out (Kd.R_base ho74) hb)
           have n2_ := Aside0.mk (Kd.R_elder' HO219.out (Kd.R_base ho74) hb)
           have n3_ := Aside0.mk (Kd.R_elder' HO223.out (Kd.R_base ho74) hb)
           have n4_ := Aside0.mk (Kd.V_elder' HO229.out (Kd.R_base ho74) hb)
           have n5_ := Aside0.mk (Kd.V_elder' HO232.out (Kd.R_base ho74) hb)
           have n6_ := Aside0.mk (Kd.R_elder' HO235.out (Kd.R_base ho74) hb)
           have n7_ := Aside0.mk (Kd.R_below HO238.out hb)
           have n8_ := Aside0.mk (Kd.R_elder' HO242.out (Kd.R_base ho74) hb)
           have n9_ := Aside0.mk (Kd.V_elder' HO248.out (Kd.R_base ho74) hb)
           have n10_ := Aside0.mk (Kd.V_elder' HO251.out (Kd.R_base ho74) hb)
           have n11_ := Aside0.mk (Kd.R_elder' HO254.out (Kd.R_base ho74) hb)
           have n12_ := Aside0.mk (Kd.R_below HO257.out hb)
           have n13_ := Aside0.mk (Kd.R_elder' HO261.out (Kd.R_base ho74) hb)
           have n14_ := Aside0.mk (Kd.R_elder' HO266.out (Kd.R_base ho74) hb)
           have n15_ := Aside0.mk (Kd.R_elder' HO270.out (Kd.R_base ho74) hb)
           have n16_ := Aside0.mk (Kd.V_elder' HO275.out (Kd.R_base ho74) hb)
           have n17_ := Aside0.mk (Kd.V_elder' HO278.out (Kd.R_base ho74) hb)
           have n18_ := Aside0.mk (Kd.V_elder' HO283.out (Kd.R_base ho74) hb)
           have n19_ := Aside0.mk (Kd.V_elder' HO286.out (Kd.R_base ho74) hb)
           have n20_ := Aside0.mk (Kd.R_lower (Kd.R_new' (Kd.R_new' (Kd.R_new' (Kd.R_new' (Kd.R_new' (Kd.R_new' (Kd.R_new' (Kd.R_new' ho74 (Kd.R_lt HO219.out)) (Kd.R_lt HO223.out)) (Kd.R_lt HO235.out)) (Kd.R_lt HO242.out)) (Kd.R_lt HO254.out)) (Kd.R_lt HO261.out)) (Kd.R_lt HO266.out)) (Kd.R_lt HO270.out)) (below_size HB.out))
           have n21_ := Aside0.mk (blk_below (g := gb225) (o := .cells #[.int .i64 t220, .slice Ao30 t221.length co30] 68 (0, 0)) BK225.out hb)
           have n22_ := Aside0.mk (blk_below (g := gb244) (o := .cells #[.int .i64 t239, .slice Ao44 t240.length co44] 68 (0, 0)) BK244.out hb)
           have n23_ := Aside0.mk (blk_below (g := gb263) (o := .cells #[.int .i64 t258, .slice Ao59 t259.length co59] 68 (0, 0)) BK263.out hb)
           have n24_ := Aside0.mk (below_step HB.out hb)
           clear HO213
           clear HO216
           clear HO219
           clear HO223
           clear HO229
           clear HO232
           clear HO235
           clear HO238
           clear HO242
           clear HO248
           clear HO251
           clear HO254
           clear HO257
           clear HO261
           clear HO266
           clear HO270
           clear HO275
           clear HO278
           clear HO283
           clear HO286
           clear BK225
           clear BK244
           clear BK263
           clear HB
           have HO213 := n0_
           have HO216 := n1_
           have HO219 := n2_
           have HO223 := n3_
           have HO229 := n4_
           have HO232 := n5_
           have HO235 := n6_
           have HO238 := n7_
           have HO242 := n8_
           have HO248 := n9_
           have HO251 := n10_
           have HO254 := n11_
           have HO257 := n12_
           have HO261 := n13_
           have HO266 := n14_
           have HO270 := n15_
           have HO275 := n16_
           have HO278 := n17_
           have HO283 := n18_
           have HO286 := n19_
           have HO289 := n20_
           have BK225 := n21_
           have BK244 := n22_
           have BK263 := n23_
           have HB := n24_
           clear n0_ n1_ n2_ n3_ n4_ n5_ n6_ n7_ n8_ n9_ n10_ n11_ n12_ n13_ n14_ n15_ n16_ n17_ n18_ n19_ n20_ n21_ n22_ n23_ n24_
           clear hb ho74
           refine hK.out _ _ ⟨(blk_cell BK225.out 0).trans rfl, (blk_cell BK225.out 1).trans rfl, (blk_cell BK244.out 0).trans rfl, (blk_cell BK244.out 1).trans rfl⟩ (fun hHeld => ?_)
           clear hK K
           refine norm_ (a' := ?_) ?_ ?_
           rotate_left
           ·
            show Act.put _ (some 66) _ = _
            simp only [Act.put, List.setIfInBounds_toArray, List.set_cons_zero, List.set_cons_succ, i64_w, i32_w]
            rfl
           exact norm_ (by simp only [putAll, Act.put, List.setIfInBounds_toArray, List.set_cons_zero, List.set_cons_succ]) (hCont (v282, v285, v288) _ ⟨hHeld, (by exact Kd.V_mono HO213.out (fun _ hk => ⟨hk.1.1.1.1, ⟨hk.1.1.1.2.1, ⟨hk.1.1.1.2.2.1, ⟨hk.1.1.1.2.2.2.1, ⟨hk.1.1.1.2.2.2.2.1, ⟨hk.1.1.1.2.2.2.2.2.1, ⟨hk.1.1.1.2.2.2.2.2.2.1, ⟨hk.1.1.1.2.2.2.2.2.2.2.1, ⟨hk.1.1.2, ⟨hk.1.2, ⟨hk.2, ⟨hk.1.1.1.2.2.2.2.2.2.2.2.1, ⟨hk.1.1.1.2.2.2.2.2.2.2.2.2.1, hk.1.1.1.2.2.2.2.2.2.2.2.2.2⟩⟩⟩⟩⟩⟩⟩⟩⟩⟩⟩⟩⟩)), (by exact Kd.V_mono HO216.out (fun _ hk => ⟨hk.1.1.1.1, ⟨hk.1.1.1.2.1, ⟨hk.1.1.1.2.2.1, ⟨hk.1.1.1.2.2.2.1, ⟨hk.1.1.1.2.2.2.2.1, ⟨hk.1.1.1.2.2.2.2.2.1, ⟨hk.1.1.1.2.2.2.2.2.2.1, ⟨hk.1.1.1.2.2.2.2.2.2.2.1, ⟨hk.1.1.2, ⟨hk.1.2, ⟨hk.2, ⟨hk.1.1.1.2.2.2.2.2.2.2.2.1, ⟨hk.1.1.1.2.2.2.2.2.2.2.2.2.1, hk.1.1.1.2.2.2.2.2.2.2.2.2.2⟩⟩⟩⟩⟩⟩⟩⟩⟩⟩⟩⟩⟩)), (by exact Kd.R_mono HO219.out (fun _ hk => ⟨hk.1.1.1.1, ⟨hk.1.1.1.2.1, ⟨hk.1.1.1.2.2.1, ⟨hk.1.1.1.2.2.2.1, ⟨hk.1.1.1.2.2.2.2, ⟨hk.1.1.2, ⟨hk.1.2, hk.2⟩⟩⟩⟩⟩⟩⟩)), (by exact Kd.R_mono HO223.out (fun _ hk => ⟨hk.1.1.1.1, ⟨hk.1.1.1.2.1, ⟨hk.1.1.1.2.2.1, ⟨hk.1.1.1.2.2.2.1, ⟨hk.1.1.1.2.2.2.2, ⟨hk.1.1.2, ⟨hk.1.2, hk.2⟩⟩⟩⟩⟩⟩⟩)), (by exact Kd.V_mono HO229.out (fun _ hk => ⟨hk.1.1.1.1, ⟨hk.1.1.1.2.1, ⟨hk.1.1.1.2.2.1, ⟨hk.1.1.1.2.2.2.1, ⟨hk.1.1.1.2.2.2.2.1, ⟨hk.1.1.1.2.2.2.2.2.1, ⟨hk.1.1.1.2.2.2.2.2.2.1, ⟨hk.1.1.1.2.2.2.2.2.2.2.1, ⟨hk.1.1.2, ⟨hk.1.2, ⟨hk.2, ⟨hk.1.1.1.2.2.2.2.2.2.2.2.1, ⟨hk.1.1.1.2.2.2.2.2.2.2.2.2.1, hk.1.1.1.2.2.2.2.2.2.2.2.2.2⟩⟩⟩⟩⟩⟩⟩⟩⟩⟩⟩⟩⟩)), (by exact Kd.V_mono HO232.out (fun _ hk => ⟨hk.1.1.1.1, ⟨hk.1.1.1.2.1, ⟨hk.1.1.1.2.2.1, ⟨hk.1.1.1.2.2.2.1, ⟨hk.1.1.1.2.2.2.2.1, ⟨hk.1.1.1.2.2.2.2.2.1, ⟨hk.1.1.1.2.2.2.2.2.2.1, ⟨hk.1.1.1.2.2.2.2.2.2.2.1, ⟨hk.1.1.2, ⟨hk.1.2, ⟨hk.2, ⟨hk.1.1.1.2.2.2.2.2.2.2.2.1, ⟨hk.1.1.1.2.2.2.2.2.2.2.2.2.1, hk.1.1.1.2.2.2.2.2.2.2.2.2.2⟩⟩⟩⟩⟩⟩⟩⟩⟩⟩⟩⟩⟩)), (by exact Kd.R_mono HO235.out (fun _ hk => ⟨hk.1.1.1.1, ⟨hk.1.1.1.2.1, ⟨hk.1.1.1.2.2.1, ⟨hk.1.1.1.2.2.2.1, ⟨hk.1.1.1.2.2.2.2, ⟨hk.1.1.2, ⟨hk.1.2, hk.2⟩⟩⟩⟩⟩⟩⟩)), HO238.out, (by exact Kd.R_mono HO242.out (fun _ hk => ⟨hk.1.1.1.1, ⟨hk.1.1.1.2.1, ⟨hk.1.1.1.2.2.1, ⟨hk.1.1.1.2.2.2.1, ⟨hk.1.1.1.2.2.2.2, ⟨hk.1.1.2, ⟨hk.1.2, hk.2⟩⟩⟩⟩⟩⟩⟩)), (by exact Kd.V_mono HO248.out (fun _ hk => ⟨hk.1.1.1.1, ⟨hk.1.1.1.2.1, ⟨hk.1.1.1.2.2.1, ⟨hk.1.1.1.2.2.2.1, ⟨hk.1.1.1.2.2.2.2.1, ⟨hk.1.1.1.2.2.2.2.2.1, ⟨hk.1.1.1.2.2.2.2.2.2.1, ⟨hk.1.1.1.2.2.2.2.2.2.2.1, ⟨hk.1.1.2, ⟨hk.1.2, ⟨hk.2, ⟨hk.1.1.1.2.2.2.2.2.2.2.2.1, ⟨hk.1.1.1.2.2.2.2.2.2.2.2.2.1, hk.1.1.1.2.2.2.2.2.2.2.2.2.2⟩⟩⟩⟩⟩⟩⟩⟩⟩⟩⟩⟩⟩)), (by exact Kd.V_mono HO251.out (fun _ hk => ⟨hk.1.1.1.1, ⟨hk.1.1.1.2.1, ⟨hk.1.1.1.2.2.1, ⟨hk.1.1.1.2.2.2.1, ⟨hk.1.1.1.2.2.2.2.1, ⟨hk.1.1.1.2.2.2.2.2.1, ⟨hk.1.1.1.2.2.2.2.2.2.1, ⟨hk.1.1.1.2.2.2.2.2.2.2.1, ⟨hk.1.1.2, ⟨hk.1.2, ⟨hk.2, ⟨hk.1.1.1.2.2.2.2.2.2.2.2.1, ⟨hk.1.1.1.2.2.2.2.2.2.2.2.2.1, hk.1.1.1.2.2.2.2.2.2.2.2.2.2⟩⟩⟩⟩⟩⟩⟩⟩⟩⟩⟩⟩⟩)), (by exact Kd.R_mono HO254.out (fun _ hk => ⟨hk.1.1.1.1, ⟨hk.1.1.1.2.1, ⟨hk.1.1.1.2.2.1, ⟨hk.1.1.1.2.2.2.1, ⟨hk.1.1.1.2.2.2.2, ⟨hk.1.1.2, ⟨hk.1.2, hk.2⟩⟩⟩⟩⟩⟩⟩)), HO257.out, (by exact Kd.R_mono HO261.out (fun _ hk => ⟨hk.1.1.1.1, ⟨hk.1.1.1.2.1, ⟨hk.1.1.1.2.2.1, ⟨hk.1.1.1.2.2.2.1, ⟨hk.1.1.1.2.2.2.2, ⟨hk.1.1.2, ⟨hk.1.2, hk.2⟩⟩⟩⟩⟩⟩⟩)), (by exact Kd.R_mono HO266.out (fun _ hk => ⟨hk.1.1.1.1.1.1.1.2, ⟨hk.1.1.1.1.1.1.2, ⟨hk.1.1.1.1.1.2, ⟨hk.1.1.1.1.2, ⟨hk.1.1.1.2, ⟨hk.1.1.2, ⟨hk.1.2, hk.2⟩⟩⟩⟩⟩⟩⟩)), (by exact Kd.R_mono HO270.out (fun _ hk => ⟨hk.1.1.1.1.1.1.1.2, ⟨hk.1.1.1.1.1.1.2, ⟨hk.1.1.1.1.1.2, ⟨hk.1.1.1.1.2, ⟨hk.1.1.1.2, ⟨hk.1.1.2, ⟨hk.1.2, hk.2⟩⟩⟩⟩⟩⟩⟩)), (by exact Kd.V_mono HO275.out (fun _ hk => ⟨hk.1.1, ⟨hk.1.2.1, ⟨hk.1.2.2.1, ⟨hk.1.2.2.2.1, ⟨hk.1.2.2.2.2.1, ⟨hk.1.2.2.2.2.2.1, ⟨hk.1.2.2.2.2.2.2.1, ⟨hk.1.2.2.2.2.2.2.2.1, ⟨hk.1.2.2.2.2.2.2.2.2.1, ⟨hk.1.2.2.2.2.2.2.2.2.2.1, ⟨hk.2, ⟨hk.1.2.2.2.2.2.2.2.2.2.2.1, ⟨hk.1.2.2.2.2.2.2.2.2.2.2.2.1, hk.1.2.2.2.2.2.2.2.2.2.2.2.2⟩⟩⟩⟩⟩⟩⟩⟩⟩⟩⟩⟩⟩)), (by exact Kd.V_mono HO278.out (fun _ hk => ⟨hk.1.1, ⟨hk.1.2.1, ⟨hk.1.2.2.1, ⟨hk.1.2.2.2.1, ⟨hk.1.2.2.2.2.1, ⟨hk.1.2.2.2.2.2.1, ⟨hk.1.2.2.2.2.2.2.1, ⟨hk.1.2.2.2.2.2.2.2.1, ⟨hk.1.2.2.2.2.2.2.2.2.1, ⟨hk.1.2.2.2.2.2.2.2.2.2.1, ⟨hk.2, ⟨hk.1.2.2.2.2.2.2.2.2.2.2.1, ⟨hk.1.2.2.2.2.2.2.2.2.2.2.2.1, hk.1.2.2.2.2.2.2.2.2.2.2.2.2⟩⟩⟩⟩⟩⟩⟩⟩⟩⟩⟩⟩⟩)), (by exact Kd.V_mono HO283.out (fun _ hk => ⟨hk.1.1, ⟨hk.1.2.1, ⟨hk.1.2.2.1, ⟨hk.1.2.2.2.1, ⟨hk.1.2.2.2.2.1, ⟨hk.1.2.2.2.2.2.1, ⟨hk.1.2.2.2.2.2.2.1, ⟨hk.1.2.2.2.2.2.2.2.1, ⟨hk.1.2.2.2.2.2.2.2.2.1, ⟨hk.1.2.2.2.2.2.2.2.2.2.1, ⟨hk.2, ⟨hk.1.2.2.2.2.2.2.2.2.2.2.1, ⟨hk.1.2.2.2.2.2.2.2.2.2.2.2.1, hk.1.2.2.2.2.2.2.2.2.2.2.2.2⟩⟩⟩⟩⟩⟩⟩⟩⟩⟩⟩⟩⟩)), (by exact Kd.V_mono HO286.out (fun _ hk => ⟨hk.1.1, ⟨hk.1.2.1, ⟨hk.1.2.2.1, ⟨hk.1.2.2.2.1, ⟨hk.1.2.2.2.2.1, ⟨hk.1.2.2.2.2.2.1, ⟨hk.1.2.2.2.2.2.2.1, ⟨hk.1.2.2.2.2.2.2.2.1, ⟨hk.1.2.2.2.2.2.2.2.2.1, ⟨hk.1.2.2.2.2.2.2.2.2.2.1, ⟨hk.2, ⟨hk.1.2.2.2.2.2.2.2.2.2.2.1, ⟨hk.1.2.2.2.2.2.2.2.2.2.2.2.1, hk.1.2.2.2.2.2.2.2.2.2.2.2.2⟩⟩⟩⟩⟩⟩⟩⟩⟩⟩⟩⟩⟩)), (by exact Kd.R_mono HO289.out (fun _ hk => ⟨hk.1.1.1.1.1.1.1.2, ⟨hk.1.1.1.1.1.1.2, ⟨hk.1.1.1.1.1.2, ⟨hk.1.1.1.1.2, ⟨hk.1.1.1.2, ⟨hk.1.1.2, ⟨hk.1.2, hk.2⟩⟩⟩⟩⟩⟩⟩)), BK225.out, BK244.out, BK263.out, HB.out⟩)
          ·
           refine Kd.R_lit_step (Kd.int .i64) _ 3 ?hg (N := 66) ?hd (xs := ([1] : List Int)) (inner := [.int .i64 1]) (ok := fun _ => True) (okp := fun _ => True) ?hr ?hp (fun _ hk => hk) trivial (Below.refl _ _) (Nat.le_refl _) (by simp) ?_; (case hd => rfl); (case hg => rfl); (case hr => (go_simp; done)); (case hp => exact (Reps.one (show Kd.M (Kd.int .i64) _ _ _ 1 [.int .i64 1] from rfl) (Reps.none _ _)))
           intro v288 w72 ho73 hb hg_ hnew_
           clear hg_ hnew_
           (rw [← Ny287.out] at ho73)
           have n0_ := Aside0.mk (Kd.V_elder' HO213.out (Kd.R_base ho73) hb)
           have n1_ := Aside0.mk (Kd.V_elder' HO216.out (Kd.R_base ho73) hb)
           have n2_ := Aside0.mk (Kd.R_elder' HO219.out (Kd.R_base ho73) hb)
           have n3_ := Aside0.mk (Kd.R_elder' HO223.out (Kd.R_base ho73) hb)
           have n4_ := Aside0.mk (Kd.V_elder' HO229.out (Kd.R_base ho73) hb)
           have n5_ := Aside0.mk (Kd.V_elder' HO232.out (Kd.R_base ho73) hb)
           have n6_ := Aside0.mk (Kd.R_elder' HO235.out (Kd.R_base ho73) hb)
           have n7_ := Aside0.mk (Kd.R_below HO238.out hb)
           have n8_ := Aside0.mk (Kd.R_elder' HO242.out (Kd.R_base ho73) hb)
           have n9_ := Aside0.mk (Kd.V_elder' HO248.out (Kd.R_base ho73) hb)
           have n10_ := Aside0.mk (Kd.V_elder' HO251.out (Kd.R_base ho73) hb)
           have n11_ := Aside0.mk (Kd.R_elder' HO254.out (Kd.R_base ho73) hb)
           have n12_ := Aside0.mk (Kd.R_below HO257.out hb)
           have n13_ := Aside0.mk (Kd.R_elder' HO261.out (Kd.R_base ho73) hb)
           have n14_ := Aside0.mk (Kd.R_elder' HO266.out (Kd.R_base ho73) hb)
           have n15_ := Aside0.mk (Kd.R_elder' HO270.out (Kd.R_base ho73) hb)
           have n16_ := Aside0.mk (Kd.V_elder' HO275.out (Kd.R_base ho73) hb)
           have n17_ := Aside0.mk (Kd.V_elder' HO278.out (Kd.R_base ho73) hb)
           have n18_ := Aside0.mk (Kd.R_lower (Kd.R_new' (Kd.R_new' (Kd.R_new' (Kd.R_new' (Kd.R_new' (Kd.R_new' (Kd.R_new' (Kd.R_new' ho73 (Kd.R_lt HO219.out)) (Kd.R_lt HO223.out)) (Kd.R_lt HO235.out)) (Kd.R_lt HO242.out)) (Kd.R_lt HO254.out)) (Kd.R_lt HO261.out)) (Kd.R_lt HO266.out)) (Kd.R_lt HO270.out)) (below_size HB.out))
           have n19_ := Aside0.mk (blk_below (g := gb225) (o := .cells #[.int .i64 t220, .slice Ao30 t221.length co30] 68 (0, 0)) BK225.out hb)
           have n20_ := Aside0.mk (blk_below (g := gb244) (o := .cells #[.int .i64 t239, .slice Ao44 t240.length co44] 68 (0, 0)) BK244.out hb)
           have n21_ := Aside0.mk (blk_below (g := gb263) (o := .cells #[.int .i64 t258, .slice Ao59 t259.length co59] 68 (0, 0)) BK263.out hb)
           have n22_ := Aside0.mk (below_step HB.out hb)
           clear HO213
           clear HO216
           clear HO219
           clear HO223
           clear HO229
           clear HO232
           clear HO235
           clear HO238
           clear HO242
           clear HO248
           clear HO251
           clear HO254
           clear HO257
           clear HO261
           clear HO266
           clear HO270
           clear HO275
           clear HO278
           clear BK225
           clear BK244
           clear BK263
           clear HB
           have HO213 := n0_
           have HO216 := n1_
           have HO219 := n2_
           have HO223 := n3_
           have HO229 := n4_
           have HO232 := n5_
           have HO235 := n6_
           have HO238 := n7_
           have HO242 := n8_
           have HO248 := n9_
           have HO251 := n10_
           have HO254 := n11_
           have HO257 := n12_
           have HO261 := n13_
           have HO266 := n14_
           have HO270 := n15_
           have HO275 := n16_
           have HO278 := n17_
           have HO289 := n18_
           have BK225 := n19_
           have BK244 := n20_
           have BK263 := n21_
           have HB := n22_
           clear n0_ n1_ n2_ n3_ n4_ n5_ n6_ n7_ n8_ n9_ n10_ n11_ n12_ n13_ n14_ n15_ n16_ n17_ n18_ n19_ n20_ n21_ n22_
           clear hb ho73
           refine hK.out _ _ ⟨(blk_cell BK225.out 0).trans rfl, (blk_cell BK225.out 1).trans rfl, (blk_cell BK244.out 0).trans rfl, (blk_cell BK244.out 1).trans rfl⟩ (fun hHeld => ?_)
           clear hK K
           refine norm_ (a' := ?_) ?_ ?_
           rotate_left
           ·
            show Act.put _ (some 66) _ = _
            simp only [Act.put, List.setIfInBounds_toArray, List.set_cons_zero, List.set_cons_succ, i64_w, i32_w]
            rfl
           refine one_ (i := 38) (N := some 65) #[Y,Y,Y,Y,Y,Y,Y,Y,Y,Y,Y,Y,Y,Y,Y,Y,Y,Y,Y,Y,Y,Y,Y,Y,Y,Y,Y,Y,Y,Y,Y,Y,Y,Y,Y,Y,Y,Y,Y,Y,Y,Z,Z,Z,Z] rfl rfl (one_of HT_.out (by kernel_rfl)) (by decide) (fun K hK => ?_)
           refine goes_ Try.func75 (by kernel_rfl) rfl #[] (by rfl) rfl rfl (by (try simp only [List.map_toArray, List.map_cons, List.map_nil]); done) ?_
           with_reducible refine (peristylelaw32_table.calls k  t280 t281 t284 _ A19.out).mono ?_
           rintro e w74 ⟨v282, v285, rfl, ho0, ho1, hb⟩
           refine ⟨_, rfl, ?_⟩
           have n0_ := Aside0.mk (Kd.V_below HO213.out hb)
           have n1_ := Aside0.mk (Kd.V_below HO216.out hb)
           have n2_ := Aside0.mk (Kd.R_below HO219.out hb)
           have n3_ := Aside0.mk (Kd.R_below HO223.out hb)
           have n4_ := Aside0.mk (Kd.V_below HO229.out hb)
           have n5_ := Aside0.mk (Kd.V_below HO232.out hb)
           have n6_ := Aside0.mk (Kd.R_below HO235.out hb)
           have n7_ := Aside0.mk (Kd.R_below HO238.out hb)
           have n8_ := Aside0.mk (Kd.R_below HO242.out hb)
           have n9_ := Aside0.mk (Kd.V_below HO248.out hb)
           have n10_ := Aside0.mk (Kd.V_below HO251.out hb)
           have n11_ := Aside0.mk (Kd.R_below HO254.out hb)
           have n12_ := Aside0.mk (Kd.R_below HO257.out hb)
           have n13_ := Aside0.mk (Kd.R_below HO261.out hb)
           have n14_ := Aside0.mk (Kd.R_below HO266.out hb)
           have n15_ := Aside0.mk (Kd.R_below HO270.out hb)
           have n16_ := Aside0.mk (Kd.V_below HO275.out hb)
           have n17_ := Aside0.mk (Kd.V_below HO278.out hb)
           have n18_ := Aside0.mk (Kd.R_below HO289.out hb)
           have n19_ := Aside0.mk (Kd.V_lower (Kd.V_mono (ok' := fun k_ => some k_ ≠ ob_ Ao26 y217.length co26 ∧ some k_ ≠ ob_ Ao30 t221.length co30 ∧ some k_ ≠ ob_ Ao38 y233.length co38 ∧ some k_ ≠ ob_ Ao39 y236.length co39 ∧ some k_ ≠ ob_ Ao44 t240.length co44 ∧ some k_ ≠ ob_ Ao52 y252.length co52 ∧ some k_ ≠ ob_ Ao53 y255.length co53 ∧ some k_ ≠ ob_ Ao59 t259.length co59 ∧ some k_ ≠ ob_ Ao64 y264.length co64 ∧ some k_ ≠ ob_ Ao67 y268.length co67 ∧ some k_ ≠ (v288 : Value).ownBlock ∧ k_ ≠ gb225 ∧ k_ ≠ gb244 ∧ k_ ≠ gb263) ho0 (fun k_ hk_ => ⟨(Kd.fresh' (Kd.R_lt HO219.out) k_ hk_), (Kd.fresh' (Kd.R_lt HO223.out) k_ hk_), (Kd.fresh' (Kd.R_lt HO235.out) k_ hk_), (Kd.fresh' (Kd.R_lt HO238.out) k_ hk_), (Kd.fresh' (Kd.R_lt HO242.out) k_ hk_), (Kd.fresh' (Kd.R_lt HO254.out) k_ hk_), (Kd.fresh' (Kd.R_lt HO257.out) k_ hk_), (Kd.fresh' (Kd.R_lt HO261.out) k_ hk_), (Kd.fresh' (Kd.R_lt HO266.out) k_ hk_), (Kd.fresh' (Kd.R_lt HO270.out) k_ hk_), (Kd.fresh' (Kd.R_lt HO289.out) k_ hk_), (Kd.freshB (g := gb225) (o := .cells #[.int .i64 t220, .slice Ao30 t221.length co30] 68 (0, 0)) BK225.out k_ hk_), (Kd.freshB (g := gb244) (o := .cells #[.int .i64 t239, .slice Ao44 t240.length co44] 68 (0, 0)) BK244.out k_ hk_), (Kd.freshB (g := gb263) (o := .cells #[.int .i64 t258, .slice Ao59 t259.length co59] 68 (0, 0)) BK263.out k_ hk_)⟩)) (below_size HB.out))
           have n20_ := Aside0.mk (Kd.V_lower (Kd.V_mono (ok' := fun k_ => some k_ ≠ ob_ Ao26 y217.length co26 ∧ some k_ ≠ ob_ Ao30 t221.length co30 ∧ some k_ ≠ ob_ Ao38 y233.length co38 ∧ some k_ ≠ ob_ Ao39 y236.length co39 ∧ some k_ ≠ ob_ Ao44 t240.length co44 ∧ some k_ ≠ ob_ Ao52 y252.length co52 ∧ some k_ ≠ ob_ Ao53 y255.length co53 ∧ some k_ ≠ ob_ Ao59 t259.length co59 ∧ some k_ ≠ ob_ Ao64 y264.length co64 ∧ some k_ ≠ ob_ Ao67 y268.length co67 ∧ some k_ ≠ (v288 : Value).ownBlock ∧ k_ ≠ gb225 ∧ k_ ≠ gb244 ∧ k_ ≠ gb263) ho1 (fun k_ hk_ => ⟨(Kd.fresh' (Kd.R_lt HO219.out) k_ hk_), (Kd.fresh' (Kd.R_lt HO223.out) k_ hk_), (Kd.fresh' (Kd.R_lt HO235.out) k_ hk_), (Kd.fresh' (Kd.R_lt HO238.out) k_ hk_), (Kd.fresh' (Kd.R_lt HO242.out) k_ hk_), (Kd.fresh' (Kd.R_lt HO254.out) k_ hk_), (Kd.fresh' (Kd.R_lt HO257.out) k_ hk_), (Kd.fresh' (Kd.R_lt HO261.out) k_ hk_), (Kd.fresh' (Kd.R_lt HO266.out) k_ hk_), (Kd.fresh' (Kd.R_lt HO270.out) k_ hk_), (Kd.fresh' (Kd.R_lt HO289.out) k_ hk_), (Kd.freshB (g := gb225) (o := .cells #[.int .i64 t220, .slice Ao30 t221.length co30] 68 (0, 0)) BK225.out k_ hk_), (Kd.freshB (g := gb244) (o := .cells #[.int .i64 t239, .slice Ao44 t240.length co44] 68 (0, 0)) BK244.out k_ hk_), (Kd.freshB (g := gb263) (o := .cells #[.int .i64 t258, .slice Ao59 t259.length co59] 68 (0, 0)) BK263.out k_ hk_)⟩)) (below_size HB.out))
           have n21_ := Aside0.mk (blk_below (g := gb225) (o := .cells #[.int .i64 t220, .slice Ao30 t221.length co30] 68 (0, 0)) BK225.out hb)
           have n22_ := Aside0.mk (blk_below (g := gb244) (o := .cells #[.int .i64 t239, .slice Ao44 t240.length co44] 68 (0, 0)) BK244.out hb)
           have n23_ := Aside0.mk (blk_below (g := gb263) (o := .cells #[.int .i64 t258, .slice Ao59 t259.length co59] 68 (0, 0)) BK263.out hb)
           have n24_ := Aside0.mk (below_step HB.out hb)
           clear HO213
           clear HO216
           clear HO219
           clear HO223
           clear HO229
           clear HO232
           clear HO235
           clear HO238
           clear HO242
           clear HO248
           clear HO251
           clear HO254
           clear HO257
           clear HO261
           clear HO266
           clear HO270
           clear HO275
           clear HO278
           clear HO289
           clear BK225
           clear BK244
           clear BK263
           clear HB
           have HO213 := n0_
           have HO216 := n1_
           have HO219 := n2_
           have HO223 := n3_
           have HO229 := n4_
           have HO232 := n5_
           have HO235 := n6_
           have HO238 := n7_
           have HO242 := n8_
           have HO248 := n9_
           have HO251 := n10_
           have HO254 := n11_
           have HO257 := n12_
           have HO261 := n13_
           have HO266 := n14_
           have HO270 := n15_
           have HO275 := n16_
           have HO278 := n17_
           have HO289 := n18_
           have HO283 := n19_
           have HO286 := n20_
           have BK225 := n21_
           have BK244 := n22_
           have BK263 := n23_
           have HB := n24_
           clear n0_ n1_ n2_ n3_ n4_ n5_ n6_ n7_ n8_ n9_ n10_ n11_ n12_ n13_ n14_ n15_ n16_ n17_ n18_ n19_ n20_ n21_ n22_ n23_ n24_
           (try clear hb)
           (try clear ho0)
           (try clear ho1)
           refine hK.out _ _ ⟨(blk_cell BK225.out 0).trans rfl, (blk_cell BK225.out 1).trans rfl, (blk_cell BK244.out 0).trans rfl, (blk_cell BK244.out 1).trans rfl⟩ (fun hHeld => ?_)
           clear hK K
           refine norm_ (a' := ?_) ?_ ?_
           rotate_left
           ·
            show Act.put _ (some 65) _ = _
            simp only [Act.put, List.setIfInBounds_toArray, List.set_cons_zero, List.set_cons_succ, i64_w, i32_w]
            rfl
           exact norm_ (by simp only [putAll, Act.put, List.setIfInBounds_toArray, List.set_cons_zero, List.set_cons_succ]) (hCont (v282, v285, v288) _ ⟨hHeld, (by exact Kd.V_mono HO213.out (fun _ hk => ⟨hk.1.1.1.1, ⟨hk.1.1.1.2.1, ⟨hk.1.1.1.2.2.1, ⟨hk.1.1.1.2.2.2.1, ⟨hk.1.1.1.2.2.2.2.1, ⟨hk.1.1.1.2.2.2.2.2.1, ⟨hk.1.1.1.2.2.2.2.2.2.1, ⟨hk.1.1.1.2.2.2.2.2.2.2.1, ⟨hk.1.1.2, ⟨hk.1.2, ⟨hk.2, ⟨hk.1.1.1.2.2.2.2.2.2.2.2.1, ⟨hk.1.1.1.2.2.2.2.2.2.2.2.2.1, hk.1.1.1.2.2.2.2.2.2.2.2.2.2⟩⟩⟩⟩⟩⟩⟩⟩⟩⟩⟩⟩⟩)), (by exact Kd.V_mono HO216.out (fun _ hk => ⟨hk.1.1.1.1, ⟨hk.1.1.1.2.1, ⟨hk.1.1.1.2.2.1, ⟨hk.1.1.1.2.2.2.1, ⟨hk.1.1.1.2.2.2.2.1, ⟨hk.1.1.1.2.2.2.2.2.1, ⟨hk.1.1.1.2.2.2.2.2.2.1, ⟨hk.1.1.1.2.2.2.2.2.2.2.1, ⟨hk.1.1.2, ⟨hk.1.2, ⟨hk.2, ⟨hk.1.1.1.2.2.2.2.2.2.2.2.1, ⟨hk.1.1.1.2.2.2.2.2.2.2.2.2.1, hk.1.1.1.2.2.2.2.2.2.2.2.2.2⟩⟩⟩⟩⟩⟩⟩⟩⟩⟩⟩⟩⟩)), (by exact Kd.R_mono HO219.out (fun _ hk => ⟨hk.1.1.1.1, ⟨hk.1.1.1.2.1, ⟨hk.1.1.1.2.2.1, ⟨hk.1.1.1.2.2.2.1, ⟨hk.1.1.1.2.2.2.2, ⟨hk.1.1.2, ⟨hk.1.2, hk.2⟩⟩⟩⟩⟩⟩⟩)), (by exact Kd.R_mono HO223.out (fun _ hk => ⟨hk.1.1.1.1, ⟨hk.1.1.1.2.1, ⟨hk.1.1.1.2.2.1, ⟨hk.1.1.1.2.2.2.1, ⟨hk.1.1.1.2.2.2.2, ⟨hk.1.1.2, ⟨hk.1.2, hk.2⟩⟩⟩⟩⟩⟩⟩)), (by exact Kd.V_mono HO229.out (fun _ hk => ⟨hk.1.1.1.1, ⟨hk.1.1.1.2.1, ⟨hk.1.1.1.2.2.1, ⟨hk.1.1.1.2.2.2.1, ⟨hk.1.1.1.2.2.2.2.1, ⟨hk.1.1.1.2.2.2.2.2.1, ⟨hk.1.1.1.2.2.2.2.2.2.1, ⟨hk.1.1.1.2.2.2.2.2.2.2.1, ⟨hk.1.1.2, ⟨hk.1.2, ⟨hk.2, ⟨hk.1.1.1.2.2.2.2.2.2.2.2.1, ⟨hk.1.1.1.2.2.2.2.2.2.2.2.2.1, hk.1.1.1.2.2.2.2.2.2.2.2.2.2⟩⟩⟩⟩⟩⟩⟩⟩⟩⟩⟩⟩⟩)), (by exact Kd.V_mono HO232.out (fun _ hk => ⟨hk.1.1.1.1, ⟨hk.1.1.1.2.1, ⟨hk.1.1.1.2.2.1, ⟨hk.1.1.1.2.2.2.1, ⟨hk.1.1.1.2.2.2.2.1, ⟨hk.1.1.1.2.2.2.2.2.1, ⟨hk.1.1.1.2.2.2.2.2.2.1, ⟨hk.1.1.1.2.2.2.2.2.2.2.1, ⟨hk.1.1.2, ⟨hk.1.2, ⟨hk.2, ⟨hk.1.1.1.2.2.2.2.2.2.2.2.1, ⟨hk.1.1.1.2.2.2.2.2.2.2.2.2.1, hk.1.1.1.2.2.2.2.2.2.2.2.2.2⟩⟩⟩⟩⟩⟩⟩⟩⟩⟩⟩⟩⟩)), (by exact Kd.R_mono HO235.out (fun _ hk => ⟨hk.1.1.1.1, ⟨hk.1.1.1.2.1, ⟨hk.1.1.1.2.2.1, ⟨hk.1.1.1.2.2.2.1, ⟨hk.1.1.1.2.2.2.2, ⟨hk.1.1.2, ⟨hk.1.2, hk.2⟩⟩⟩⟩⟩⟩⟩)), HO238.out, (by exact Kd.R_mono HO242.out (fun _ hk => ⟨hk.1.1.1.1, ⟨hk.1.1.1.2.1, ⟨hk.1.1.1.2.2.1, ⟨hk.1.1.1.2.2.2.1, ⟨hk.1.1.1.2.2.2.2, ⟨hk.1.1.2, ⟨hk.1.2, hk.2⟩⟩⟩⟩⟩⟩⟩)), (by exact Kd.V_mono HO248.out (fun _ hk => ⟨hk.1.1.1.1, ⟨hk.1.1.1.2.1, ⟨hk.1.1.1.2.2.1, ⟨hk.1.1.1.2.2.2.1, ⟨hk.1.1.1.2.2.2.2.1, ⟨hk.1.1.1.2.2.2.2.2.1, ⟨hk.1.1.1.2.2.2.2.2.2.1, ⟨hk.1.1.1.2.2.2.2.2.2.2.1, ⟨hk.1.1.2, ⟨hk.1.2, ⟨hk.2, ⟨hk.1.1.1.2.2.2.2.2.2.2.2.1, ⟨hk.1.1.1.2.2.2.2.2.2.2.2.2.1, hk.1.1.1.2.2.2.2.2.2.2.2.2.2⟩⟩⟩⟩⟩⟩⟩⟩⟩⟩⟩⟩⟩)), (by exact Kd.V_mono HO251.out (fun _ hk => ⟨hk.1.1.1.1, ⟨hk.1.1.1.2.1, ⟨hk.1.1.1.2.2.1, ⟨hk.1.1.1.2.2.2.1, ⟨hk.1.1.1.2.2.2.2.1, ⟨hk.1.1.1.2.2.2.2.2.1, ⟨hk.1.1.1.2.2.2.2.2.2.1, ⟨hk.1.1.1.2.2.2.2.2.2.2.1, ⟨hk.1.1.2, ⟨hk.1.2, ⟨hk.2, ⟨hk.1.1.1.2.2.2.2.2.2.2.2.1, ⟨hk.1.1.1.2.2.2.2.2.2.2.2.2.1, hk.1.1.1.2.2.2.2.2.2.2.2.2.2⟩⟩⟩⟩⟩⟩⟩⟩⟩⟩⟩⟩⟩)), (by exact Kd.R_mono HO254.out (fun _ hk => ⟨hk.1.1.1.1, ⟨hk.1.1.1.2.1, ⟨hk.1.1.1.2.2.1, ⟨hk.1.1.1.2.2.2.1, ⟨hk.1.1.1.2.2.2.2, ⟨hk.1.1.2, ⟨hk.1.2, hk.2⟩⟩⟩⟩⟩⟩⟩)), HO257.out, (by exact Kd.R_mono HO261.out (fun _ hk => ⟨hk.1.1.1.1, ⟨hk.1.1.1.2.1, ⟨hk.1.1.1.2.2.1, ⟨hk.1.1.1.2.2.2.1, ⟨hk.1.1.1.2.2.2.2, ⟨hk.1.1.2, ⟨hk.1.2, hk.2⟩⟩⟩⟩⟩⟩⟩)), (by exact Kd.R_mono HO266.out (fun _ hk => ⟨hk.1.1.1.1.1.1.1.2, ⟨hk.1.1.1.1.1.1.2, ⟨hk.1.1.1.1.1.2, ⟨hk.1.1.1.1.2, ⟨hk.1.1.1.2, ⟨hk.1.1.2, ⟨hk.1.2, hk.2⟩⟩⟩⟩⟩⟩⟩)), (by exact Kd.R_mono HO270.out (fun _ hk => ⟨hk.1.1.1.1.1.1.1.2, ⟨hk.1.1.1.1.1.1.2, ⟨hk.1.1.1.1.1.2, ⟨hk.1.1.1.1.2, ⟨hk.1.1.1.2, ⟨hk.1.1.2, ⟨hk.1.2, hk.2⟩⟩⟩⟩⟩⟩⟩)), (by exact Kd.V_mono HO275.out (fun _ hk => ⟨hk.1.1, ⟨hk.1.2.1, ⟨hk.1.2.2.1, ⟨hk.1.2.2.2.1, ⟨hk.1.2.2.2.2.1, ⟨hk.1.2.2.2.2.2.1, ⟨hk.1.2.2.2.2.2.2.1, ⟨hk.1.2.2.2.2.2.2.2.1, ⟨hk.1.2.2.2.2.2.2.2.2.1, ⟨hk.1.2.2.2.2.2.2.2.2.2.1, ⟨hk.2, ⟨hk.1.2.2.2.2.2.2.2.2.2.2.1, ⟨hk.1.2.2.2.2.2.2.2.2.2.2.2.1, hk.1.2.2.2.2.2.2.2.2.2.2.2.2⟩⟩⟩⟩⟩⟩⟩⟩⟩⟩⟩⟩⟩)), (by exact Kd.V_mono HO278.out (fun _ hk => ⟨hk.1.1, ⟨hk.1.2.1, ⟨hk.1.2.2.1, ⟨hk.1.2.2.2.1, ⟨hk.1.2.2.2.2.1, ⟨hk.1.2.2.2.2.2.1, ⟨hk.1.2.2.2.2.2.2.1, ⟨hk.1.2.2.2.2.2.2.2.1, ⟨hk.1.2.2.2.2.2.2.2.2.1, ⟨hk.1.2.2.2.2.2.2.2.2.2.1, ⟨hk.2, ⟨hk.1.2.2.2.2.2.2.2.2.2.2.1, ⟨hk.1.2.2.2.2.2.2.2.2.2.2.2.1, hk.1.2.2.2.2.2.2.2.2.2.2.2.2⟩⟩⟩⟩⟩⟩⟩⟩⟩⟩⟩⟩⟩)), HO283.out, HO286.out, (by exact Kd.R_mono HO289.out (fun _ hk => ⟨hk.1.1.1.1.1.1.1.2, ⟨hk.1.1.1.1.1.1.2, ⟨hk.1.1.1.1.1.2, ⟨hk.1.1.1.1.2, ⟨hk.1.1.1.2, ⟨hk.1.1.2, ⟨hk.1.2, hk.2⟩⟩⟩⟩⟩⟩⟩)), BK225.out, BK244.out, BK263.out, HB.out⟩)
         rintro ⟨v282, v285, v288⟩ w75 ⟨hS_, h0_, h1_, h2_, h3_, h4_, h5_, h6_, h7_, h8_, h9_, h10_, h11_, h12_, h13_, h14_, h15_, h16_, h17_, h18_, h19_, h20_, h21_, h22_, h23_, h24_⟩
         have n0_ : Aside0 (Kd.V k177 177 w75 w.heap.size (fun k_ => some k_ ≠ ob_ Ao26 y217.length co26 ∧ some k_ ≠ ob_ Ao30 t221.length co30 ∧ some k_ ≠ ob_ Ao38 y233.length co38 ∧ some k_ ≠ ob_ Ao39 y236.length co39 ∧ some k_ ≠ ob_ Ao44 t240.length co44 ∧ some k_ ≠ ob_ Ao52 y252.length co52 ∧ some k_ ≠ ob_ Ao53 y255.length co53 ∧ some k_ ≠ ob_ Ao59 t259.length co59 ∧ some k_ ≠ ob_ Ao64 y264.length co64 ∧ some k_ ≠ ob_ Ao67 y268.length co67 ∧ some k_ ≠ (v288 : Value).ownBlock ∧ k_ ≠ gb225 ∧ k_ ≠ gb244 ∧ k_ ≠ gb263) (.slice Ao24 t211.length co24) t211) := ⟨h0_⟩
         have n1_ : Aside0 (Kd.V k138 138 w75 w.heap.size (fun k_ => some k_ ≠ ob_ Ao26 y217.length co26 ∧ some k_ ≠ ob_ Ao30 t221.length co30 ∧ some k_ ≠ ob_ Ao38 y233.length co38 ∧ some k_ ≠ ob_ Ao39 y236.length co39 ∧ some k_ ≠ ob_ Ao44 t240.length co44 ∧ some k_ ≠ ob_ Ao52 y252.length co52 ∧ some k_ ≠ ob_ Ao53 y255.length co53 ∧ some k_ ≠ ob_ Ao59 t259.length co59 ∧ some k_ ≠ ob_ Ao64 y264.length co64 ∧ some k_ ≠ ob_ Ao67 y268.length co67 ∧ some k_ ≠ (v288 : Value).ownBlock ∧ k_ ≠ gb225 ∧ k_ ≠ gb244 ∧ k_ ≠ gb263) (.slice Ao25 t214.length co25) t214) := ⟨h1_⟩
         have n2_ : Aside0 (Kd.R (Kd.int .i64) 3 w75 w.heap.size (fun k_ => some k_ ≠ ob_ Ao30 t221.length co30 ∧ some k_ ≠ ob_ Ao38 y233.length co38 ∧ some k_ ≠ ob_ Ao44 t240.length co44 ∧ some k_ ≠ ob_ Ao52 y252.length co52 ∧ some k_ ≠ ob_ Ao59 t259.length co59 ∧ some k_ ≠ ob_ Ao64 y264.length co64 ∧ some k_ ≠ ob_ Ao67 y268.length co67 ∧ some k_ ≠ (v288 : Value).ownBlock) (.slice Ao26 y217.length co26) y217) := ⟨h2_⟩
         have n3_ : Aside0 (Kd.R (Kd.int .i64) 3 w75 w.heap.size (fun k_ => some k_ ≠ ob_ Ao26 y217.length co26 ∧ some k_ ≠ ob_ Ao38 y233.length co38 ∧ some k_ ≠ ob_ Ao44 t240.length co44 ∧ some k_ ≠ ob_ Ao52 y252.length co52 ∧ some k_ ≠ ob_ Ao59 t259.length co59 ∧ some k_ ≠ ob_ Ao64 y264.length co64 ∧ some k_ ≠ ob_ Ao67 y268.length co67 ∧ some k_ ≠ (v288 : Value).ownBlock) (.slice Ao30 t221.length co30) t221) := ⟨h3_⟩
         have n4_ : Aside0 (Kd.V k177 177 w75 w.heap.size (fun k_ => some k_ ≠ ob_ Ao26 y217.length co26 ∧ some k_ ≠ ob_ Ao30 t221.length co30 ∧ some k_ ≠ ob_ Ao38 y233.length co38 ∧ some k_ ≠ ob_ Ao39 y236.length co39 ∧ some k_ ≠ ob_ Ao44 t240.length co44 ∧ some k_ ≠ ob_ Ao52 y252.length co52 ∧ some k_ ≠ ob_ Ao53 y255.length co53 ∧ some k_ ≠ ob_ Ao59 t259.length co59 ∧ some k_ ≠ ob_ Ao64 y264.length co64 ∧ some k_ ≠ ob_ Ao67 y268.length co67 ∧ some k_ ≠ (v288 : Value).ownBlock ∧ k_ ≠ gb225 ∧ k_ ≠ gb244 ∧ k_ ≠ gb263) (.slice Ao36 t227.length co36) t227) := ⟨h4_⟩
         have n5_ : Aside0 (Kd.V k138 138 w75 w.heap.size (fun k_ => some k_ ≠ ob_ Ao26 y217.length co26 ∧ some k_ ≠ ob_ Ao30 t221.length co30 ∧ some k_ ≠ ob_ Ao38 y233.length co38 ∧ some k_ ≠ ob_ Ao39 y236.length co39 ∧ some k_ ≠ ob_ Ao44 t240.length co44 ∧ some k_ ≠ ob_ Ao52 y252.length co52 ∧ some k_ ≠ ob_ Ao53 y255.length co53 ∧ some k_ ≠ ob_ Ao59 t259.length co59 ∧ some k_ ≠ ob_ Ao64 y264.length co64 ∧ some k_ ≠ ob_ Ao67 y268.length co67 ∧ some k_ ≠ (v288 : Value).ownBlock ∧ k_ ≠ gb225 ∧ k_ ≠ gb244 ∧ k_ ≠ gb263) (.slice Ao37 t230.length co37) t230) := ⟨h5_⟩
         have n6_ : Aside0 (Kd.R (Kd.int .i64) 3 w75 w.heap.size (fun k_ => some k_ ≠ ob_ Ao26 y217.length co26 ∧ some k_ ≠ ob_ Ao30 t221.length co30 ∧ some k_ ≠ ob_ Ao44 t240.length co44 ∧ some k_ ≠ ob_ Ao52 y252.length co52 ∧ some k_ ≠ ob_ Ao59 t259.length co59 ∧ some k_ ≠ ob_ Ao64 y264.length co64 ∧ some k_ ≠ ob_ Ao67 y268.length co67 ∧ some k_ ≠ (v288 : Value).ownBlock) (.slice Ao38 y233.length co38) y233) := ⟨h6_⟩
         have n7_ : Aside0 (Kd.R Kd.string 9 w75 w.heap.size (fun k_ => some k_ ≠ ob_ Ao53 y255.length co53) (.slice Ao39 y236.length co39) y236) := ⟨h7_⟩
         have n8_ : Aside0 (Kd.R (Kd.int .i64) 3 w75 w.heap.size (fun k_ => some k_ ≠ ob_ Ao26 y217.length co26 ∧ some k_ ≠ ob_ Ao30 t221.length co30 ∧ some k_ ≠ ob_ Ao38 y233.length co38 ∧ some k_ ≠ ob_ Ao52 y252.length co52 ∧ some k_ ≠ ob_ Ao59 t259.length co59 ∧ some k_ ≠ ob_ Ao64 y264.length co64 ∧ some k_ ≠ ob_ Ao67 y268.length co67 ∧ some k_ ≠ (v288 : Value).ownBlock) (.slice Ao44 t240.length co44) t240) := ⟨h8_⟩
         have n9_ : Aside0 (Kd.V k177 177 w75 w.heap.size (fun k_ => some k_ ≠ ob_ Ao26 y217.length co26 ∧ some k_ ≠ ob_ Ao30 t221.length co30 ∧ some k_ ≠ ob_ Ao38 y233.length co38 ∧ some k_ ≠ ob_ Ao39 y236.length co39 ∧ some k_ ≠ ob_ Ao44 t240.length co44 ∧ some k_ ≠ ob_ Ao52 y252.length co52 ∧ some k_ ≠ ob_ Ao53 y255.length co53 ∧ some k_ ≠ ob_ Ao59 t259.length co59 ∧ some k_ ≠ ob_ Ao64 y264.length co64 ∧ some k_ ≠ ob_ Ao67 y268.length co67 ∧ some k_ ≠ (v288 : Value).ownBlock ∧ k_ ≠ gb225 ∧ k_ ≠ gb244 ∧ k_ ≠ gb263) (.slice Ao50 t246.length co50) t246) := ⟨h9_⟩
         have n10_ : Aside0 (Kd.V k138 138 w75 w.heap.size (fun k_ => some k_ ≠ ob_ Ao26 y217.length co26 ∧ some k_ ≠ ob_ Ao30 t221.length co30 ∧ some k_ ≠ ob_ Ao38 y233.length co38 ∧ some k_ ≠ ob_ Ao39 y236.length co39 ∧ some k_ ≠ ob_ Ao44 t240.length co44 ∧ some k_ ≠ ob_ Ao52 y252.length co52 ∧ some k_ ≠ ob_ Ao53 y255.length co53 ∧ some k_ ≠ ob_ Ao59 t259.length co59 ∧ some k_ ≠ ob_ Ao64 y264.length co64 ∧ some k_ ≠ ob_ Ao67 y268.length co67 ∧ some k_ ≠ (v288 : Value).ownBlock ∧ k_ ≠ gb225 ∧ k_ ≠ gb244 ∧ k_ ≠ gb263) (.slice Ao51 t249.length co51) t249) := ⟨h10_⟩
         have n11_ : Aside0 (Kd.R (Kd.int .i64) 3 w75 w.heap.size (fun k_ => some k_ ≠ ob_ Ao26 y217.length co26 ∧ some k_ ≠ ob_ Ao30 t221.length co30 ∧ some k_ ≠ ob_ Ao38 y233.length co38 ∧ some k_ ≠ ob_ Ao44 t240.length co44 ∧ some k_ ≠ ob_ Ao59 t259.length co59 ∧ some k_ ≠ ob_ Ao64 y264.length co64 ∧ some k_ ≠ ob_ Ao67 y268.length co67 ∧ some k_ ≠ (v288 : Value).ownBlock) (.slice Ao52 y252.length co52) y252) := ⟨h11_⟩
         have n12_ : Aside0 (Kd.R Kd.string 9 w75 w.heap.size (fun k_ => some k_ ≠ ob_ Ao39 y236.length co39) (.slice Ao53 y255.length co53) y255) := ⟨h12_⟩
         have n13_ : Aside0 (Kd.R (Kd.int .i64) 3 w75 w.heap.size (fun k_ => some k_ ≠ ob_ Ao26 y217.length co26 ∧ some k_ ≠ ob_ Ao30 t221.length co30 ∧ some k_ ≠ ob_ Ao38 y233.length co38 ∧ some k_ ≠ ob_ Ao44 t240.length co44 ∧ some k_ ≠ ob_ Ao52 y252.length co52 ∧ some k_ ≠ ob_ Ao64 y264.length co64 ∧ some k_ ≠ ob_ Ao67 y268.length co67 ∧ some k_ ≠ (v288 : Value).ownBlock) (.slice Ao59 t259.length co59) t259) := ⟨h13_⟩
         have n14_ : Aside0 (Kd.R (Kd.int .i64) 3 w75 w.heap.size (fun k_ => some k_ ≠ ob_ Ao26 y217.length co26 ∧ some k_ ≠ ob_ Ao30 t221.length co30 ∧ some k_ ≠ ob_ Ao38 y233.length co38 ∧ some k_ ≠ ob_ Ao44 t240.length co44 ∧ some k_ ≠ ob_ Ao52 y252.length co52 ∧ some k_ ≠ ob_ Ao59 t259.length co59 ∧ some k_ ≠ ob_ Ao67 y268.length co67 ∧ some k_ ≠ (v288 : Value).ownBlock) (.slice Ao64 y264.length co64) y264) := ⟨h14_⟩
         have n15_ : Aside0 (Kd.R (Kd.int .i64) 3 w75 w.heap.size (fun k_ => some k_ ≠ ob_ Ao26 y217.length co26 ∧ some k_ ≠ ob_ Ao30 t221.length co30 ∧ some k_ ≠ ob_ Ao38 y233.length co38 ∧ some k_ ≠ ob_ Ao44 t240.length co44 ∧ some k_ ≠ ob_ Ao52 y252.length co52 ∧ some k_ ≠ ob_ Ao59 t259.length co59 ∧ some k_ ≠ ob_ Ao64 y264.length co64 ∧ some k_ ≠ (v288 : Value).ownBlock) (.slice Ao67 y268.length co67) y268) := ⟨h15_⟩
         have n16_ : Aside0 (Kd.V k177 177 w75 w.heap.size (fun k_ => some k_ ≠ ob_ Ao26 y217.length co26 ∧ some k_ ≠ ob_ Ao30 t221.length co30 ∧ some k_ ≠ ob_ Ao38 y233.length co38 ∧ some k_ ≠ ob_ Ao39 y236.length co39 ∧ some k_ ≠ ob_ Ao44 t240.length co44 ∧ some k_ ≠ ob_ Ao52 y252.length co52 ∧ some k_ ≠ ob_ Ao53 y255.length co53 ∧ some k_ ≠ ob_ Ao59 t259.length co59 ∧ some k_ ≠ ob_ Ao64 y264.length co64 ∧ some k_ ≠ ob_ Ao67 y268.length co67 ∧ some k_ ≠ (v288 : Value).ownBlock ∧ k_ ≠ gb225 ∧ k_ ≠ gb244 ∧ k_ ≠ gb263) (.slice Ao69 t273.length co69) t273) := ⟨h16_⟩
         have n17_ : Aside0 (Kd.V k138 138 w75 w.heap.size (fun k_ => some k_ ≠ ob_ Ao26 y217.length co26 ∧ some k_ ≠ ob_ Ao30 t221.length co30 ∧ some k_ ≠ ob_ Ao38 y233.length co38 ∧ some k_ ≠ ob_ Ao39 y236.length co39 ∧ some k_ ≠ ob_ Ao44 t240.length co44 ∧ some k_ ≠ ob_ Ao52 y252.length co52 ∧ some k_ ≠ ob_ Ao53 y255.length co53 ∧ some k_ ≠ ob_ Ao59 t259.length co59 ∧ some k_ ≠ ob_ Ao64 y264.length co64 ∧ some k_ ≠ ob_ Ao67 y268.length co67 ∧ some k_ ≠ (v288 : Value).ownBlock ∧ k_ ≠ gb225 ∧ k_ ≠ gb244 ∧ k_ ≠ gb263) (.slice Ao70 t276.length co70) t276) := ⟨h17_⟩
         have n18_ : Aside0 (Kd.V k177 177 w75 w.heap.size (fun k_ => some k_ ≠ ob_ Ao26 y217.length co26 ∧ some k_ ≠ ob_ Ao30 t221.length co30 ∧ some k_ ≠ ob_ Ao38 y233.length co38 ∧ some k_ ≠ ob_ Ao39 y236.length co39 ∧ some k_ ≠ ob_ Ao44 t240.length co44 ∧ some k_ ≠ ob_ Ao52 y252.length co52 ∧ some k_ ≠ ob_ Ao53 y255.length co53 ∧ some k_ ≠ ob_ Ao59 t259.length co59 ∧ some k_ ≠ ob_ Ao64 y264.length co64 ∧ some k_ ≠ ob_ Ao67 y268.length co67 ∧ some k_ ≠ (v288 : Value).ownBlock ∧ k_ ≠ gb225 ∧ k_ ≠ gb244 ∧ k_ ≠ gb263) v282 t281) := ⟨h18_⟩
         have n19_ : Aside0 (Kd.V k138 138 w75 w.heap.size (fun k_ => some k_ ≠ ob_ Ao26 y217.length co26 ∧ some k_ ≠ ob_ Ao30 t221.length co30 ∧ some k_ ≠ ob_ Ao38 y233.length co38 ∧ some k_ ≠ ob_ Ao39 y236.length co39 ∧ some k_ ≠ ob_ Ao44 t240.length co44 ∧ some k_ ≠ ob_ Ao52 y252.length co52 ∧ some k_ ≠ ob_ Ao53 y255.length co53 ∧ some k_ ≠ ob_ Ao59 t259.length co59 ∧ some k_ ≠ ob_ Ao64 y264.length co64 ∧ some k_ ≠ ob_ Ao67 y268.length co67 ∧ some k_ ≠ (v288 : Value).ownBlock ∧ k_ ≠ gb225 ∧ k_ ≠ gb244 ∧ k_ ≠ gb263) v285 t284) := ⟨h19_⟩
         have n20_ : Aside0 (Kd.R (Kd.int .i64) 3 w75 w.heap.size (fun k_ => some k_ ≠ ob_ Ao26 y217.length co26 ∧ some k_ ≠ ob_ Ao30 t221.length co30 ∧ some k_ ≠ ob_ Ao38 y233.length co38 ∧ some k_ ≠ ob_ Ao44 t240.length co44 ∧ some k_ ≠ ob_ Ao52 y252.length co52 ∧ some k_ ≠ ob_ Ao59 t259.length co59 ∧ some k_ ≠ ob_ Ao64 y264.length co64 ∧ some k_ ≠ ob_ Ao67 y268.length co67) v288 y287) := ⟨h20_⟩
         have n21_ : Aside0 (w75.heap[gb225]? = some (.cells #[.int .i64 t220, .slice Ao30 t221.length co30] 68 (0, 0))) := ⟨h21_⟩
         have n22_ : Aside0 (w75.heap[gb244]? = some (.cells #[.int .i64 t239, .slice Ao44 t240.length co44] 68 (0, 0))) := ⟨h22_⟩
         have n23_ : Aside0 (w75.heap[gb263]? = some (.cells #[.int .i64 t258, .slice Ao59 t259.length co59] 68 (0, 0))) := ⟨h23_⟩
         have n24_ : Aside0 (Below w.heap.size w w75) := ⟨h24_⟩
         clear HO213
         clear HO216
         clear HO219
         clear HO223
         clear HO229
         clear HO232
         clear HO235
         clear HO238
         clear HO242
         clear HO248
         clear HO251
         clear HO254
         clear HO257
         clear HO261
         clear BK225
         clear BK244
         clear BK263
         clear HB
         clear h0_ h1_ h2_ h3_ h4_ h5_ h6_ h7_ h8_ h9_ h10_ h11_ h12_ h13_ h14_ h15_ h16_ h17_ h18_ h19_ h20_ h21_ h22_ h23_ h24_
         have HO213 := n0_
         have HO216 := n1_
         have HO219 := n2_
         have HO223 := n3_
         have HO229 := n4_
         have HO232 := n5_
         have HO235 := n6_
         have HO238 := n7_
         have HO242 := n8_
         have HO248 := n9_
         have HO251 := n10_
         have HO254 := n11_
         have HO257 := n12_
         have HO261 := n13_
         have HO266 := n14_
         have HO270 := n15_
         have HO275 := n16_
         have HO278 := n17_
         have HO283 := n18_
         have HO286 := n19_
         have HO289 := n20_
         have BK225 := n21_
         have BK244 := n22_
         have BK263 := n23_
         have HB := n24_
         clear n0_ n1_ n2_ n3_ n4_ n5_ n6_ n7_ n8_ n9_ n10_ n11_ n12_ n13_ n14_ n15_ n16_ n17_ n18_ n19_ n20_ n21_ n22_ n23_ n24_
         have hHeld : w75.cell? ⟨gb225, 0, none⟩ = some (.int .i64 t220) ∧ w75.cell? ⟨gb225, 1, none⟩ = some (.slice Ao30 t221.length co30) ∧ w75.cell? ⟨gb244, 0, none⟩ = some (.int .i64 t239) ∧ w75.cell? ⟨gb244, 1, none⟩ = some (.slice Ao44 t240.length co44) := hS_
         obtain ⟨Ao76, co76, eo76⟩ := Kd.V_slice HO283.out
         (subst eo76)
         obtain ⟨Ao77, co77, eo77⟩ := Kd.V_slice HO286.out
         (subst eo77)
         obtain ⟨Ao78, co78, eo78⟩ := Kd.R_slice HO289.out
         (subst eo78)
         refine norm_ (a' := ?_) ?_ ?_
         rotate_left
         ·
          simp only [putAll, Act.put, List.setIfInBounds_toArray, List.set_cons_zero, List.set_cons_succ]
          rfl
         refine one_ (i := 41) (N := some 68) #[Y,Y,Y,Y,Y,Y,Y,Y,Y,Y,Y,Y,Y,Y,Y,Y,Y,Y,Y,Y,Y,Y,Y,Y,Y,Y,Y,Y,Y,Y,Y,Y,Y,Y,Y,Y,Y,Y,Y,Y,Y,Y,Z,Z,Z] rfl rfl (one_of HT_.out (by kernel_rfl)) (by decide) (fun K hK => ?_)
         refine goes_ Try.func36 (by kernel_rfl) rfl #[.agg #[.string t280, .slice Ao76 t281.length co76, .slice Ao77 t284.length co77], .slice Ao78 y287.length co78, .agg #[.int .i64 t220, .slice Ao30 t221.length co30]] (by rfl) rfl rfl (by (try simp only [List.map_toArray, List.map_cons, List.map_nil]); rfl) ?_
         with_reducible refine (cover_Check.calls k t280 _ _ t281 _ _ t284 _ _ y287 t220 _ _ t221 t290 _ ?side1 ?side2 ?side3 ?side4 ?side5 ?side6 ?side7 ?side8 A20.out).mono ?_
         (case side1 => repeat (exact (Kd.V_reads' HO283.out).2.2))
         (case side2 => exact (Kd.V_reads' HO283.out).2.1)
         (case side3 => repeat (exact (Kd.V_reads' HO286.out).2.2))
         (case side4 => exact (Kd.V_reads' HO286.out).2.1)
         (case side5 => repeat (exact (Kd.R_reads' HO289.out).2.2))
         (case side6 => exact (Kd.R_reads' HO289.out).2.1)
         (case side7 => repeat (exact (Kd.R_reads' HO223.out).2.2))
         (case side8 => exact (Kd.R_reads' HO223.out).2.1)
         rintro e w79 ⟨rfl, hb⟩
         refine ⟨_, rfl, ?_⟩
         have n0_ := Aside0.mk (Kd.V_below HO213.out hb)
         have n1_ := Aside0.mk (Kd.V_below HO216.out hb)
         have n2_ := Aside0.mk (Kd.R_below HO219.out hb)
         have n3_ := Aside0.mk (Kd.R_below HO223.out hb)
         have n4_ := Aside0.mk (Kd.V_below HO229.out hb)
         have n5_ := Aside0.mk (Kd.V_below HO232.out hb)
         have n6_ := Aside0.mk (Kd.R_below HO235.out hb)
         have n7_ := Aside0.mk (Kd.R_below HO238.out hb)
         have n8_ := Aside0.mk (Kd.R_below HO242.out hb)
         have n9_ := Aside0.mk (Kd.V_below HO248.out hb)
         have n10_ := Aside0.mk (Kd.V_below HO251.out hb)
         have n11_ := Aside0.mk (Kd.R_below HO254.out hb)
         have n12_ := Aside0.mk (Kd.R_below HO257.out hb)
         have n13_ := Aside0.mk (Kd.R_below HO261.out hb)
         have n14_ := Aside0.mk (Kd.R_below HO266.out hb)
         have n15_ := Aside0.mk (Kd.R_below HO270.out hb)
         have n16_ := Aside0.mk (Kd.V_below HO275.out hb)
         have n17_ := Aside0.mk (Kd.V_below HO278.out hb)
         have n18_ := Aside0.mk (Kd.V_below HO283.out hb)
         have n19_ := Aside0.mk (Kd.V_below HO286.out hb)
         have n20_ := Aside0.mk (Kd.R_below HO289.out hb)
         have n21_ := Aside0.mk (blk_below (g := gb225) (o := .cells #[.int .i64 t220, .slice Ao30 t221.length co30] 68 (0, 0)) BK225.out hb)
         have n22_ := Aside0.mk (blk_below (g := gb244) (o := .cells #[.int .i64 t239, .slice Ao44 t240.length co44] 68 (0, 0)) BK244.out hb)
         have n23_ := Aside0.mk (blk_below (g := gb263) (o := .cells #[.int .i64 t258, .slice Ao59 t259.length co59] 68 (0, 0)) BK263.out hb)
         have n24_ := Aside0.mk (below_step HB.out hb)
         clear HO213
         clear HO216
         clear HO219
         clear HO223
         clear HO229
         clear HO232
         clear HO235
         clear HO238
         clear HO242
         clear HO248
         clear HO251
         clear HO254
         clear HO257
         clear HO261
         clear HO266
         clear HO270
         clear HO275
         clear HO278
         clear HO283
         clear HO286
         clear HO289
         clear BK225
         clear BK244
         clear BK263
         clear HB
         have HO213 := n0_
         have HO216 := n1_
         have HO219 := n2_
         have HO223 := n3_
         have HO229 := n4_
         have HO232 := n5_
         have HO235 := n6_
         have HO238 := n7_
         have HO242 := n8_
         have HO248 := n9_
         have HO251 := n10_
         have HO254 := n11_
         have HO257 := n12_
         have HO261 := n13_
         have HO266 := n14_
         have HO270 := n15_
         have HO275 := n16_
         have HO278 := n17_
         have HO283 := n18_
         have HO286 := n19_
         have HO289 := n20_
         have BK225 := n21_
         have BK244 := n22_
         have BK263 := n23_
         have HB := n24_
         clear n0_ n1_ n2_ n3_ n4_ n5_ n6_ n7_ n8_ n9_ n10_ n11_ n12_ n13_ n14_ n15_ n16_ n17_ n18_ n19_ n20_ n21_ n22_ n23_ n24_
         (try clear hb)
         refine hK.out _ _ ⟨(blk_cell BK225.out 0).trans rfl, (blk_cell BK225.out 1).trans rfl, (blk_cell BK244.out 0).trans rfl, (blk_cell BK244.out 1).trans rfl⟩ (fun hHeld => ?_)
         clear hK K
         refine norm_ (a' := ?_) ?_ ?_
         rotate_left
         ·
          show Act.put _ (some 68) _ = _
          simp only [Act.put, List.setIfInBounds_toArray, List.set_cons_zero, List.set_cons_succ, i64_w, i32_w]
          rfl
         refine pure_ (i := 42) (N := some 69) (v := ?_) (a' := ?_) #[Y,Y,Y,Y,Y,Y,Y,Y,Y,Y,Y,Y,Y,Y,Y,Y,Y,Y,Y,Y,Y,Y,Y,Y,Y,Y,Y,Y,Y,Y,Y,Y,Y,Y,Y,Y,Y,Y,Y,Y,Y,Y,Y,Z,Z] rfl rfl (any_of HT_.out (by kernel_rfl)) (fun _ _ _ h => h) (Or.inl ⟨by rfl, ?_⟩) ?_ ?_
         rotate_left
         ·
          intro w'
          go_simp
          with_reducible rfl
         rotate_left
         ·
          simp only [Act.put, List.setIfInBounds_toArray, List.set_cons_zero, List.set_cons_succ, i64_w, i32_w]
          rfl
         refine pure_ (i := 43) (N := some 70) (v := ?_) (a' := ?_) #[Y,Y,Y,Y,Y,Y,Y,Y,Y,Y,Y,Y,Y,Y,Y,Y,Y,Y,Y,Y,Y,Y,Y,Y,Y,Y,Y,Y,Y,Y,Y,Y,Y,Y,Y,Y,Y,Y,Y,Y,Y,Y,Y,Y,Z] rfl rfl (any_of HT_.out (by kernel_rfl)) (fun _ _ _ h => h) (Or.inl ⟨by rfl, ?_⟩) ?_ ?_
         rotate_left
         ·
          intro w'
          go_simp
          with_reducible rfl
         rotate_left
         ·
          simp only [Act.put, List.setIfInBounds_toArray, List.set_cons_zero, List.set_cons_succ, i64_w, i32_w]
          rfl
         refine pure_ (i := 44) (N := some 0) (v := ?_) (a' := ?_) #[Y,Y,Y,Y,Y,Y,Y,Y,Y,Y,Y,Y,Y,Y,Y,Y,Y,Y,Y,Y,Y,Y,Y,Y,Y,Y,Y,Y,Y,Y,Y,Y,Y,Y,Y,Y,Y,Y,Y,Y,Y,Y,Y,Y,Y] rfl rfl (any_of HT_.out (by kernel_rfl)) (fun _ _ _ h => h) (Or.inl ⟨by rfl, ?_⟩) ?_ ?_
         rotate_left
         ·
          intro w'
          go_simp
          with_reducible rfl
         rotate_left
         ·
          simp only [Act.put, List.setIfInBounds_toArray, List.set_cons_zero, List.set_cons_succ, i64_w, i32_w]
          rfl
         refine done_ (done_of HT_.out (by kernel_rfl)) ?_
         try go_wp2
         go_ret
         exact ⟨by rfl, by repeat exact HB.out⟩
        ·
         rw [if_neg c18] at H
         have c18b0 : (t279 == 0) = false := beq_eq_false_iff_ne.mpr c18
         have c18b1 : (t279 != 0) = true := bne_iff_ne.mpr c18
         exact absurd H (by simp)
       ·
        rw [if_neg c15] at H
        have c15b0 : (t262 == 320) = false := beq_eq_false_iff_ne.mpr c15
        have c15b1 : (t262 != 320) = true := bne_iff_ne.mpr c15
        exact absurd H (by simp)
      ·
       replace c14 := Bool.eq_false_iff.mpr c14
       subst c14
       have H1 : (none) = some r := by rw [if_neg (show ¬ (false = true) by decide)] at H; exact H
       clear H
       have H := H1
       clear H1
       exact absurd H (by simp)
     ·
      rw [if_neg c12] at H
      have c12b0 : (t239 == 1) = false := beq_eq_false_iff_ne.mpr c12
      have c12b1 : (t239 != 1) = true := bne_iff_ne.mpr c12
      exact absurd H (by simp)
    ·
     rw [if_neg c11] at H
     have c11b0 : (t243 == 0) = false := beq_eq_false_iff_ne.mpr c11
     have c11b1 : (t243 != 0) = true := bne_iff_ne.mpr c11
     exact absurd H (by simp)
   ·
    replace c10 := Bool.eq_false_iff.mpr c10
    subst c10
    have H1 : (none) = some r := by rw [if_neg (show ¬ (false = true) by decide)] at H; exact H
    clear H
    have H := H1
    clear H1
    exact absurd H (by simp)
  ·
   rw [if_neg c8] at H
   have c8b0 : (t220 == 1) = false := beq_eq_false_iff_ne.mpr c8
   have c8b1 : (t220 != 1) = true := bne_iff_ne.mpr c8
   exact absurd H (by simp)
 ·
  rw [if_neg c7] at H
  have c7b0 : (t224 == 0) = false := beq_eq_false_iff_ne.mpr c7
  have c7b1 : (t224 != 0) = true := bne_iff_ne.mpr c7
  exact absurd H (by simp)

end Go.Proofs.Ytgjclhhjigflkab.C
