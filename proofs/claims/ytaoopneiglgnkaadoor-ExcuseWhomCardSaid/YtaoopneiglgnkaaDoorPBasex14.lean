/- Functions of the program as Lean functions, each with a proof that a call comes to what it says. Conditions: those of each theorem. Laid by a program of this session. -/
import Derived.Test.YtaoopneiglgnkaaDoorPBasex0
import Derived.Test.YtaoopneiglgnkaaDoorPBasex1
import Derived.Test.YtaoopneiglgnkaaDoorPBasex5
import Derived.Test.YtaoopneiglgnkaaDoorPBasex9
import Derived.Test.YtaoopneiglgnkaaDoorPBasex10
import Derived.Test.YtaoopneiglgnkaaDoorPBasex12
import Derived.Test.YtaoopneiglgnkaaDoorPBasex13
namespace Go.Proofs.YtaoopneiglgnkaaDoor.PBase
open Go.RowKit Go.Proofs.YtaoopneiglgnkaaDoor Go.Proofs.YtaoopneiglgnkaaDoorW.PrintWords Go.Proofs.YtaoopneiglgnkaaDoorW.PrintLast Go.Proofs.YtaoopneiglgnkaaDoorW.PrintMore
attribute [local go_sem] max2_int min2_int max_two min_two max_three min_three max_four min_four   -- for this text's walks alone
set_option linter.unusedVariables false
set_option linter.unusedSimpArgs false

attribute [local go_sem high] eqA28
/-! ### crosswaylaw20_awake: function 9 -/
def crosswaylaw20_awake.j0 : Nat → ByteArray → Int → Int → ByteArray → Int → Int → Int → Int → Bool → Bool → Int → Int → Bool → Bool → Int → Int → Int → Bool → Int → Int → Bool → Int → Int → ByteArray → ByteArray → Option (Bool)
 | 0, _, _, _, _, _, _, _, _, _, _, _, _, _, _, _, _, _, _, _, _, _, _, _, _, _ => none
 | k + 1, x2, x5, x7, x8, x11, x13, x14, x15, x16, x73, x306000, x306001, x306002, x306003, x306004, x306005, x306006, x306007, x306008, x306009, x306010, x306011, x306012, x306013, x306014 => if x73 = true then (some false) else (if x5 = 0 then (if x7 = 0 then ((crosswaylaw20_ten.f 9).bind fun bt318 => (if (x306007 == bt318.1 && (x306008 == bt318.2.1 && (x306009 == bt318.2.2))) = true then ((crosswaylaw20_ten.f 1).bind fun bt321 => (if (x306010 == bt321.1 && (x306011 == bt321.2.1 && (x306012 == bt321.2.2))) = true then (if 0 < (x306014.size : Int) then (if (bt x306014 0) = 11 then (if 8 ≤ (x306014.size : Int) then (if 0 ≤ 28 then (if 28 ≤ (x2.size : Int) then (if (x306014.extract 8 x306014.size).toList = (x2.extract 0 28).toList then (if x11 = 170 then (if x13 = 1 then (if x14 = 2 then (if x15 = 0 then (if x16 = true then ((excuse_May.f k x2).bind fun t324 => (if t324 = true then ((excuse_May.f k x8).bind fun t325 => (some (!t325))) else (some false))) else (some false)) else (some false)) else (some false)) else (some false)) else (some false)) else (some false)) else (none)) else (none)) else (none)) else (some false)) else (none)) else (some false))) else (some false))) else (some false)) else (some false))
def crosswaylaw20_awake.f0 (k : Nat)  : Option (Bool) := (crosswaylaw20_ten.f 1).bind fun bt275 => ((crosswaylaw20_ten.f 2).bind fun bt278 => ((ip4_Lay.f k 0 0 false false 0 9 17 bt275.1 bt275.2.1 bt275.2.2 bt278.1 bt278.2.1 bt278.2.2 (⟨#[]⟩ : ByteArray) (⟨#[49, 50, 51, 52, 53, 54, 55, 56, 57, 48, 49, 50]⟩ : ByteArray)).bind fun bt282 => ((crosswaylaw20_ten.f 9).bind fun bt284 => ((excuse_Of.f k 1 bt282.1 bt284.1 bt284.2.1 bt284.2.2 5).bind fun bt287 => ((ip4_Take.f k bt287.1).bind fun bt289 => ((ip4_Lay.f k 0 0 false false 1 9 17 bt275.1 bt275.2.1 bt275.2.2 bt278.1 bt278.2.1 bt278.2.2 (⟨#[]⟩ : ByteArray) (⟨#[49, 50, 51, 52, 53, 54, 55, 56, 57, 48, 49, 50]⟩ : ByteArray)).bind fun bt306 => ((crosswaylaw20_ten.f 9).bind fun bt308 => ((excuse_Of.f k 1 bt306.1 bt308.1 bt308.2.1 bt308.2.2 5).bind fun bt311 => ((excuse_Of.f k 1 bt282.1 true 0 1 5).bind fun bt313 => ((excuse_Kind.f 4 true).bind fun bt315 => (if (bt282.1.size : Int) = 32 then (if (bt287.1.size : Int) = 56 then (crosswaylaw20_awake.j0 k bt282.1 bt287.2 bt289.2.2.2.2.2.2.2.2.2.2.2.2.2.2.2 bt306.1 bt311.2 bt313.2 bt315.1 bt315.2.1 bt315.2.2 ((bt289.2.2.2.2.2.2.2.2.2.2.2.2.2.2.1.size : Int) != 36) bt289.1 bt289.2.1 bt289.2.2.1 bt289.2.2.2.1 bt289.2.2.2.2.1 bt289.2.2.2.2.2.1 bt289.2.2.2.2.2.2.1 bt289.2.2.2.2.2.2.2.1 bt289.2.2.2.2.2.2.2.2.1 bt289.2.2.2.2.2.2.2.2.2.1 bt289.2.2.2.2.2.2.2.2.2.2.1 bt289.2.2.2.2.2.2.2.2.2.2.2.1 bt289.2.2.2.2.2.2.2.2.2.2.2.2.1 bt289.2.2.2.2.2.2.2.2.2.2.2.2.2.1 bt289.2.2.2.2.2.2.2.2.2.2.2.2.2.2.1) else (crosswaylaw20_awake.j0 k bt282.1 bt287.2 bt289.2.2.2.2.2.2.2.2.2.2.2.2.2.2.2 bt306.1 bt311.2 bt313.2 bt315.1 bt315.2.1 bt315.2.2 true bt289.1 bt289.2.1 bt289.2.2.1 bt289.2.2.2.1 bt289.2.2.2.2.1 bt289.2.2.2.2.2.1 bt289.2.2.2.2.2.2.1 bt289.2.2.2.2.2.2.2.1 bt289.2.2.2.2.2.2.2.2.1 bt289.2.2.2.2.2.2.2.2.2.1 bt289.2.2.2.2.2.2.2.2.2.2.1 bt289.2.2.2.2.2.2.2.2.2.2.2.1 bt289.2.2.2.2.2.2.2.2.2.2.2.2.1 bt289.2.2.2.2.2.2.2.2.2.2.2.2.2.1 bt289.2.2.2.2.2.2.2.2.2.2.2.2.2.2.1)) else (crosswaylaw20_awake.j0 k bt282.1 bt287.2 bt289.2.2.2.2.2.2.2.2.2.2.2.2.2.2.2 bt306.1 bt311.2 bt313.2 bt315.1 bt315.2.1 bt315.2.2 true bt289.1 bt289.2.1 bt289.2.2.1 bt289.2.2.2.1 bt289.2.2.2.2.1 bt289.2.2.2.2.2.1 bt289.2.2.2.2.2.2.1 bt289.2.2.2.2.2.2.2.1 bt289.2.2.2.2.2.2.2.2.1 bt289.2.2.2.2.2.2.2.2.2.1 bt289.2.2.2.2.2.2.2.2.2.2.1 bt289.2.2.2.2.2.2.2.2.2.2.2.1 bt289.2.2.2.2.2.2.2.2.2.2.2.2.1 bt289.2.2.2.2.2.2.2.2.2.2.2.2.2.1 bt289.2.2.2.2.2.2.2.2.2.2.2.2.2.2.1))))))))))))
theorem crosswaylaw20_awake.mono_l : ∀ k, (∀ y0 y1 y2 y3 y4 y5 y6 y7 y8 y9 y10 y11 y12 y13 y14 y15 y16 y17 y18 y19 y20 y21 y22 y23 y24, LeO (crosswaylaw20_awake.j0 k y0 y1 y2 y3 y4 y5 y6 y7 y8 y9 y10 y11 y12 y13 y14 y15 y16 y17 y18 y19 y20 y21 y22 y23 y24) (crosswaylaw20_awake.j0 (k + 1) y0 y1 y2 y3 y4 y5 y6 y7 y8 y9 y10 y11 y12 y13 y14 y15 y16 y17 y18 y19 y20 y21 y22 y23 y24))
 | 0 => fun _ _ _ _ _ _ _ _ _ _ _ _ _ _ _ _ _ _ _ _ _ _ _ _ _ r h => by simp [crosswaylaw20_awake.j0] at h
 | k + 1 => by
  have ih0 := crosswaylaw20_awake.mono_l k
  ·
   intro y0 y1 y2 y3 y4 y5 y6 y7 y8 y9 y10 y11 y12 y13 y14 y15 y16 y17 y18 y19 y20 y21 y22 y23 y24
   unfold crosswaylaw20_awake.j0
   repeat' first
   | (with_reducible exact ih0 _ _ _ _ _ _ _ _ _ _ _ _ _ _ _ _ _ _ _ _ _ _ _ _ _)
   | (with_reducible exact excuse_May.mono _ _)
   | (with_reducible exact excuse_Of.mono _ _ _ _ _ _ _)
   | (with_reducible exact ip4_Lay.mono _ _ _ _ _ _ _ _ _ _ _ _ _ _ _ _)
   | (with_reducible exact ip4_Take.mono _ _)
   | (with_reducible exact LeO.refl _)
   | (with_reducible exact LeO.none _)
   | (with_reducible refine LeO.ite ?_ ?_)
   | (with_reducible refine LeO.bind ?_ (fun _ => ?_))
   | exact ih0 _ _ _ _ _ _ _ _ _ _ _ _ _ _ _ _ _ _ _ _ _ _ _ _ _
   | exact excuse_May.mono _ _
   | exact excuse_Of.mono _ _ _ _ _ _ _
   | exact ip4_Lay.mono _ _ _ _ _ _ _ _ _ _ _ _ _ _ _ _
   | exact ip4_Take.mono _ _
   | exact LeO.none _
   | refine LeO.ite ?_ ?_
   | refine LeO.bind ?_ (fun _ => ?_)
theorem crosswaylaw20_awake.mono0 : ∀ k, LeO (crosswaylaw20_awake.f0 k ) (crosswaylaw20_awake.f0 (k + 1) ) := by
 intro  k
 have ih0 := crosswaylaw20_awake.mono_l k
 unfold crosswaylaw20_awake.f0
 repeat' first
   | (with_reducible exact ih0 _ _ _ _ _ _ _ _ _ _ _ _ _ _ _ _ _ _ _ _ _ _ _ _ _)
   | (with_reducible exact excuse_May.mono _ _)
   | (with_reducible exact excuse_Of.mono _ _ _ _ _ _ _)
   | (with_reducible exact ip4_Lay.mono _ _ _ _ _ _ _ _ _ _ _ _ _ _ _ _)
   | (with_reducible exact ip4_Take.mono _ _)
   | (with_reducible exact LeO.refl _)
   | (with_reducible exact LeO.none _)
   | (with_reducible refine LeO.ite ?_ ?_)
   | (with_reducible refine LeO.bind ?_ (fun _ => ?_))
   | exact ih0 _ _ _ _ _ _ _ _ _ _ _ _ _ _ _ _ _ _ _ _ _ _ _ _ _
   | exact excuse_May.mono _ _
   | exact excuse_Of.mono _ _ _ _ _ _ _
   | exact ip4_Lay.mono _ _ _ _ _ _ _ _ _ _ _ _ _ _ _ _
   | exact ip4_Take.mono _ _
   | exact LeO.none _
   | refine LeO.ite ?_ ?_
   | refine LeO.bind ?_ (fun _ => ?_)
def crosswaylaw20_awake.T12 : Bool × List (List Nat × List Nat) := (true, [([], []), ([0], [0]), ([1], [1]), ([2], [2]), ([3, 2], [2, 3]), ([2, 4], [2, 4]), ([5, 2], [5]), ([6], [6]), ([7, 6], [6, 7]), ([6, 6], [6]), ([8, 9, 6], [6, 8, 9]), ([6, 10], [6, 10]), ([11, 9], [11]), ([12], [12]), ([13, 12], [12, 13]), ([12, 12], [12]), ([14, 15, 12], [12, 14, 15]), ([12, 16], [12, 16]), ([17, 15], [17]), ([18], [18]), ([19, 18], [18, 19]), ([20, 18], [18, 20]), ([21, 18], [18, 21]), ([18, 22], [18, 22]), ([23, 18], [23]), ([24], [24]), ([25, 24], [24, 25]), ([26, 24], [24, 26]), ([24], [24]), ([28, 24], [24, 28]), ([27, 29, 24], [24, 27, 29]), ([24, 30], [24, 30]), ([31, 24, 0, 1, 2, 3, 4, 5, 6, 7, 8, 9, 10, 11, 12, 13, 14, 15, 16, 17, 18, 19, 20, 21, 22, 23, 24, 25, 26, 27, 28, 29, 30, 31], [31])])
def crosswaylaw20_awake.B12 : List Nat := [0, 1, 3, 7, 15, 31, 63, 127, 255, 127, 1023, 2047, 4095, 8191, 16383, 8191, 65535, 131071, 262143, 524287, 1048575, 2097151, 4194303, 8388607, 16777215, 33554431, 67108863, 134217727, 33554431, 301989887, 1073741823, 2147483647, 4294967295]
theorem crosswaylaw20_awake.tab12 : rtab .any (opsOf Tryd.f9 12) = crosswaylaw20_awake.T12 := by kernel_rfl
theorem crosswaylaw20_awake.bits12 : waitsOk crosswaylaw20_awake.T12.2 crosswaylaw20_awake.B12 = true := by kernel_rfl
set_option maxHeartbeats 8000000 in
set_option maxRecDepth 100000 in
theorem crosswaylaw20_awake.calls0 (k : Nat)  (r : Bool) (w : World) (h : crosswaylaw20_awake.f0 k  = some r) (hrt : r = true) (hg : excuse_Glob w) :
  Calls Tryd.prog 9 #[] w fun e w' => e = .returned (.bool r) ∧ Below w.heap.size w w' := by
 have HGL := Aside0.mk hg
 clear hg
 have HRT := Aside0.mk hrt
 clear hrt
 have hu37 := Tryd.underlying37
 have hu28 := Tryd.underlying28
 have HB := Aside0.mk (Below.refl w.heap.size w)
 have H : ((crosswaylaw20_ten.f 1).bind fun bt275 => ((crosswaylaw20_ten.f 2).bind fun bt278 => ((ip4_Lay.f k 0 0 false false 0 9 17 bt275.1 bt275.2.1 bt275.2.2 bt278.1 bt278.2.1 bt278.2.2 (⟨#[]⟩ : ByteArray) (⟨#[49, 50, 51, 52, 53, 54, 55, 56, 57, 48, 49, 50]⟩ : ByteArray)).bind fun bt282 => ((crosswaylaw20_ten.f 9).bind fun bt284 => ((excuse_Of.f k 1 bt282.1 bt284.1 bt284.2.1 bt284.2.2 5).bind fun bt287 => ((ip4_Take.f k bt287.1).bind fun bt289 => ((ip4_Lay.f k 0 0 false false 1 9 17 bt275.1 bt275.2.1 bt275.2.2 bt278.1 bt278.2.1 bt278.2.2 (⟨#[]⟩ : ByteArray) (⟨#[49, 50, 51, 52, 53, 54, 55, 56, 57, 48, 49, 50]⟩ : ByteArray)).bind fun bt306 => ((crosswaylaw20_ten.f 9).bind fun bt308 => ((excuse_Of.f k 1 bt306.1 bt308.1 bt308.2.1 bt308.2.2 5).bind fun bt311 => ((excuse_Of.f k 1 bt282.1 true 0 1 5).bind fun bt313 => ((excuse_Kind.f 4 true).bind fun bt315 => (if (bt282.1.size : Int) = 32 then (if (bt287.1.size : Int) = 56 then (crosswaylaw20_awake.j0 k bt282.1 bt287.2 bt289.2.2.2.2.2.2.2.2.2.2.2.2.2.2.2 bt306.1 bt311.2 bt313.2 bt315.1 bt315.2.1 bt315.2.2 ((bt289.2.2.2.2.2.2.2.2.2.2.2.2.2.2.1.size : Int) != 36) bt289.1 bt289.2.1 bt289.2.2.1 bt289.2.2.2.1 bt289.2.2.2.2.1 bt289.2.2.2.2.2.1 bt289.2.2.2.2.2.2.1 bt289.2.2.2.2.2.2.2.1 bt289.2.2.2.2.2.2.2.2.1 bt289.2.2.2.2.2.2.2.2.2.1 bt289.2.2.2.2.2.2.2.2.2.2.1 bt289.2.2.2.2.2.2.2.2.2.2.2.1 bt289.2.2.2.2.2.2.2.2.2.2.2.2.1 bt289.2.2.2.2.2.2.2.2.2.2.2.2.2.1 bt289.2.2.2.2.2.2.2.2.2.2.2.2.2.2.1) else (crosswaylaw20_awake.j0 k bt282.1 bt287.2 bt289.2.2.2.2.2.2.2.2.2.2.2.2.2.2.2 bt306.1 bt311.2 bt313.2 bt315.1 bt315.2.1 bt315.2.2 true bt289.1 bt289.2.1 bt289.2.2.1 bt289.2.2.2.1 bt289.2.2.2.2.1 bt289.2.2.2.2.2.1 bt289.2.2.2.2.2.2.1 bt289.2.2.2.2.2.2.2.1 bt289.2.2.2.2.2.2.2.2.1 bt289.2.2.2.2.2.2.2.2.2.1 bt289.2.2.2.2.2.2.2.2.2.2.1 bt289.2.2.2.2.2.2.2.2.2.2.2.1 bt289.2.2.2.2.2.2.2.2.2.2.2.2.1 bt289.2.2.2.2.2.2.2.2.2.2.2.2.2.1 bt289.2.2.2.2.2.2.2.2.2.2.2.2.2.2.1)) else (crosswaylaw20_awake.j0 k bt282.1 bt287.2 bt289.2.2.2.2.2.2.2.2.2.2.2.2.2.2.2 bt306.1 bt311.2 bt313.2 bt315.1 bt315.2.1 bt315.2.2 true bt289.1 bt289.2.1 bt289.2.2.1 bt289.2.2.2.1 bt289.2.2.2.2.1 bt289.2.2.2.2.2.1 bt289.2.2.2.2.2.2.1 bt289.2.2.2.2.2.2.2.1 bt289.2.2.2.2.2.2.2.2.1 bt289.2.2.2.2.2.2.2.2.2.1 bt289.2.2.2.2.2.2.2.2.2.2.1 bt289.2.2.2.2.2.2.2.2.2.2.2.1 bt289.2.2.2.2.2.2.2.2.2.2.2.2.1 bt289.2.2.2.2.2.2.2.2.2.2.2.2.2.1 bt289.2.2.2.2.2.2.2.2.2.2.2.2.2.2.1))))))))))))) = some r := h
 clear h
 replace H := Option.bind_eq_some_iff.mp H
 obtain ⟨⟨t275, t276, t277⟩, A10, H⟩ := H
 replace H : ((crosswaylaw20_ten.f 2).bind fun bt278 => ((ip4_Lay.f k 0 0 false false 0 9 17 t275 t276 t277 bt278.1 bt278.2.1 bt278.2.2 (⟨#[]⟩ : ByteArray) (⟨#[49, 50, 51, 52, 53, 54, 55, 56, 57, 48, 49, 50]⟩ : ByteArray)).bind fun bt282 => ((crosswaylaw20_ten.f 9).bind fun bt284 => ((excuse_Of.f k 1 bt282.1 bt284.1 bt284.2.1 bt284.2.2 5).bind fun bt287 => ((ip4_Take.f k bt287.1).bind fun bt289 => ((ip4_Lay.f k 0 0 false false 1 9 17 t275 t276 t277 bt278.1 bt278.2.1 bt278.2.2 (⟨#[]⟩ : ByteArray) (⟨#[49, 50, 51, 52, 53, 54, 55, 56, 57, 48, 49, 50]⟩ : ByteArray)).bind fun bt306 => ((crosswaylaw20_ten.f 9).bind fun bt308 => ((excuse_Of.f k 1 bt306.1 bt308.1 bt308.2.1 bt308.2.2 5).bind fun bt311 => ((excuse_Of.f k 1 bt282.1 true 0 1 5).bind fun bt313 => ((excuse_Kind.f 4 true).bind fun bt315 => (if (bt282.1.size : Int) = 32 then (if (bt287.1.size : Int) = 56 then (crosswaylaw20_awake.j0 k bt282.1 bt287.2 bt289.2.2.2.2.2.2.2.2.2.2.2.2.2.2.2 bt306.1 bt311.2 bt313.2 bt315.1 bt315.2.1 bt315.2.2 ((bt289.2.2.2.2.2.2.2.2.2.2.2.2.2.2.1.size : Int) != 36) bt289.1 bt289.2.1 bt289.2.2.1 bt289.2.2.2.1 bt289.2.2.2.2.1 bt289.2.2.2.2.2.1 bt289.2.2.2.2.2.2.1 bt289.2.2.2.2.2.2.2.1 bt289.2.2.2.2.2.2.2.2.1 bt289.2.2.2.2.2.2.2.2.2.1 bt289.2.2.2.2.2.2.2.2.2.2.1 bt289.2.2.2.2.2.2.2.2.2.2.2.1 bt289.2.2.2.2.2.2.2.2.2.2.2.2.1 bt289.2.2.2.2.2.2.2.2.2.2.2.2.2.1 bt289.2.2.2.2.2.2.2.2.2.2.2.2.2.2.1) else (crosswaylaw20_awake.j0 k bt282.1 bt287.2 bt289.2.2.2.2.2.2.2.2.2.2.2.2.2.2.2 bt306.1 bt311.2 bt313.2 bt315.1 bt315.2.1 bt315.2.2 true bt289.1 bt289.2.1 bt289.2.2.1 bt289.2.2.2.1 bt289.2.2.2.2.1 bt289.2.2.2.2.2.1 bt289.2.2.2.2.2.2.1 bt289.2.2.2.2.2.2.2.1 bt289.2.2.2.2.2.2.2.2.1 bt289.2.2.2.2.2.2.2.2.2.1 bt289.2.2.2.2.2.2.2.2.2.2.1 bt289.2.2.2.2.2.2.2.2.2.2.2.1 bt289.2.2.2.2.2.2.2.2.2.2.2.2.1 bt289.2.2.2.2.2.2.2.2.2.2.2.2.2.1 bt289.2.2.2.2.2.2.2.2.2.2.2.2.2.2.1)) else (crosswaylaw20_awake.j0 k bt282.1 bt287.2 bt289.2.2.2.2.2.2.2.2.2.2.2.2.2.2.2 bt306.1 bt311.2 bt313.2 bt315.1 bt315.2.1 bt315.2.2 true bt289.1 bt289.2.1 bt289.2.2.1 bt289.2.2.2.1 bt289.2.2.2.2.1 bt289.2.2.2.2.2.1 bt289.2.2.2.2.2.2.1 bt289.2.2.2.2.2.2.2.1 bt289.2.2.2.2.2.2.2.2.1 bt289.2.2.2.2.2.2.2.2.2.1 bt289.2.2.2.2.2.2.2.2.2.2.1 bt289.2.2.2.2.2.2.2.2.2.2.2.1 bt289.2.2.2.2.2.2.2.2.2.2.2.2.1 bt289.2.2.2.2.2.2.2.2.2.2.2.2.2.1 bt289.2.2.2.2.2.2.2.2.2.2.2.2.2.2.1)))))))))))) = some r := H
 have A1 := Aside0.mk A10
 clear A10
 replace H := Option.bind_eq_some_iff.mp H
 obtain ⟨⟨t278, t279, t280⟩, A20, H⟩ := H
 replace H : ((ip4_Lay.f k 0 0 false false 0 9 17 t275 t276 t277 t278 t279 t280 (⟨#[]⟩ : ByteArray) (⟨#[49, 50, 51, 52, 53, 54, 55, 56, 57, 48, 49, 50]⟩ : ByteArray)).bind fun bt282 => ((crosswaylaw20_ten.f 9).bind fun bt284 => ((excuse_Of.f k 1 bt282.1 bt284.1 bt284.2.1 bt284.2.2 5).bind fun bt287 => ((ip4_Take.f k bt287.1).bind fun bt289 => ((ip4_Lay.f k 0 0 false false 1 9 17 t275 t276 t277 t278 t279 t280 (⟨#[]⟩ : ByteArray) (⟨#[49, 50, 51, 52, 53, 54, 55, 56, 57, 48, 49, 50]⟩ : ByteArray)).bind fun bt306 => ((crosswaylaw20_ten.f 9).bind fun bt308 => ((excuse_Of.f k 1 bt306.1 bt308.1 bt308.2.1 bt308.2.2 5).bind fun bt311 => ((excuse_Of.f k 1 bt282.1 true 0 1 5).bind fun bt313 => ((excuse_Kind.f 4 true).bind fun bt315 => (if (bt282.1.size : Int) = 32 then (if (bt287.1.size : Int) = 56 then (crosswaylaw20_awake.j0 k bt282.1 bt287.2 bt289.2.2.2.2.2.2.2.2.2.2.2.2.2.2.2 bt306.1 bt311.2 bt313.2 bt315.1 bt315.2.1 bt315.2.2 ((bt289.2.2.2.2.2.2.2.2.2.2.2.2.2.2.1.size : Int) != 36) bt289.1 bt289.2.1 bt289.2.2.1 bt289.2.2.2.1 bt289.2.2.2.2.1 bt289.2.2.2.2.2.1 bt289.2.2.2.2.2.2.1 bt289.2.2.2.2.2.2.2.1 bt289.2.2.2.2.2.2.2.2.1 bt289.2.2.2.2.2.2.2.2.2.1 bt289.2.2.2.2.2.2.2.2.2.2.1 bt289.2.2.2.2.2.2.2.2.2.2.2.1 bt289.2.2.2.2.2.2.2.2.2.2.2.2.1 bt289.2.2.2.2.2.2.2.2.2.2.2.2.2.1 bt289.2.2.2.2.2.2.2.2.2.2.2.2.2.2.1) else (crosswaylaw20_awake.j0 k bt282.1 bt287.2 bt289.2.2.2.2.2.2.2.2.2.2.2.2.2.2.2 bt306.1 bt311.2 bt313.2 bt315.1 bt315.2.1 bt315.2.2 true bt289.1 bt289.2.1 bt289.2.2.1 bt289.2.2.2.1 bt289.2.2.2.2.1 bt289.2.2.2.2.2.1 bt289.2.2.2.2.2.2.1 bt289.2.2.2.2.2.2.2.1 bt289.2.2.2.2.2.2.2.2.1 bt289.2.2.2.2.2.2.2.2.2.1 bt289.2.2.2.2.2.2.2.2.2.2.1 bt289.2.2.2.2.2.2.2.2.2.2.2.1 bt289.2.2.2.2.2.2.2.2.2.2.2.2.1 bt289.2.2.2.2.2.2.2.2.2.2.2.2.2.1 bt289.2.2.2.2.2.2.2.2.2.2.2.2.2.2.1)) else (crosswaylaw20_awake.j0 k bt282.1 bt287.2 bt289.2.2.2.2.2.2.2.2.2.2.2.2.2.2.2 bt306.1 bt311.2 bt313.2 bt315.1 bt315.2.1 bt315.2.2 true bt289.1 bt289.2.1 bt289.2.2.1 bt289.2.2.2.1 bt289.2.2.2.2.1 bt289.2.2.2.2.2.1 bt289.2.2.2.2.2.2.1 bt289.2.2.2.2.2.2.2.1 bt289.2.2.2.2.2.2.2.2.1 bt289.2.2.2.2.2.2.2.2.2.1 bt289.2.2.2.2.2.2.2.2.2.2.1 bt289.2.2.2.2.2.2.2.2.2.2.2.1 bt289.2.2.2.2.2.2.2.2.2.2.2.2.1 bt289.2.2.2.2.2.2.2.2.2.2.2.2.2.1 bt289.2.2.2.2.2.2.2.2.2.2.2.2.2.2.1))))))))))) = some r := H
 have A2 := Aside0.mk A20
 clear A20
 replace H := Option.bind_eq_some_iff.mp H
 obtain ⟨⟨t282, t283⟩, A30, H⟩ := H
 replace H : ((crosswaylaw20_ten.f 9).bind fun bt284 => ((excuse_Of.f k 1 t282 bt284.1 bt284.2.1 bt284.2.2 5).bind fun bt287 => ((ip4_Take.f k bt287.1).bind fun bt289 => ((ip4_Lay.f k 0 0 false false 1 9 17 t275 t276 t277 t278 t279 t280 (⟨#[]⟩ : ByteArray) (⟨#[49, 50, 51, 52, 53, 54, 55, 56, 57, 48, 49, 50]⟩ : ByteArray)).bind fun bt306 => ((crosswaylaw20_ten.f 9).bind fun bt308 => ((excuse_Of.f k 1 bt306.1 bt308.1 bt308.2.1 bt308.2.2 5).bind fun bt311 => ((excuse_Of.f k 1 t282 true 0 1 5).bind fun bt313 => ((excuse_Kind.f 4 true).bind fun bt315 => (if (t282.size : Int) = 32 then (if (bt287.1.size : Int) = 56 then (crosswaylaw20_awake.j0 k t282 bt287.2 bt289.2.2.2.2.2.2.2.2.2.2.2.2.2.2.2 bt306.1 bt311.2 bt313.2 bt315.1 bt315.2.1 bt315.2.2 ((bt289.2.2.2.2.2.2.2.2.2.2.2.2.2.2.1.size : Int) != 36) bt289.1 bt289.2.1 bt289.2.2.1 bt289.2.2.2.1 bt289.2.2.2.2.1 bt289.2.2.2.2.2.1 bt289.2.2.2.2.2.2.1 bt289.2.2.2.2.2.2.2.1 bt289.2.2.2.2.2.2.2.2.1 bt289.2.2.2.2.2.2.2.2.2.1 bt289.2.2.2.2.2.2.2.2.2.2.1 bt289.2.2.2.2.2.2.2.2.2.2.2.1 bt289.2.2.2.2.2.2.2.2.2.2.2.2.1 bt289.2.2.2.2.2.2.2.2.2.2.2.2.2.1 bt289.2.2.2.2.2.2.2.2.2.2.2.2.2.2.1) else (crosswaylaw20_awake.j0 k t282 bt287.2 bt289.2.2.2.2.2.2.2.2.2.2.2.2.2.2.2 bt306.1 bt311.2 bt313.2 bt315.1 bt315.2.1 bt315.2.2 true bt289.1 bt289.2.1 bt289.2.2.1 bt289.2.2.2.1 bt289.2.2.2.2.1 bt289.2.2.2.2.2.1 bt289.2.2.2.2.2.2.1 bt289.2.2.2.2.2.2.2.1 bt289.2.2.2.2.2.2.2.2.1 bt289.2.2.2.2.2.2.2.2.2.1 bt289.2.2.2.2.2.2.2.2.2.2.1 bt289.2.2.2.2.2.2.2.2.2.2.2.1 bt289.2.2.2.2.2.2.2.2.2.2.2.2.1 bt289.2.2.2.2.2.2.2.2.2.2.2.2.2.1 bt289.2.2.2.2.2.2.2.2.2.2.2.2.2.2.1)) else (crosswaylaw20_awake.j0 k t282 bt287.2 bt289.2.2.2.2.2.2.2.2.2.2.2.2.2.2.2 bt306.1 bt311.2 bt313.2 bt315.1 bt315.2.1 bt315.2.2 true bt289.1 bt289.2.1 bt289.2.2.1 bt289.2.2.2.1 bt289.2.2.2.2.1 bt289.2.2.2.2.2.1 bt289.2.2.2.2.2.2.1 bt289.2.2.2.2.2.2.2.1 bt289.2.2.2.2.2.2.2.2.1 bt289.2.2.2.2.2.2.2.2.2.1 bt289.2.2.2.2.2.2.2.2.2.2.1 bt289.2.2.2.2.2.2.2.2.2.2.2.1 bt289.2.2.2.2.2.2.2.2.2.2.2.2.1 bt289.2.2.2.2.2.2.2.2.2.2.2.2.2.1 bt289.2.2.2.2.2.2.2.2.2.2.2.2.2.2.1)))))))))) = some r := H
 have A3 := Aside0.mk A30
 clear A30
 replace H := Option.bind_eq_some_iff.mp H
 obtain ⟨⟨t284, t285, t286⟩, A40, H⟩ := H
 replace H : ((excuse_Of.f k 1 t282 t284 t285 t286 5).bind fun bt287 => ((ip4_Take.f k bt287.1).bind fun bt289 => ((ip4_Lay.f k 0 0 false false 1 9 17 t275 t276 t277 t278 t279 t280 (⟨#[]⟩ : ByteArray) (⟨#[49, 50, 51, 52, 53, 54, 55, 56, 57, 48, 49, 50]⟩ : ByteArray)).bind fun bt306 => ((crosswaylaw20_ten.f 9).bind fun bt308 => ((excuse_Of.f k 1 bt306.1 bt308.1 bt308.2.1 bt308.2.2 5).bind fun bt311 => ((excuse_Of.f k 1 t282 true 0 1 5).bind fun bt313 => ((excuse_Kind.f 4 true).bind fun bt315 => (if (t282.size : Int) = 32 then (if (bt287.1.size : Int) = 56 then (crosswaylaw20_awake.j0 k t282 bt287.2 bt289.2.2.2.2.2.2.2.2.2.2.2.2.2.2.2 bt306.1 bt311.2 bt313.2 bt315.1 bt315.2.1 bt315.2.2 ((bt289.2.2.2.2.2.2.2.2.2.2.2.2.2.2.1.size : Int) != 36) bt289.1 bt289.2.1 bt289.2.2.1 bt289.2.2.2.1 bt289.2.2.2.2.1 bt289.2.2.2.2.2.1 bt289.2.2.2.2.2.2.1 bt289.2.2.2.2.2.2.2.1 bt289.2.2.2.2.2.2.2.2.1 bt289.2.2.2.2.2.2.2.2.2.1 bt289.2.2.2.2.2.2.2.2.2.2.1 bt289.2.2.2.2.2.2.2.2.2.2.2.1 bt289.2.2.2.2.2.2.2.2.2.2.2.2.1 bt289.2.2.2.2.2.2.2.2.2.2.2.2.2.1 bt289.2.2.2.2.2.2.2.2.2.2.2.2.2.2.1) else (crosswaylaw20_awake.j0 k t282 bt287.2 bt289.2.2.2.2.2.2.2.2.2.2.2.2.2.2.2 bt306.1 bt311.2 bt313.2 bt315.1 bt315.2.1 bt315.2.2 true bt289.1 bt289.2.1 bt289.2.2.1 bt289.2.2.2.1 bt289.2.2.2.2.1 bt289.2.2.2.2.2.1 bt289.2.2.2.2.2.2.1 bt289.2.2.2.2.2.2.2.1 bt289.2.2.2.2.2.2.2.2.1 bt289.2.2.2.2.2.2.2.2.2.1 bt289.2.2.2.2.2.2.2.2.2.2.1 bt289.2.2.2.2.2.2.2.2.2.2.2.1 bt289.2.2.2.2.2.2.2.2.2.2.2.2.1 bt289.2.2.2.2.2.2.2.2.2.2.2.2.2.1 bt289.2.2.2.2.2.2.2.2.2.2.2.2.2.2.1)) else (crosswaylaw20_awake.j0 k t282 bt287.2 bt289.2.2.2.2.2.2.2.2.2.2.2.2.2.2.2 bt306.1 bt311.2 bt313.2 bt315.1 bt315.2.1 bt315.2.2 true bt289.1 bt289.2.1 bt289.2.2.1 bt289.2.2.2.1 bt289.2.2.2.2.1 bt289.2.2.2.2.2.1 bt289.2.2.2.2.2.2.1 bt289.2.2.2.2.2.2.2.1 bt289.2.2.2.2.2.2.2.2.1 bt289.2.2.2.2.2.2.2.2.2.1 bt289.2.2.2.2.2.2.2.2.2.2.1 bt289.2.2.2.2.2.2.2.2.2.2.2.1 bt289.2.2.2.2.2.2.2.2.2.2.2.2.1 bt289.2.2.2.2.2.2.2.2.2.2.2.2.2.1 bt289.2.2.2.2.2.2.2.2.2.2.2.2.2.2.1))))))))) = some r := H
 have A4 := Aside0.mk A40
 clear A40
 replace H := Option.bind_eq_some_iff.mp H
 obtain ⟨⟨t287, t288⟩, A50, H⟩ := H
 replace H : ((ip4_Take.f k t287).bind fun bt289 => ((ip4_Lay.f k 0 0 false false 1 9 17 t275 t276 t277 t278 t279 t280 (⟨#[]⟩ : ByteArray) (⟨#[49, 50, 51, 52, 53, 54, 55, 56, 57, 48, 49, 50]⟩ : ByteArray)).bind fun bt306 => ((crosswaylaw20_ten.f 9).bind fun bt308 => ((excuse_Of.f k 1 bt306.1 bt308.1 bt308.2.1 bt308.2.2 5).bind fun bt311 => ((excuse_Of.f k 1 t282 true 0 1 5).bind fun bt313 => ((excuse_Kind.f 4 true).bind fun bt315 => (if (t282.size : Int) = 32 then (if (t287.size : Int) = 56 then (crosswaylaw20_awake.j0 k t282 t288 bt289.2.2.2.2.2.2.2.2.2.2.2.2.2.2.2 bt306.1 bt311.2 bt313.2 bt315.1 bt315.2.1 bt315.2.2 ((bt289.2.2.2.2.2.2.2.2.2.2.2.2.2.2.1.size : Int) != 36) bt289.1 bt289.2.1 bt289.2.2.1 bt289.2.2.2.1 bt289.2.2.2.2.1 bt289.2.2.2.2.2.1 bt289.2.2.2.2.2.2.1 bt289.2.2.2.2.2.2.2.1 bt289.2.2.2.2.2.2.2.2.1 bt289.2.2.2.2.2.2.2.2.2.1 bt289.2.2.2.2.2.2.2.2.2.2.1 bt289.2.2.2.2.2.2.2.2.2.2.2.1 bt289.2.2.2.2.2.2.2.2.2.2.2.2.1 bt289.2.2.2.2.2.2.2.2.2.2.2.2.2.1 bt289.2.2.2.2.2.2.2.2.2.2.2.2.2.2.1) else (crosswaylaw20_awake.j0 k t282 t288 bt289.2.2.2.2.2.2.2.2.2.2.2.2.2.2.2 bt306.1 bt311.2 bt313.2 bt315.1 bt315.2.1 bt315.2.2 true bt289.1 bt289.2.1 bt289.2.2.1 bt289.2.2.2.1 bt289.2.2.2.2.1 bt289.2.2.2.2.2.1 bt289.2.2.2.2.2.2.1 bt289.2.2.2.2.2.2.2.1 bt289.2.2.2.2.2.2.2.2.1 bt289.2.2.2.2.2.2.2.2.2.1 bt289.2.2.2.2.2.2.2.2.2.2.1 bt289.2.2.2.2.2.2.2.2.2.2.2.1 bt289.2.2.2.2.2.2.2.2.2.2.2.2.1 bt289.2.2.2.2.2.2.2.2.2.2.2.2.2.1 bt289.2.2.2.2.2.2.2.2.2.2.2.2.2.2.1)) else (crosswaylaw20_awake.j0 k t282 t288 bt289.2.2.2.2.2.2.2.2.2.2.2.2.2.2.2 bt306.1 bt311.2 bt313.2 bt315.1 bt315.2.1 bt315.2.2 true bt289.1 bt289.2.1 bt289.2.2.1 bt289.2.2.2.1 bt289.2.2.2.2.1 bt289.2.2.2.2.2.1 bt289.2.2.2.2.2.2.1 bt289.2.2.2.2.2.2.2.1 bt289.2.2.2.2.2.2.2.2.1 bt289.2.2.2.2.2.2.2.2.2.1 bt289.2.2.2.2.2.2.2.2.2.2.1 bt289.2.2.2.2.2.2.2.2.2.2.2.1 bt289.2.2.2.2.2.2.2.2.2.2.2.2.1 bt289.2.2.2.2.2.2.2.2.2.2.2.2.2.1 bt289.2.2.2.2.2.2.2.2.2.2.2.2.2.2.1)))))))) = some r := H
 have A5 := Aside0.mk A50
 clear A50
 replace H := Option.bind_eq_some_iff.mp H
 obtain ⟨⟨t289, t290, t291, t292, t293, t294, t295, t296, t297, t298, t299, t300, t301, t302, t303, t304⟩, A60, H⟩ := H
 replace H : ((ip4_Lay.f k 0 0 false false 1 9 17 t275 t276 t277 t278 t279 t280 (⟨#[]⟩ : ByteArray) (⟨#[49, 50, 51, 52, 53, 54, 55, 56, 57, 48, 49, 50]⟩ : ByteArray)).bind fun bt306 => ((crosswaylaw20_ten.f 9).bind fun bt308 => ((excuse_Of.f k 1 bt306.1 bt308.1 bt308.2.1 bt308.2.2 5).bind fun bt311 => ((excuse_Of.f k 1 t282 true 0 1 5).bind fun bt313 => ((excuse_Kind.f 4 true).bind fun bt315 => (if (t282.size : Int) = 32 then (if (t287.size : Int) = 56 then (crosswaylaw20_awake.j0 k t282 t288 t304 bt306.1 bt311.2 bt313.2 bt315.1 bt315.2.1 bt315.2.2 ((t303.size : Int) != 36) t289 t290 t291 t292 t293 t294 t295 t296 t297 t298 t299 t300 t301 t302 t303) else (crosswaylaw20_awake.j0 k t282 t288 t304 bt306.1 bt311.2 bt313.2 bt315.1 bt315.2.1 bt315.2.2 true t289 t290 t291 t292 t293 t294 t295 t296 t297 t298 t299 t300 t301 t302 t303)) else (crosswaylaw20_awake.j0 k t282 t288 t304 bt306.1 bt311.2 bt313.2 bt315.1 bt315.2.1 bt315.2.2 true t289 t290 t291 t292 t293 t294 t295 t296 t297 t298 t299 t300 t301 t302 t303))))))) = some r := H
 have A6 := Aside0.mk A60
 clear A60
 replace H := Option.bind_eq_some_iff.mp H
 obtain ⟨⟨t306, t307⟩, A70, H⟩ := H
 replace H : ((crosswaylaw20_ten.f 9).bind fun bt308 => ((excuse_Of.f k 1 t306 bt308.1 bt308.2.1 bt308.2.2 5).bind fun bt311 => ((excuse_Of.f k 1 t282 true 0 1 5).bind fun bt313 => ((excuse_Kind.f 4 true).bind fun bt315 => (if (t282.size : Int) = 32 then (if (t287.size : Int) = 56 then (crosswaylaw20_awake.j0 k t282 t288 t304 t306 bt311.2 bt313.2 bt315.1 bt315.2.1 bt315.2.2 ((t303.size : Int) != 36) t289 t290 t291 t292 t293 t294 t295 t296 t297 t298 t299 t300 t301 t302 t303) else (crosswaylaw20_awake.j0 k t282 t288 t304 t306 bt311.2 bt313.2 bt315.1 bt315.2.1 bt315.2.2 true t289 t290 t291 t292 t293 t294 t295 t296 t297 t298 t299 t300 t301 t302 t303)) else (crosswaylaw20_awake.j0 k t282 t288 t304 t306 bt311.2 bt313.2 bt315.1 bt315.2.1 bt315.2.2 true t289 t290 t291 t292 t293 t294 t295 t296 t297 t298 t299 t300 t301 t302 t303)))))) = some r := H
 have A7 := Aside0.mk A70
 clear A70
 replace H := Option.bind_eq_some_iff.mp H
 obtain ⟨⟨t308, t309, t310⟩, A80, H⟩ := H
 replace H : ((excuse_Of.f k 1 t306 t308 t309 t310 5).bind fun bt311 => ((excuse_Of.f k 1 t282 true 0 1 5).bind fun bt313 => ((excuse_Kind.f 4 true).bind fun bt315 => (if (t282.size : Int) = 32 then (if (t287.size : Int) = 56 then (crosswaylaw20_awake.j0 k t282 t288 t304 t306 bt311.2 bt313.2 bt315.1 bt315.2.1 bt315.2.2 ((t303.size : Int) != 36) t289 t290 t291 t292 t293 t294 t295 t296 t297 t298 t299 t300 t301 t302 t303) else (crosswaylaw20_awake.j0 k t282 t288 t304 t306 bt311.2 bt313.2 bt315.1 bt315.2.1 bt315.2.2 true t289 t290 t291 t292 t293 t294 t295 t296 t297 t298 t299 t300 t301 t302 t303)) else (crosswaylaw20_awake.j0 k t282 t288 t304 t306 bt311.2 bt313.2 bt315.1 bt315.2.1 bt315.2.2 true t289 t290 t291 t292 t293 t294 t295 t296 t297 t298 t299 t300 t301 t302 t303))))) = some r := H
 have A8 := Aside0.mk A80
 clear A80
 replace H := Option.bind_eq_some_iff.mp H
 obtain ⟨⟨t311, t312⟩, A90, H⟩ := H
 replace H : ((excuse_Of.f k 1 t282 true 0 1 5).bind fun bt313 => ((excuse_Kind.f 4 true).bind fun bt315 => (if (t282.size : Int) = 32 then (if (t287.size : Int) = 56 then (crosswaylaw20_awake.j0 k t282 t288 t304 t306 t312 bt313.2 bt315.1 bt315.2.1 bt315.2.2 ((t303.size : Int) != 36) t289 t290 t291 t292 t293 t294 t295 t296 t297 t298 t299 t300 t301 t302 t303) else (crosswaylaw20_awake.j0 k t282 t288 t304 t306 t312 bt313.2 bt315.1 bt315.2.1 bt315.2.2 true t289 t290 t291 t292 t293 t294 t295 t296 t297 t298 t299 t300 t301 t302 t303)) else (crosswaylaw20_awake.j0 k t282 t288 t304 t306 t312 bt313.2 bt315.1 bt315.2.1 bt315.2.2 true t289 t290 t291 t292 t293 t294 t295 t296 t297 t298 t299 t300 t301 t302 t303)))) = some r := H
 have A9 := Aside0.mk A90
 clear A90
 replace H := Option.bind_eq_some_iff.mp H
 obtain ⟨⟨t313, t314⟩, A100, H⟩ := H
 replace H : ((excuse_Kind.f 4 true).bind fun bt315 => (if (t282.size : Int) = 32 then (if (t287.size : Int) = 56 then (crosswaylaw20_awake.j0 k t282 t288 t304 t306 t312 t314 bt315.1 bt315.2.1 bt315.2.2 ((t303.size : Int) != 36) t289 t290 t291 t292 t293 t294 t295 t296 t297 t298 t299 t300 t301 t302 t303) else (crosswaylaw20_awake.j0 k t282 t288 t304 t306 t312 t314 bt315.1 bt315.2.1 bt315.2.2 true t289 t290 t291 t292 t293 t294 t295 t296 t297 t298 t299 t300 t301 t302 t303)) else (crosswaylaw20_awake.j0 k t282 t288 t304 t306 t312 t314 bt315.1 bt315.2.1 bt315.2.2 true t289 t290 t291 t292 t293 t294 t295 t296 t297 t298 t299 t300 t301 t302 t303))) = some r := H
 have A10 := Aside0.mk A100
 clear A100
 replace H := Option.bind_eq_some_iff.mp H
 obtain ⟨⟨t315, t316, t317⟩, A110, H⟩ := H
 replace H : (if (t282.size : Int) = 32 then (if (t287.size : Int) = 56 then (crosswaylaw20_awake.j0 k t282 t288 t304 t306 t312 t314 t315 t316 t317 ((t303.size : Int) != 36) t289 t290 t291 t292 t293 t294 t295 t296 t297 t298 t299 t300 t301 t302 t303) else (crosswaylaw20_awake.j0 k t282 t288 t304 t306 t312 t314 t315 t316 t317 true t289 t290 t291 t292 t293 t294 t295 t296 t297 t298 t299 t300 t301 t302 t303)) else (crosswaylaw20_awake.j0 k t282 t288 t304 t306 t312 t314 t315 t316 t317 true t289 t290 t291 t292 t293 t294 t295 t296 t297 t298 t299 t300 t301 t302 t303)) = some r := H
 have A11 := Aside0.mk A110
 clear A110
 have HC12 := Aside0.mk H
 clear H
 go_enter Tryd.func9, Tryd.ntmps9
 go_upto_region 10 with (first | ((with_reducible refine gate_callee (f := 16) rfl ?_); refine sh_C 18 Tryd.func16 #[.int .u64 1] ?_; (with_reducible refine (crosswaylaw20_ten.calls 1 t275 t276 t277 _ A1.out).mono ?_); rintro e w13 ⟨rfl, hb⟩; refine ⟨_, rfl, ?_⟩; replace HB := sh_S HB hb; (try clear hb); (try clear hb2); (try clear hk); (try clear hi)) | ((with_reducible refine gate_callee (f := 16) rfl ?_); refine sh_C 19 Tryd.func16 #[.int .u64 2] ?_; (with_reducible refine (crosswaylaw20_ten.calls 2 t278 t279 t280 _ A2.out).mono ?_); rintro e w14 ⟨rfl, hb⟩; refine ⟨_, rfl, ?_⟩; replace HB := sh_S HB hb; (try clear hb); (try clear hb2); (try clear hk); (try clear hi)) | ((with_reducible refine gate_dst (N := 1) rfl ?_); (try (refine gate_guard (by rfl) ?_; dsimp only)); refine sh_E 1 37 #[.int .i64 0, .int .i64 0, .bool false, .bool false, .int .i64 0, .int .i64 0, .int .i64 0, .bool false, .int .u64 0, .int .u64 0, .bool false, .int .u64 0, .int .u64 0, .string (⟨#[]⟩ : ByteArray), .string (⟨#[]⟩ : ByteArray)] ?_; intro gb281 hg w15 hbox hb; have BK281 := Aside0.mk hbox; have GW281 := sh_G HB hg; have GE281 := GW281; replace HB := sh_S HB hb; clear hb hbox hg; obtain ⟨hcz16_0, hcz16_1, hcz16_2, hcz16_3, hcz16_4, hcz16_5, hcz16_6, hcz16_7, hcz16_8, hcz16_9, hcz16_10, hcz16_11, hcz16_12, hcz16_13, hcz16_14⟩ := MBlk.c15 BK281.out; obtain ⟨hfz16_0, hfz16_1, hfz16_2, hfz16_3, hfz16_4, hfz16_5, hfz16_6, hfz16_7, hfz16_8, hfz16_9, hfz16_10, hfz16_11, hfz16_12, hfz16_13, hfz16_14⟩ := MBlk.f15 BK281.out) | ((with_reducible refine gate_callee (f := 17) rfl ?_); refine sh_C 23 Tryd.func17 #[.agg #[.int .i64 0, .int .i64 0, .bool false, .bool false, .int .i64 0, .int .i64 9, .int .i64 17, .bool t275, .int .u64 t276, .int .u64 t277, .bool t278, .int .u64 t279, .int .u64 t280, .string (⟨#[]⟩ : ByteArray), .string (⟨#[49, 50, 51, 52, 53, 54, 55, 56, 57, 48, 49, 50]⟩ : ByteArray)]] ?_; (with_reducible refine (ip4_Lay.calls k 0 0 false false 0 9 17 t275 t276 t277 t278 t279 t280 (⟨#[]⟩ : ByteArray) (⟨#[49, 50, 51, 52, 53, 54, 55, 56, 57, 48, 49, 50]⟩ : ByteArray) t282 t283 _ A3.out).mono ?_); rintro e w17 ⟨rfl, hb⟩; refine ⟨_, rfl, ?_⟩; have n0_ := Aside0.mk (blk_below (g := gb281) (o := .cells #[.int .i64 0, .int .i64 0, .bool false, .bool false, .int .i64 0, .int .i64 9, .int .i64 17, .bool t275, .int .u64 t276, .int .u64 t277, .bool t278, .int .u64 t279, .int .u64 t280, .string (⟨#[]⟩ : ByteArray), .string (⟨#[49, 50, 51, 52, 53, 54, 55, 56, 57, 48, 49, 50]⟩ : ByteArray)] 37 (0, 0)) (by (with_reducible repeat (first | refine blk_drewN ?_ _ | refine blk_drew ?_ | refine blk_alloc ?_ _)); refine blk_put (cs := #[.int .i64 0, .int .i64 0, .bool false, .bool false, .int .i64 0, .int .i64 9, .int .i64 17, .bool t275, .int .u64 t276, .int .u64 t277, .bool t278, .int .u64 t279, .int .u64 t280, .string (⟨#[]⟩ : ByteArray), .string (⟨#[]⟩ : ByteArray)]) ?_ 14 _ rfl; (with_reducible repeat (first | refine blk_drewN ?_ _ | refine blk_drew ?_ | refine blk_alloc ?_ _)); refine blk_put (cs := #[.int .i64 0, .int .i64 0, .bool false, .bool false, .int .i64 0, .int .i64 9, .int .i64 17, .bool t275, .int .u64 t276, .int .u64 t277, .bool t278, .int .u64 t279, .int .u64 t280, .string (⟨#[]⟩ : ByteArray), .string (⟨#[]⟩ : ByteArray)]) ?_ 13 _ rfl; (with_reducible repeat (first | refine blk_drewN ?_ _ | refine blk_drew ?_ | refine blk_alloc ?_ _)); refine blk_put (cs := #[.int .i64 0, .int .i64 0, .bool false, .bool false, .int .i64 0, .int .i64 9, .int .i64 17, .bool t275, .int .u64 t276, .int .u64 t277, .bool t278, .int .u64 t279, .int .u64 0, .string (⟨#[]⟩ : ByteArray), .string (⟨#[]⟩ : ByteArray)]) ?_ 12 _ rfl; (with_reducible repeat (first | refine blk_drewN ?_ _ | refine blk_drew ?_ | refine blk_alloc ?_ _)); refine blk_put (cs := #[.int .i64 0, .int .i64 0, .bool false, .bool false, .int .i64 0, .int .i64 9, .int .i64 17, .bool t275, .int .u64 t276, .int .u64 t277, .bool t278, .int .u64 0, .int .u64 0, .string (⟨#[]⟩ : ByteArray), .string (⟨#[]⟩ : ByteArray)]) ?_ 11 _ rfl; (with_reducible repeat (first | refine blk_drewN ?_ _ | refine blk_drew ?_ | refine blk_alloc ?_ _)); refine blk_put (cs := #[.int .i64 0, .int .i64 0, .bool false, .bool false, .int .i64 0, .int .i64 9, .int .i64 17, .bool t275, .int .u64 t276, .int .u64 t277, .bool false, .int .u64 0, .int .u64 0, .string (⟨#[]⟩ : ByteArray), .string (⟨#[]⟩ : ByteArray)]) ?_ 10 _ rfl; (with_reducible repeat (first | refine blk_drewN ?_ _ | refine blk_drew ?_ | refine blk_alloc ?_ _)); refine blk_put (cs := #[.int .i64 0, .int .i64 0, .bool false, .bool false, .int .i64 0, .int .i64 9, .int .i64 17, .bool t275, .int .u64 t276, .int .u64 0, .bool false, .int .u64 0, .int .u64 0, .string (⟨#[]⟩ : ByteArray), .string (⟨#[]⟩ : ByteArray)]) ?_ 9 _ rfl; (with_reducible repeat (first | refine blk_drewN ?_ _ | refine blk_drew ?_ | refine blk_alloc ?_ _)); refine blk_put (cs := #[.int .i64 0, .int .i64 0, .bool false, .bool false, .int .i64 0, .int .i64 9, .int .i64 17, .bool t275, .int .u64 0, .int .u64 0, .bool false, .int .u64 0, .int .u64 0, .string (⟨#[]⟩ : ByteArray), .string (⟨#[]⟩ : ByteArray)]) ?_ 8 _ rfl; (with_reducible repeat (first | refine blk_drewN ?_ _ | refine blk_drew ?_ | refine blk_alloc ?_ _)); refine blk_put (cs := #[.int .i64 0, .int .i64 0, .bool false, .bool false, .int .i64 0, .int .i64 9, .int .i64 17, .bool false, .int .u64 0, .int .u64 0, .bool false, .int .u64 0, .int .u64 0, .string (⟨#[]⟩ : ByteArray), .string (⟨#[]⟩ : ByteArray)]) ?_ 7 _ rfl; (with_reducible repeat (first | refine blk_drewN ?_ _ | refine blk_drew ?_ | refine blk_alloc ?_ _)); refine blk_put (cs := #[.int .i64 0, .int .i64 0, .bool false, .bool false, .int .i64 0, .int .i64 9, .int .i64 0, .bool false, .int .u64 0, .int .u64 0, .bool false, .int .u64 0, .int .u64 0, .string (⟨#[]⟩ : ByteArray), .string (⟨#[]⟩ : ByteArray)]) ?_ 6 _ rfl; (with_reducible repeat (first | refine blk_drewN ?_ _ | refine blk_drew ?_ | refine blk_alloc ?_ _)); refine blk_put (cs := #[.int .i64 0, .int .i64 0, .bool false, .bool false, .int .i64 0, .int .i64 0, .int .i64 0, .bool false, .int .u64 0, .int .u64 0, .bool false, .int .u64 0, .int .u64 0, .string (⟨#[]⟩ : ByteArray), .string (⟨#[]⟩ : ByteArray)]) ?_ 5 _ rfl; (with_reducible repeat (first | refine blk_drewN ?_ _ | refine blk_drew ?_ | refine blk_alloc ?_ _)); refine blk_put (cs := #[.int .i64 0, .int .i64 0, .bool false, .bool false, .int .i64 0, .int .i64 0, .int .i64 0, .bool false, .int .u64 0, .int .u64 0, .bool false, .int .u64 0, .int .u64 0, .string (⟨#[]⟩ : ByteArray), .string (⟨#[]⟩ : ByteArray)]) ?_ 4 _ rfl; (with_reducible repeat (first | refine blk_drewN ?_ _ | refine blk_drew ?_ | refine blk_alloc ?_ _)); refine blk_put (cs := #[.int .i64 0, .int .i64 0, .bool false, .bool false, .int .i64 0, .int .i64 0, .int .i64 0, .bool false, .int .u64 0, .int .u64 0, .bool false, .int .u64 0, .int .u64 0, .string (⟨#[]⟩ : ByteArray), .string (⟨#[]⟩ : ByteArray)]) ?_ 3 _ rfl; (with_reducible repeat (first | refine blk_drewN ?_ _ | refine blk_drew ?_ | refine blk_alloc ?_ _)); refine blk_put (cs := #[.int .i64 0, .int .i64 0, .bool false, .bool false, .int .i64 0, .int .i64 0, .int .i64 0, .bool false, .int .u64 0, .int .u64 0, .bool false, .int .u64 0, .int .u64 0, .string (⟨#[]⟩ : ByteArray), .string (⟨#[]⟩ : ByteArray)]) ?_ 2 _ rfl; (with_reducible repeat (first | refine blk_drewN ?_ _ | refine blk_drew ?_ | refine blk_alloc ?_ _)); refine blk_put (cs := #[.int .i64 0, .int .i64 0, .bool false, .bool false, .int .i64 0, .int .i64 0, .int .i64 0, .bool false, .int .u64 0, .int .u64 0, .bool false, .int .u64 0, .int .u64 0, .string (⟨#[]⟩ : ByteArray), .string (⟨#[]⟩ : ByteArray)]) ?_ 1 _ rfl; (with_reducible repeat (first | refine blk_drewN ?_ _ | refine blk_drew ?_ | refine blk_alloc ?_ _)); refine blk_put (cs := #[.int .i64 0, .int .i64 0, .bool false, .bool false, .int .i64 0, .int .i64 0, .int .i64 0, .bool false, .int .u64 0, .int .u64 0, .bool false, .int .u64 0, .int .u64 0, .string (⟨#[]⟩ : ByteArray), .string (⟨#[]⟩ : ByteArray)]) ?_ 0 _ rfl; (with_reducible repeat (first | refine blk_drewN ?_ _ | refine blk_drew ?_ | refine blk_alloc ?_ _)); exact BK281.out) hb); have n1_ := sh_S HB hb; clear BK281; clear HB; have BK281 := n0_; have HB := n1_; clear n0_ n1_; (try clear hb); (try clear hb2); (try clear hk); (try clear hi)) | ((with_reducible refine gate_callee (f := 16) rfl ?_); refine sh_C 28 Tryd.func16 #[.int .u64 9] ?_; (with_reducible refine (crosswaylaw20_ten.calls 9 t284 t285 t286 _ A4.out).mono ?_); rintro e w18 ⟨rfl, hb⟩; refine ⟨_, rfl, ?_⟩; replace BK281 := sh_L BK281 hb; replace HB := sh_S HB hb; (try clear hb); (try clear hb2); (try clear hk); (try clear hi)) | ((with_reducible refine gate_callee (f := 12) rfl ?_); refine sh_C 29 Tryd.func12 #[.int .i64 1, .string t282, .agg #[.bool t284, .int .u64 t285, .int .u64 t286], .int .i64 5] ?_; (with_reducible refine Calls.mono (excuse_Of.calls k 1 t282 t284 t285 t286 5 t287 t288 _ A5.out ?hgl_) ?_); (case hgl_ => exact excuse_Glob_below HGL.out (sh_B HB)); rintro e w19 ⟨rfl, hb⟩; refine ⟨_, rfl, ?_⟩; replace BK281 := sh_L BK281 hb; replace HB := sh_S HB hb; (try clear hb); (try clear hb2); (try clear hk); (try clear hi)) | ((with_reducible refine gate_callee (f := 20) rfl ?_); refine sh_C 34 Tryd.func20 #[.string t287] ?_; (with_reducible refine (ip4_Take.calls k t287 t289 t290 t291 t292 t293 t294 t295 t296 t297 t298 t299 t300 t301 t302 t303 t304 _ A6.out).mono ?_); rintro e w20 ⟨rfl, hb⟩; refine ⟨_, rfl, ?_⟩; replace BK281 := sh_L BK281 hb; replace HB := sh_S HB hb; (try clear hb); (try clear hb2); (try clear hk); (try clear hi)) | ((with_reducible refine gate_dst (N := 6) rfl ?_); (try (refine gate_guard (by rfl) ?_; dsimp only)); refine sh_E 6 37 #[.int .i64 0, .int .i64 0, .bool false, .bool false, .int .i64 0, .int .i64 0, .int .i64 0, .bool false, .int .u64 0, .int .u64 0, .bool false, .int .u64 0, .int .u64 0, .string (⟨#[]⟩ : ByteArray), .string (⟨#[]⟩ : ByteArray)] ?_; intro gb305 hg w21 hbox hb; have BK305 := Aside0.mk hbox; have GW305 := sh_G HB hg; have GE305 := GW305; replace HB := sh_S HB hb; have NB281_305 := sh_N BK281 hg; have NB305_281 := sh_M BK281 hg; replace BK281 := sh_L BK281 hb; clear hb hbox hg; have hnb22 := NB305_281.out; have hnc22 := NB281_305.out; obtain ⟨hcz23_0, hcz23_1, hcz23_2, hcz23_3, hcz23_4, hcz23_5, hcz23_6, hcz23_7, hcz23_8, hcz23_9, hcz23_10, hcz23_11, hcz23_12, hcz23_13, hcz23_14⟩ := MBlk.c15 BK305.out; obtain ⟨hfz23_0, hfz23_1, hfz23_2, hfz23_3, hfz23_4, hfz23_5, hfz23_6, hfz23_7, hfz23_8, hfz23_9, hfz23_10, hfz23_11, hfz23_12, hfz23_13, hfz23_14⟩ := MBlk.f15 BK305.out; obtain ⟨hcz24_0, hcz24_1, hcz24_2, hcz24_3, hcz24_4, hcz24_5, hcz24_6, hcz24_7, hcz24_8, hcz24_9, hcz24_10, hcz24_11, hcz24_12, hcz24_13, hcz24_14⟩ := MBlk.c15 BK281.out; obtain ⟨hfz24_0, hfz24_1, hfz24_2, hfz24_3, hfz24_4, hfz24_5, hfz24_6, hfz24_7, hfz24_8, hfz24_9, hfz24_10, hfz24_11, hfz24_12, hfz24_13, hfz24_14⟩ := MBlk.f15 BK281.out) | ((with_reducible refine gate_callee (f := 17) rfl ?_); refine sh_C 40 Tryd.func17 #[.agg #[.int .i64 0, .int .i64 0, .bool false, .bool false, .int .i64 1, .int .i64 9, .int .i64 17, .bool t275, .int .u64 t276, .int .u64 t277, .bool t278, .int .u64 t279, .int .u64 t280, .string (⟨#[]⟩ : ByteArray), .string (⟨#[49, 50, 51, 52, 53, 54, 55, 56, 57, 48, 49, 50]⟩ : ByteArray)]] ?_; (with_reducible refine (ip4_Lay.calls k 0 0 false false 1 9 17 t275 t276 t277 t278 t279 t280 (⟨#[]⟩ : ByteArray) (⟨#[49, 50, 51, 52, 53, 54, 55, 56, 57, 48, 49, 50]⟩ : ByteArray) t306 t307 _ A7.out).mono ?_); rintro e w25 ⟨rfl, hb⟩; refine ⟨_, rfl, ?_⟩; have n0_ := Aside0.mk (blk_below (g := gb281) (o := .cells #[.int .i64 0, .int .i64 0, .bool false, .bool false, .int .i64 1, .int .i64 9, .int .i64 17, .bool t275, .int .u64 t276, .int .u64 t277, .bool t278, .int .u64 t279, .int .u64 t280, .string (⟨#[]⟩ : ByteArray), .string (⟨#[49, 50, 51, 52, 53, 54, 55, 56, 57, 48, 49, 50]⟩ : ByteArray)] 37 (0, 0)) (by (with_reducible repeat (first | refine blk_drewN ?_ _ | refine blk_drew ?_ | refine blk_alloc ?_ _)); refine blk_put (cs := #[.int .i64 0, .int .i64 0, .bool false, .bool false, .int .i64 0, .int .i64 9, .int .i64 17, .bool t275, .int .u64 t276, .int .u64 t277, .bool t278, .int .u64 t279, .int .u64 t280, .string (⟨#[]⟩ : ByteArray), .string (⟨#[49, 50, 51, 52, 53, 54, 55, 56, 57, 48, 49, 50]⟩ : ByteArray)]) ?_ 4 _ rfl; (with_reducible repeat (first | refine blk_drewN ?_ _ | refine blk_drew ?_ | refine blk_alloc ?_ _)); refine blk_far ?_ NB281_305.out _; (with_reducible repeat (first | refine blk_drewN ?_ _ | refine blk_drew ?_ | refine blk_alloc ?_ _)); refine blk_far ?_ NB281_305.out _; (with_reducible repeat (first | refine blk_drewN ?_ _ | refine blk_drew ?_ | refine blk_alloc ?_ _)); refine blk_far ?_ NB281_305.out _; (with_reducible repeat (first | refine blk_drewN ?_ _ | refine blk_drew ?_ | refine blk_alloc ?_ _)); refine blk_far ?_ NB281_305.out _; (with_reducible repeat (first | refine blk_drewN ?_ _ | refine blk_drew ?_ | refine blk_alloc ?_ _)); refine blk_far ?_ NB281_305.out _; (with_reducible repeat (first | refine blk_drewN ?_ _ | refine blk_drew ?_ | refine blk_alloc ?_ _)); refine blk_far ?_ NB281_305.out _; (with_reducible repeat (first | refine blk_drewN ?_ _ | refine blk_drew ?_ | refine blk_alloc ?_ _)); refine blk_far ?_ NB281_305.out _; (with_reducible repeat (first | refine blk_drewN ?_ _ | refine blk_drew ?_ | refine blk_alloc ?_ _)); refine blk_far ?_ NB281_305.out _; (with_reducible repeat (first | refine blk_drewN ?_ _ | refine blk_drew ?_ | refine blk_alloc ?_ _)); refine blk_far ?_ NB281_305.out _; (with_reducible repeat (first | refine blk_drewN ?_ _ | refine blk_drew ?_ | refine blk_alloc ?_ _)); refine blk_far ?_ NB281_305.out _; (with_reducible repeat (first | refine blk_drewN ?_ _ | refine blk_drew ?_ | refine blk_alloc ?_ _)); refine blk_far ?_ NB281_305.out _; (with_reducible repeat (first | refine blk_drewN ?_ _ | refine blk_drew ?_ | refine blk_alloc ?_ _)); refine blk_far ?_ NB281_305.out _; (with_reducible repeat (first | refine blk_drewN ?_ _ | refine blk_drew ?_ | refine blk_alloc ?_ _)); refine blk_far ?_ NB281_305.out _; (with_reducible repeat (first | refine blk_drewN ?_ _ | refine blk_drew ?_ | refine blk_alloc ?_ _)); refine blk_far ?_ NB281_305.out _; (with_reducible repeat (first | refine blk_drewN ?_ _ | refine blk_drew ?_ | refine blk_alloc ?_ _)); refine blk_far ?_ NB281_305.out _; (with_reducible repeat (first | refine blk_drewN ?_ _ | refine blk_drew ?_ | refine blk_alloc ?_ _)); exact BK281.out) hb); have n1_ := Aside0.mk (blk_below (g := gb305) (o := .cells #[.int .i64 t289, .int .i64 t290, .bool t291, .bool t292, .int .i64 t293, .int .i64 t294, .int .i64 t295, .bool t296, .int .u64 t297, .int .u64 t298, .bool t299, .int .u64 t300, .int .u64 t301, .string t302, .string t303] 37 (0, 0)) (by (with_reducible repeat (first | refine blk_drewN ?_ _ | refine blk_drew ?_ | refine blk_alloc ?_ _)); refine blk_far ?_ NB305_281.out _; (with_reducible repeat (first | refine blk_drewN ?_ _ | refine blk_drew ?_ | refine blk_alloc ?_ _)); refine blk_put (cs := #[.int .i64 t289, .int .i64 t290, .bool t291, .bool t292, .int .i64 t293, .int .i64 t294, .int .i64 t295, .bool t296, .int .u64 t297, .int .u64 t298, .bool t299, .int .u64 t300, .int .u64 t301, .string t302, .string (⟨#[]⟩ : ByteArray)]) ?_ 14 _ rfl; (with_reducible repeat (first | refine blk_drewN ?_ _ | refine blk_drew ?_ | refine blk_alloc ?_ _)); refine blk_put (cs := #[.int .i64 t289, .int .i64 t290, .bool t291, .bool t292, .int .i64 t293, .int .i64 t294, .int .i64 t295, .bool t296, .int .u64 t297, .int .u64 t298, .bool t299, .int .u64 t300, .int .u64 t301, .string (⟨#[]⟩ : ByteArray), .string (⟨#[]⟩ : ByteArray)]) ?_ 13 _ rfl; (with_reducible repeat (first | refine blk_drewN ?_ _ | refine blk_drew ?_ | refine blk_alloc ?_ _)); refine blk_put (cs := #[.int .i64 t289, .int .i64 t290, .bool t291, .bool t292, .int .i64 t293, .int .i64 t294, .int .i64 t295, .bool t296, .int .u64 t297, .int .u64 t298, .bool t299, .int .u64 t300, .int .u64 0, .string (⟨#[]⟩ : ByteArray), .string (⟨#[]⟩ : ByteArray)]) ?_ 12 _ rfl; (with_reducible repeat (first | refine blk_drewN ?_ _ | refine blk_drew ?_ | refine blk_alloc ?_ _)); refine blk_put (cs := #[.int .i64 t289, .int .i64 t290, .bool t291, .bool t292, .int .i64 t293, .int .i64 t294, .int .i64 t295, .bool t296, .int .u64 t297, .int .u64 t298, .bool t299, .int .u64 0, .int .u64 0, .string (⟨#[]⟩ : ByteArray), .string (⟨#[]⟩ : ByteArray)]) ?_ 11 _ rfl; (with_reducible repeat (first | refine blk_drewN ?_ _ | refine blk_drew ?_ | refine blk_alloc ?_ _)); refine blk_put (cs := #[.int .i64 t289, .int .i64 t290, .bool t291, .bool t292, .int .i64 t293, .int .i64 t294, .int .i64 t295, .bool t296, .int .u64 t297, .int .u64 t298, .bool false, .int .u64 0, .int .u64 0, .string (⟨#[]⟩ : ByteArray), .string (⟨#[]⟩ : ByteArray)]) ?_ 10 _ rfl; (with_reducible repeat (first | refine blk_drewN ?_ _ | refine blk_drew ?_ | refine blk_alloc ?_ _)); refine blk_put (cs := #[.int .i64 t289, .int .i64 t290, .bool t291, .bool t292, .int .i64 t293, .int .i64 t294, .int .i64 t295, .bool t296, .int .u64 t297, .int .u64 0, .bool false, .int .u64 0, .int .u64 0, .string (⟨#[]⟩ : ByteArray), .string (⟨#[]⟩ : ByteArray)]) ?_ 9 _ rfl; (with_reducible repeat (first | refine blk_drewN ?_ _ | refine blk_drew ?_ | refine blk_alloc ?_ _)); refine blk_put (cs := #[.int .i64 t289, .int .i64 t290, .bool t291, .bool t292, .int .i64 t293, .int .i64 t294, .int .i64 t295, .bool t296, .int .u64 0, .int .u64 0, .bool false, .int .u64 0, .int .u64 0, .string (⟨#[]⟩ : ByteArray), .string (⟨#[]⟩ : ByteArray)]) ?_ 8 _ rfl; (with_reducible repeat (first | refine blk_drewN ?_ _ | refine blk_drew ?_ | refine blk_alloc ?_ _)); refine blk_put (cs := #[.int .i64 t289, .int .i64 t290, .bool t291, .bool t292, .int .i64 t293, .int .i64 t294, .int .i64 t295, .bool false, .int .u64 0, .int .u64 0, .bool false, .int .u64 0, .int .u64 0, .string (⟨#[]⟩ : ByteArray), .string (⟨#[]⟩ : ByteArray)]) ?_ 7 _ rfl; (with_reducible repeat (first | refine blk_drewN ?_ _ | refine blk_drew ?_ | refine blk_alloc ?_ _)); refine blk_put (cs := #[.int .i64 t289, .int .i64 t290, .bool t291, .bool t292, .int .i64 t293, .int .i64 t294, .int .i64 0, .bool false, .int .u64 0, .int .u64 0, .bool false, .int .u64 0, .int .u64 0, .string (⟨#[]⟩ : ByteArray), .string (⟨#[]⟩ : ByteArray)]) ?_ 6 _ rfl; (with_reducible repeat (first | refine blk_drewN ?_ _ | refine blk_drew ?_ | refine blk_alloc ?_ _)); refine blk_put (cs := #[.int .i64 t289, .int .i64 t290, .bool t291, .bool t292, .int .i64 t293, .int .i64 0, .int .i64 0, .bool false, .int .u64 0, .int .u64 0, .bool false, .int .u64 0, .int .u64 0, .string (⟨#[]⟩ : ByteArray), .string (⟨#[]⟩ : ByteArray)]) ?_ 5 _ rfl; (with_reducible repeat (first | refine blk_drewN ?_ _ | refine blk_drew ?_ | refine blk_alloc ?_ _)); refine blk_put (cs := #[.int .i64 t289, .int .i64 t290, .bool t291, .bool t292, .int .i64 0, .int .i64 0, .int .i64 0, .bool false, .int .u64 0, .int .u64 0, .bool false, .int .u64 0, .int .u64 0, .string (⟨#[]⟩ : ByteArray), .string (⟨#[]⟩ : ByteArray)]) ?_ 4 _ rfl; (with_reducible repeat (first | refine blk_drewN ?_ _ | refine blk_drew ?_ | refine blk_alloc ?_ _)); refine blk_put (cs := #[.int .i64 t289, .int .i64 t290, .bool t291, .bool false, .int .i64 0, .int .i64 0, .int .i64 0, .bool false, .int .u64 0, .int .u64 0, .bool false, .int .u64 0, .int .u64 0, .string (⟨#[]⟩ : ByteArray), .string (⟨#[]⟩ : ByteArray)]) ?_ 3 _ rfl; (with_reducible repeat (first | refine blk_drewN ?_ _ | refine blk_drew ?_ | refine blk_alloc ?_ _)); refine blk_put (cs := #[.int .i64 t289, .int .i64 t290, .bool false, .bool false, .int .i64 0, .int .i64 0, .int .i64 0, .bool false, .int .u64 0, .int .u64 0, .bool false, .int .u64 0, .int .u64 0, .string (⟨#[]⟩ : ByteArray), .string (⟨#[]⟩ : ByteArray)]) ?_ 2 _ rfl; (with_reducible repeat (first | refine blk_drewN ?_ _ | refine blk_drew ?_ | refine blk_alloc ?_ _)); refine blk_put (cs := #[.int .i64 t289, .int .i64 0, .bool false, .bool false, .int .i64 0, .int .i64 0, .int .i64 0, .bool false, .int .u64 0, .int .u64 0, .bool false, .int .u64 0, .int .u64 0, .string (⟨#[]⟩ : ByteArray), .string (⟨#[]⟩ : ByteArray)]) ?_ 1 _ rfl; (with_reducible repeat (first | refine blk_drewN ?_ _ | refine blk_drew ?_ | refine blk_alloc ?_ _)); refine blk_put (cs := #[.int .i64 0, .int .i64 0, .bool false, .bool false, .int .i64 0, .int .i64 0, .int .i64 0, .bool false, .int .u64 0, .int .u64 0, .bool false, .int .u64 0, .int .u64 0, .string (⟨#[]⟩ : ByteArray), .string (⟨#[]⟩ : ByteArray)]) ?_ 0 _ rfl; (with_reducible repeat (first | refine blk_drewN ?_ _ | refine blk_drew ?_ | refine blk_alloc ?_ _)); exact BK305.out) hb); have n2_ := sh_S HB hb; clear BK281; clear BK305; clear HB; have BK281 := n0_; have BK305 := n1_; have HB := n2_; clear n0_ n1_ n2_; (try clear hb); (try clear hb2); (try clear hk); (try clear hi)) | ((with_reducible refine gate_callee (f := 16) rfl ?_); refine sh_C 45 Tryd.func16 #[.int .u64 9] ?_; (with_reducible refine (crosswaylaw20_ten.calls 9 t308 t309 t310 _ A8.out).mono ?_); rintro e w26 ⟨rfl, hb⟩; refine ⟨_, rfl, ?_⟩; replace BK281 := sh_L BK281 hb; replace BK305 := sh_L BK305 hb; replace HB := sh_S HB hb; (try clear hb); (try clear hb2); (try clear hk); (try clear hi)) | ((with_reducible refine gate_callee (f := 12) rfl ?_); refine sh_C 46 Tryd.func12 #[.int .i64 1, .string t306, .agg #[.bool t308, .int .u64 t309, .int .u64 t310], .int .i64 5] ?_; (with_reducible refine Calls.mono (excuse_Of.calls k 1 t306 t308 t309 t310 5 t311 t312 _ A9.out ?hgl_) ?_); (case hgl_ => exact excuse_Glob_below HGL.out (sh_B HB)); rintro e w27 ⟨rfl, hb⟩; refine ⟨_, rfl, ?_⟩; replace BK281 := sh_L BK281 hb; replace BK305 := sh_L BK305 hb; replace HB := sh_S HB hb; (try clear hb); (try clear hb2); (try clear hk); (try clear hi)) | ((with_reducible refine gate_callee (f := 12) rfl ?_); refine sh_C 52 Tryd.func12 #[.int .i64 1, .string t282, .agg #[.bool true, .int .u64 0, .int .u64 1], .int .i64 5] ?_; (with_reducible refine Calls.mono (excuse_Of.calls k 1 t282 true 0 1 5 t313 t314 _ A10.out ?hgl_) ?_); (case hgl_ => exact excuse_Glob_below HGL.out (sh_B HB)); rintro e w28 ⟨rfl, hb⟩; refine ⟨_, rfl, ?_⟩; replace BK281 := sh_L BK281 hb; replace BK305 := sh_L BK305 hb; replace HB := sh_S HB hb; (try clear hb); (try clear hb2); (try clear hk); (try clear hi)) | ((with_reducible refine gate_callee (f := 10) rfl ?_); refine sh_C 56 Tryd.func10 #[.int .i64 4, .bool true] ?_; (with_reducible refine Calls.mono (excuse_Kind.calls 4 true t315 t316 t317 _ A11.out ?hgl_) ?_); (case hgl_ => exact excuse_Glob_below HGL.out (sh_B HB)); rintro e w29 ⟨rfl, hb⟩; refine ⟨_, rfl, ?_⟩; replace BK281 := sh_L BK281 hb; replace BK305 := sh_L BK305 hb; replace HB := sh_S HB hb; (try clear hb); (try clear hb2); (try clear hk); (try clear hi)))
 (try simp only [Act.put, List.setIfInBounds_toArray, List.set_cons_zero, List.set_cons_succ])
 go_cut [73] (fun v73 wc => ∃ (kq : Nat) (x73_11 : Bool), v73 = .bool x73_11 ∧ Aside0 (crosswaylaw20_awake.j0 kq t282 t288 t304 t306 t312 t314 t315 t316 t317 x73_11 t289 t290 t291 t292 t293 t294 t295 t296 t297 t298 t299 t300 t301 t302 t303 = some r) ∧ Aside0 (kq ≤ k) ∧ Aside0 (wc.heap[gb281]? = some (.cells #[.int .i64 0, .int .i64 0, .bool false, .bool false, .int .i64 1, .int .i64 9, .int .i64 17, .bool t275, .int .u64 t276, .int .u64 t277, .bool t278, .int .u64 t279, .int .u64 t280, .string (⟨#[]⟩ : ByteArray), .string (⟨#[49, 50, 51, 52, 53, 54, 55, 56, 57, 48, 49, 50]⟩ : ByteArray)] 37 (0, 0))) ∧ Aside0 (wc.heap[gb305]? = some (.cells #[.int .i64 t289, .int .i64 t290, .bool t291, .bool t292, .int .i64 t293, .int .i64 t294, .int .i64 t295, .bool t296, .int .u64 t297, .int .u64 t298, .bool t299, .int .u64 t300, .int .u64 t301, .string t302, .string t303] 37 (0, 0))) ∧ Aside0 (Below w.heap.size w wc))
 case first =>
  have H := HC12.out
  clear HC12
  by_cases c30 : (t282.size : Int) = 32
  ·
   rw [if_pos c30] at H
   have c30b0 : ((t282.size : Int) == 32) = true := beq_iff_eq.mpr c30
   have c30b1 : ((t282.size : Int) != 32) = false := bne_eq_false_iff_eq.mpr c30
   clear c30
   (first | rw [c30b0] | (simp only [i64_w, i32_w]; rw [c30b0]) | skip)
   by_cases c31 : (t287.size : Int) = 56
   ·
    rw [if_pos c31] at H
    have c31b0 : ((t287.size : Int) == 56) = true := beq_iff_eq.mpr c31
    have c31b1 : ((t287.size : Int) != 56) = false := bne_eq_false_iff_eq.mpr c31
    clear c31
    have H' := Aside0.mk H
    clear H
    have hnb32 := NB305_281.out
    have hnc32 := NB281_305.out
    have hcz33_0 : w29.cell? ⟨gb305, 0, none⟩ = some (.int .i64 t289) := (blk_cell BK305.out 0).trans rfl
    have hcz33_1 : w29.cell? ⟨gb305, 1, none⟩ = some (.int .i64 t290) := (blk_cell BK305.out 1).trans rfl
    have hcz33_2 : w29.cell? ⟨gb305, 2, none⟩ = some (.bool t291) := (blk_cell BK305.out 2).trans rfl
    have hcz33_3 : w29.cell? ⟨gb305, 3, none⟩ = some (.bool t292) := (blk_cell BK305.out 3).trans rfl
    have hcz33_4 : w29.cell? ⟨gb305, 4, none⟩ = some (.int .i64 t293) := (blk_cell BK305.out 4).trans rfl
    have hcz33_5 : w29.cell? ⟨gb305, 5, none⟩ = some (.int .i64 t294) := (blk_cell BK305.out 5).trans rfl
    have hcz33_6 : w29.cell? ⟨gb305, 6, none⟩ = some (.int .i64 t295) := (blk_cell BK305.out 6).trans rfl
    have hcz33_7 : w29.cell? ⟨gb305, 7, none⟩ = some (.bool t296) := (blk_cell BK305.out 7).trans rfl
    have hcz33_8 : w29.cell? ⟨gb305, 8, none⟩ = some (.int .u64 t297) := (blk_cell BK305.out 8).trans rfl
    have hcz33_9 : w29.cell? ⟨gb305, 9, none⟩ = some (.int .u64 t298) := (blk_cell BK305.out 9).trans rfl
    have hcz33_10 : w29.cell? ⟨gb305, 10, none⟩ = some (.bool t299) := (blk_cell BK305.out 10).trans rfl
    have hcz33_11 : w29.cell? ⟨gb305, 11, none⟩ = some (.int .u64 t300) := (blk_cell BK305.out 11).trans rfl
    have hcz33_12 : w29.cell? ⟨gb305, 12, none⟩ = some (.int .u64 t301) := (blk_cell BK305.out 12).trans rfl
    have hcz33_13 : w29.cell? ⟨gb305, 13, none⟩ = some (.string t302) := (blk_cell BK305.out 13).trans rfl
    have hcz33_14 : w29.cell? ⟨gb305, 14, none⟩ = some (.string t303) := (blk_cell BK305.out 14).trans rfl
    have hfz33_0 := blk_frozen BK305.out 0
    have hfz33_1 := blk_frozen BK305.out 1
    have hfz33_2 := blk_frozen BK305.out 2
    have hfz33_3 := blk_frozen BK305.out 3
    have hfz33_4 := blk_frozen BK305.out 4
    have hfz33_5 := blk_frozen BK305.out 5
    have hfz33_6 := blk_frozen BK305.out 6
    have hfz33_7 := blk_frozen BK305.out 7
    have hfz33_8 := blk_frozen BK305.out 8
    have hfz33_9 := blk_frozen BK305.out 9
    have hfz33_10 := blk_frozen BK305.out 10
    have hfz33_11 := blk_frozen BK305.out 11
    have hfz33_12 := blk_frozen BK305.out 12
    have hfz33_13 := blk_frozen BK305.out 13
    have hfz33_14 := blk_frozen BK305.out 14
    go_wp2
    go_meet
    case rel => exact ⟨_, (((t303.size : Int) != 36)), (by first | rfl | (simp; done) | (simp [*]; done)), H', ⟨by first | omega | exact Nat.le_refl _⟩, ⟨by (with_reducible repeat (first | refine blk_drewN ?_ _ | refine blk_drew ?_ | refine blk_alloc ?_ _)); exact BK281.out⟩, ⟨by (with_reducible repeat (first | refine blk_drewN ?_ _ | refine blk_drew ?_ | refine blk_alloc ?_ _)); exact BK305.out⟩, ⟨by repeat (first | (with_reducible first | exact HB.out | apply below_alloc | apply pw_below_drewN | apply below_drew1 | refine below_set ?_ GE281.out | refine below_set ?_ GE305.out) | exact HB.out)⟩⟩
   ·
    rw [if_neg c31] at H
    have c31b0 : ((t287.size : Int) == 56) = false := beq_eq_false_iff_ne.mpr c31
    have c31b1 : ((t287.size : Int) != 56) = true := bne_iff_ne.mpr c31
    have H' := Aside0.mk H
    clear H
    go_wp2
    go_meet
    case rel => exact ⟨_, (true), (by first | rfl | (simp; done) | (simp [*]; done)), H', ⟨by first | omega | exact Nat.le_refl _⟩, ⟨by (with_reducible repeat (first | refine blk_drewN ?_ _ | refine blk_drew ?_ | refine blk_alloc ?_ _)); exact BK281.out⟩, ⟨by (with_reducible repeat (first | refine blk_drewN ?_ _ | refine blk_drew ?_ | refine blk_alloc ?_ _)); exact BK305.out⟩, ⟨by repeat (first | (with_reducible first | exact HB.out | apply below_alloc | apply pw_below_drewN | apply below_drew1 | refine below_set ?_ GE281.out | refine below_set ?_ GE305.out) | exact HB.out)⟩⟩
  ·
   rw [if_neg c30] at H
   have c30b0 : ((t282.size : Int) == 32) = false := beq_eq_false_iff_ne.mpr c30
   have c30b1 : ((t282.size : Int) != 32) = true := bne_iff_ne.mpr c30
   (first | rw [c30b0] | (simp only [i64_w, i32_w]; rw [c30b0]) | skip)
   have H' := Aside0.mk H
   clear H
   go_wp2
   go_meet
   case rel => exact ⟨_, (true), (by first | rfl | (simp; done) | (simp [*]; done)), H', ⟨by first | omega | exact Nat.le_refl _⟩, ⟨by (with_reducible repeat (first | refine blk_drewN ?_ _ | refine blk_drew ?_ | refine blk_alloc ?_ _)); exact BK281.out⟩, ⟨by (with_reducible repeat (first | refine blk_drewN ?_ _ | refine blk_drew ?_ | refine blk_alloc ?_ _)); exact BK305.out⟩, ⟨by repeat (first | (with_reducible first | exact HB.out | apply below_alloc | apply pw_below_drewN | apply below_drew1 | refine below_set ?_ GE281.out | refine below_set ?_ GE305.out) | exact HB.out)⟩⟩
 case rest =>
  clear HC12
  try clear c1
  try clear c2
  try clear p2
  try clear c3
  try clear p4
  try clear c9
  try clear c10
  try clear c12
  try clear c16
  try clear c17
  try clear c20
  try clear c22
  try clear c30
  try clear c30b0
  try clear c30b1
  try clear c31
  try clear c31b0
  try clear c31b1
  try clear c32
  try clear hcz16_0
  try clear hcz16_1
  try clear hcz16_10
  try clear hcz16_11
  try clear hcz16_12
  try clear hcz16_13
  try clear hcz16_14
  try clear hcz16_2
  try clear hcz16_3
  try clear hcz16_4
  try clear hcz16_5
  try clear hcz16_6
  try clear hcz16_7
  try clear hcz16_8
  try clear hcz16_9
  try clear hcz23_0
  try clear hcz23_1
  try clear hcz23_10
  try clear hcz23_11
  try clear hcz23_12
  try clear hcz23_13
  try clear hcz23_14
  try clear hcz23_2
  try clear hcz23_3
  try clear hcz23_4
  try clear hcz23_5
  try clear hcz23_6
  try clear hcz23_7
  try clear hcz23_8
  try clear hcz23_9
  try clear hcz24_0
  try clear hcz24_1
  try clear hcz24_10
  try clear hcz24_11
  try clear hcz24_12
  try clear hcz24_13
  try clear hcz24_14
  try clear hcz24_2
  try clear hcz24_3
  try clear hcz24_4
  try clear hcz24_5
  try clear hcz24_6
  try clear hcz24_7
  try clear hcz24_8
  try clear hcz24_9
  try clear hcz33_0
  try clear hcz33_1
  try clear hcz33_10
  try clear hcz33_11
  try clear hcz33_12
  try clear hcz33_13
  try clear hcz33_14
  try clear hcz33_2
  try clear hcz33_3
  try clear hcz33_4
  try clear hcz33_5
  try clear hcz33_6
  try clear hcz33_7
  try clear hcz33_8
  try clear hcz33_9
  try clear hfz16_0
  try clear hfz16_1
  try clear hfz16_10
  try clear hfz16_11
  try clear hfz16_12
  try clear hfz16_13
  try clear hfz16_14
  try clear hfz16_2
  try clear hfz16_3
  try clear hfz16_4
  try clear hfz16_5
  try clear hfz16_6
  try clear hfz16_7
  try clear hfz16_8
  try clear hfz16_9
  try clear hfz23_0
  try clear hfz23_1
  try clear hfz23_10
  try clear hfz23_11
  try clear hfz23_12
  try clear hfz23_13
  try clear hfz23_14
  try clear hfz23_2
  try clear hfz23_3
  try clear hfz23_4
  try clear hfz23_5
  try clear hfz23_6
  try clear hfz23_7
  try clear hfz23_8
  try clear hfz23_9
  try clear hfz24_0
  try clear hfz24_1
  try clear hfz24_10
  try clear hfz24_11
  try clear hfz24_12
  try clear hfz24_13
  try clear hfz24_14
  try clear hfz24_2
  try clear hfz24_3
  try clear hfz24_4
  try clear hfz24_5
  try clear hfz24_6
  try clear hfz24_7
  try clear hfz24_8
  try clear hfz24_9
  try clear hfz33_0
  try clear hfz33_1
  try clear hfz33_10
  try clear hfz33_11
  try clear hfz33_12
  try clear hfz33_13
  try clear hfz33_14
  try clear hfz33_2
  try clear hfz33_3
  try clear hfz33_4
  try clear hfz33_5
  try clear hfz33_6
  try clear hfz33_7
  try clear hfz33_8
  try clear hfz33_9
  obtain ⟨kq, x73_11, rfl, HA, HJ11, BK281, BK305, HB⟩ := hcut
  cases kq with
  | zero => exact absurd HA.out (by simp [crosswaylaw20_awake.j0])
  | succ kj11 =>
   have H := HA.out
   clear HA
   simp only [crosswaylaw20_awake.j0] at H
   by_cases c34 : x73_11 = true
   ·
    subst c34
    rw [if_pos rfl] at H
    exact absurd ((Option.some.inj H).trans HRT.out) (by decide)
   ·
    replace c34 := Bool.eq_false_iff.mpr c34
    subst c34
    rw [if_neg (show ¬ (false = true) by decide)] at H
    by_cases c35 : t288 = 0
    ·
     rw [if_pos c35] at H
     have c35b0 : (t288 == 0) = true := beq_iff_eq.mpr c35
     have c35b1 : (t288 != 0) = false := bne_eq_false_iff_eq.mpr c35
     clear c35
     by_cases c36 : t304 = 0
     ·
      rw [if_pos c36] at H
      have c36b0 : (t304 == 0) = true := beq_iff_eq.mpr c36
      have c36b1 : (t304 != 0) = false := bne_eq_false_iff_eq.mpr c36
      clear c36
      replace H := Option.bind_eq_some_iff.mp H
      obtain ⟨⟨t318, t319, t320⟩, A370, H⟩ := H
      replace H : (if (t296 == t318 && (t297 == t319 && (t298 == t320))) = true then ((crosswaylaw20_ten.f 1).bind fun bt321 => (if (t299 == bt321.1 && (t300 == bt321.2.1 && (t301 == bt321.2.2))) = true then (if 0 < (t303.size : Int) then (if (bt t303 0) = 11 then (if 8 ≤ (t303.size : Int) then (if 0 ≤ 28 then (if 28 ≤ (t282.size : Int) then (if (t303.extract 8 t303.size).toList = (t282.extract 0 28).toList then (if t312 = 170 then (if t314 = 1 then (if t315 = 2 then (if t316 = 0 then (if t317 = true then ((excuse_May.f kj11 t282).bind fun t324 => (if t324 = true then ((excuse_May.f kj11 t306).bind fun t325 => (some (!t325))) else (some false))) else (some false)) else (some false)) else (some false)) else (some false)) else (some false)) else (some false)) else (none)) else (none)) else (none)) else (some false)) else (none)) else (some false))) else (some false)) = some r := H
      have A37 := Aside0.mk A370
      clear A370
      by_cases c38 : (t296 == t318 && (t297 == t319 && (t298 == t320))) = true
      ·
       rw [if_pos c38] at H
       have c38b0 : (t296 == t318 && (t297 == t319 && (t298 == t320))) = true := c38
       (try (have c38b1 : decide (t296 = t318 && (t297 == t319 && (t298 == t320))) = true := by simpa using c38))
       (try (have c38b2 : (t296 == t318 && (t297 == t319 && (t298 == t320))) = true := by simpa using c38))
       clear c38
       replace H := Option.bind_eq_some_iff.mp H
       obtain ⟨⟨t321, t322, t323⟩, A390, H⟩ := H
       replace H : (if (t299 == t321 && (t300 == t322 && (t301 == t323))) = true then (if 0 < (t303.size : Int) then (if (bt t303 0) = 11 then (if 8 ≤ (t303.size : Int) then (if 0 ≤ 28 then (if 28 ≤ (t282.size : Int) then (if (t303.extract 8 t303.size).toList = (t282.extract 0 28).toList then (if t312 = 170 then (if t314 = 1 then (if t315 = 2 then (if t316 = 0 then (if t317 = true then ((excuse_May.f kj11 t282).bind fun t324 => (if t324 = true then ((excuse_May.f kj11 t306).bind fun t325 => (some (!t325))) else (some false))) else (some false)) else (some false)) else (some false)) else (some false)) else (some false)) else (some false)) else (none)) else (none)) else (none)) else (some false)) else (none)) else (some false)) = some r := H
       have A39 := Aside0.mk A390
       clear A390
       by_cases c40 : (t299 == t321 && (t300 == t322 && (t301 == t323))) = true
       ·
        rw [if_pos c40] at H
        have c40b0 : (t299 == t321 && (t300 == t322 && (t301 == t323))) = true := c40
        (try (have c40b1 : decide (t299 = t321 && (t300 == t322 && (t301 == t323))) = true := by simpa using c40))
        (try (have c40b2 : (t299 == t321 && (t300 == t322 && (t301 == t323))) = true := by simpa using c40))
        clear c40
        by_cases c41 : 0 < (t303.size : Int)
        ·
         rw [if_pos c41] at H
         have c41b0 : decide (0 < (t303.size : Int)) = true := decide_eq_true c41
         have c41b1 : decide (0 < t303.size) = true := decide_eq_true (by omega)
         clear c41
         by_cases c43 : (bt t303 0) = 11
         ·
          rw [if_pos c43] at H
          have c43b0 : ((bt t303 0) == 11) = true := beq_iff_eq.mpr c43
          have c43b1 : ((bt t303 0) != 11) = false := bne_eq_false_iff_eq.mpr c43
          clear c43
          by_cases c44 : 8 ≤ (t303.size : Int)
          ·
           rw [if_pos c44] at H
           have c44b0 := eq_true c44
           have c44b1 : decide (8 ≤ (t303.size : Int)) = true := decide_eq_true c44
           clear c44
           by_cases c45 : 0 ≤ 28
           ·
            rw [if_pos c45] at H
            have c45b0 := eq_true c45
            have c45b1 : decide (0 ≤ 28) = true := decide_eq_true c45
            clear c45
            by_cases c46 : 28 ≤ (t282.size : Int)
            ·
             rw [if_pos c46] at H
             have c46b0 := eq_true c46
             have c46b1 : decide (28 ≤ (t282.size : Int)) = true := decide_eq_true c46
             clear c46
             by_cases c47 : (t303.extract 8 t303.size).toList = (t282.extract 0 28).toList
             ·
              rw [if_pos c47] at H
              have c47b0 : ((t303.extract 8 t303.size).toList == (t282.extract 0 28).toList) = true := beq_iff_eq.mpr c47
              have c47b1 : ((t303.extract 8 t303.size).toList != (t282.extract 0 28).toList) = false := bne_eq_false_iff_eq.mpr c47
              clear c47
              by_cases c48 : t312 = 170
              ·
               rw [if_pos c48] at H
               have c48b0 : (t312 == 170) = true := beq_iff_eq.mpr c48
               have c48b1 : (t312 != 170) = false := bne_eq_false_iff_eq.mpr c48
               clear c48
               by_cases c49 : t314 = 1
               ·
                rw [if_pos c49] at H
                have c49b0 : (t314 == 1) = true := beq_iff_eq.mpr c49
                have c49b1 : (t314 != 1) = false := bne_eq_false_iff_eq.mpr c49
                clear c49
                by_cases c50 : t315 = 2
                ·
                 rw [if_pos c50] at H
                 have c50b0 : (t315 == 2) = true := beq_iff_eq.mpr c50
                 have c50b1 : (t315 != 2) = false := bne_eq_false_iff_eq.mpr c50
                 clear c50
                 by_cases c51 : t316 = 0
                 ·
                  rw [if_pos c51] at H
                  have c51b0 : (t316 == 0) = true := beq_iff_eq.mpr c51
                  have c51b1 : (t316 != 0) = false := bne_eq_false_iff_eq.mpr c51
                  clear c51
                  by_cases c52 : t317 = true
                  ·
                   subst c52
                   rw [if_pos rfl] at H
                   replace H := Option.bind_eq_some_iff.mp H
                   obtain ⟨t324, A530, H⟩ := H
                   have A53 := Aside0.mk A530
                   clear A530
                   by_cases c54 : t324 = true
                   ·
                    subst c54
                    rw [if_pos rfl] at H
                    replace H := Option.bind_eq_some_iff.mp H
                    obtain ⟨t325, A550, H⟩ := H
                    have A55 := Aside0.mk A550
                    clear A550
                    obtain rfl := Option.some.inj H
                    try go_wp2
                    have n0_ := Aside0.mk (blk_drew BK281.out)
                    have n1_ := Aside0.mk (blk_drew BK305.out)
                    have n2_ := Aside0.mk (below_drew1 HB.out)
                    clear BK281 BK305 HB
                    have BK281 := n0_
                    have BK305 := n1_
                    have HB := n2_
                    clear n0_ n1_ n2_
                    refine start_ (n := 33) (S := fun w' => w'.cell? ⟨gb305, 0, none⟩ = some (.int .i64 t289) ∧ w'.cell? ⟨gb305, 1, none⟩ = some (.int .i64 t290) ∧ w'.cell? ⟨gb305, 2, none⟩ = some (.bool t291) ∧ w'.cell? ⟨gb305, 3, none⟩ = some (.bool t292) ∧ w'.cell? ⟨gb305, 4, none⟩ = some (.int .i64 t293) ∧ w'.cell? ⟨gb305, 5, none⟩ = some (.int .i64 t294) ∧ w'.cell? ⟨gb305, 6, none⟩ = some (.int .i64 t295) ∧ w'.cell? ⟨gb305, 7, none⟩ = some (.bool t296) ∧ w'.cell? ⟨gb305, 8, none⟩ = some (.int .u64 t297) ∧ w'.cell? ⟨gb305, 9, none⟩ = some (.int .u64 t298) ∧ w'.cell? ⟨gb305, 10, none⟩ = some (.bool t299) ∧ w'.cell? ⟨gb305, 11, none⟩ = some (.int .u64 t300) ∧ w'.cell? ⟨gb305, 12, none⟩ = some (.int .u64 t301) ∧ w'.cell? ⟨gb305, 13, none⟩ = some (.string t302) ∧ w'.cell? ⟨gb305, 14, none⟩ = some (.string t303)) (ds := []) #[false, false, false, false, false, false, false, false, false, false, false, false, false, false, false, false, false, false, false, false, false, false, false, false, false, false, false, false, false, false, false, false, false] (by kernel_rfl) rfl rfl ⟨(blk_cell BK305.out 0).trans rfl, (blk_cell BK305.out 1).trans rfl, (blk_cell BK305.out 2).trans rfl, (blk_cell BK305.out 3).trans rfl, (blk_cell BK305.out 4).trans rfl, (blk_cell BK305.out 5).trans rfl, (blk_cell BK305.out 6).trans rfl, (blk_cell BK305.out 7).trans rfl, (blk_cell BK305.out 8).trans rfl, (blk_cell BK305.out 9).trans rfl, (blk_cell BK305.out 10).trans rfl, (blk_cell BK305.out 11).trans rfl, (blk_cell BK305.out 12).trans rfl, (blk_cell BK305.out 13).trans rfl, (blk_cell BK305.out 14).trans rfl⟩ (fun hHeld => ?_); refine with_tabW crosswaylaw20_awake.tab12 crosswaylaw20_awake.bits12 (fun HT_ HW_ => ?_)
                    generalize wc.drew = w56 at BK281 BK305 HB hHeld ⊢
                    refine pure_ (i := 0) (N := some 74) (v := ?_) (a' := ?_) #[true, false, false, false, false, false, false, false, false, false, false, false, false, false, false, false, false, false, false, false, false, false, false, false, false, false, false, false, false, false, false, false, false] rfl rfl (any_of HT_.out (by kernel_rfl)) (fun _ _ _ h => h) (Or.inl ⟨by rfl, ?_⟩) ?_ ?_
                    rotate_left
                    ·
                     intro w'
                     go_simp
                     with_reducible rfl
                    rotate_left
                    ·
                     simp only [Act.put, List.setIfInBounds_toArray, List.set_cons_zero, List.set_cons_succ, i64_w, i32_w]
                     rfl
                    refine pure_ (i := 1) (N := some 75) (v := ?_) (a' := ?_) #[true, true, false, false, false, false, false, false, false, false, false, false, false, false, false, false, false, false, false, false, false, false, false, false, false, false, false, false, false, false, false, false, false] rfl rfl (any_of HT_.out (by kernel_rfl)) (fun _ _ _ h => h) (Or.inl ⟨by rfl, ?_⟩) ?_ ?_
                    rotate_left
                    ·
                     intro w'
                     go_simp
                     with_reducible rfl
                    rotate_left
                    ·
                     simp only [Act.put, List.setIfInBounds_toArray, List.set_cons_zero, List.set_cons_succ, i64_w, i32_w]
                     rfl
                    refine pure_ (i := 2) (N := some 76) (v := ?_) (a' := ?_) #[true, true, true, false, false, false, false, false, false, false, false, false, false, false, false, false, false, false, false, false, false, false, false, false, false, false, false, false, false, false, false, false, false] rfl rfl (any_of HT_.out (by kernel_rfl)) (fun _ _ _ h => h) (Or.inl ⟨by rfl, ?_⟩) ?_ ?_
                    rotate_left
                    ·
                     intro w'
                     go_simp
                     with_reducible rfl
                    rotate_left
                    ·
                     simp only [Act.put, List.setIfInBounds_toArray, List.set_cons_zero, List.set_cons_succ, i64_w, i32_w]
                     rfl
                    refine pure_ (i := 3) (N := some 77) (v := ?_) (a' := ?_) #[true, true, true, true, false, false, false, false, false, false, false, false, false, false, false, false, false, false, false, false, false, false, false, false, false, false, false, false, false, false, false, false, false] rfl rfl (any_of HT_.out (by kernel_rfl)) (fun _ _ _ h => h) (Or.inl ⟨by rfl, ?_⟩) ?_ ?_
                    rotate_left
                    ·
                     intro w'
                     go_simp
                     with_reducible rfl
                    rotate_left
                    ·
                     simp only [Act.put, List.setIfInBounds_toArray, List.set_cons_zero, List.set_cons_succ, i64_w, i32_w]
                     rfl
                    refine pure_ (i := 4) (N := some 78) (v := ?_) (a' := ?_) #[true, true, true, true, true, false, false, false, false, false, false, false, false, false, false, false, false, false, false, false, false, false, false, false, false, false, false, false, false, false, false, false, false] rfl rfl (any_of HT_.out (by kernel_rfl)) (fun _ _ _ h => h) (Or.inl ⟨by rfl, ?_⟩) ?_ ?_
                    rotate_left
                    ·
                     intro w'
                     go_simp
                     with_reducible rfl
                    rotate_left
                    ·
                     simp only [Act.put, List.setIfInBounds_toArray, List.set_cons_zero, List.set_cons_succ, i64_w, i32_w]
                     rfl
                    refine pure_ (i := 5) (N := some 79) (v := ?_) (a' := ?_) #[true, true, true, true, true, true, false, false, false, false, false, false, false, false, false, false, false, false, false, false, false, false, false, false, false, false, false, false, false, false, false, false, false] rfl rfl (any_of HT_.out (by kernel_rfl)) (fun _ _ _ h => h) (Or.inl ⟨by rfl, ?_⟩) ?_ ?_
                    rotate_left
                    ·
                     intro w'
                     go_simp
                     with_reducible rfl
                    rotate_left
                    ·
                     simp only [Act.put, List.setIfInBounds_toArray, List.set_cons_zero, List.set_cons_succ, i64_w, i32_w]
                     rfl
                    refine pure_ (i := 6) (N := some 80) (v := ?_) (a' := ?_) #[true, true, true, true, true, true, true, false, false, false, false, false, false, false, false, false, false, false, false, false, false, false, false, false, false, false, false, false, false, false, false, false, false] rfl rfl (any_of HT_.out (by kernel_rfl)) (fun _ _ _ h => h) (Or.inl ⟨by rfl, ?_⟩) ?_ ?_
                    rotate_left
                    ·
                     intro w'
                     go_simp
                     with_reducible rfl
                    rotate_left
                    ·
                     simp only [Act.put, List.setIfInBounds_toArray, List.set_cons_zero, List.set_cons_succ, i64_w, i32_w]
                     rfl
                    refine pure_ (i := 7) (N := some 81) (v := ?_) (a' := ?_) #[true, true, true, true, true, true, true, true, false, false, false, false, false, false, false, false, false, false, false, false, false, false, false, false, false, false, false, false, false, false, false, false, false] rfl rfl (any_of HT_.out (by kernel_rfl)) (fun _ _ _ h => h) (Or.inl ⟨by rfl, ?_⟩) ?_ ?_
                    rotate_left
                    ·
                     intro w'
                     go_simp
                     with_reducible rfl
                    rotate_left
                    ·
                     simp only [Act.put, List.setIfInBounds_toArray, List.set_cons_zero, List.set_cons_succ, i64_w, i32_w]
                     rfl
                    refine take_ (i := 8) (N := some 82) (v := ?_) (a' := ?_) #[true, true, true, true, true, true, true, true, true, false, false, false, false, false, false, false, false, false, false, false, false, false, false, false, false, false, false, false, false, false, false, false, false] rfl rfl (take_ofW HT_.out HW_.out (by kernel_rfl)) (fun _ _ _ h => h) (Or.inl ⟨by rfl, ?_⟩) hHeld ?_ ?_
                    rotate_left
                    ·
                     rintro w' ⟨s0, s1, s2, s3, s4, s5, s6, s7, s8, s9, s10, s11, s12, s13, s14⟩
                     go_simp
                     with_reducible rfl
                    rotate_left
                    ·
                     simp only [Act.put, List.setIfInBounds_toArray, List.set_cons_zero, List.set_cons_succ, i64_w, i32_w]
                     rfl
                    refine one_ (i := 9) (N := some 83) #[true, true, true, true, true, true, true, true, true, true, false, false, false, false, false, false, false, false, false, false, false, false, false, false, false, false, false, false, false, false, false, false, false] rfl rfl (one_of HT_.out (by kernel_rfl)) (by decide) (fun K hK => ?_)
                    refine goes_ Tryd.func16 (by kernel_rfl) rfl #[.int .u64 9] (by rfl) rfl rfl (by (try simp only [List.map_toArray, List.map_cons, List.map_nil]); first | done | rfl | (simp only [List.length_drop, List.length_take]; rfl)) ?_
                    with_reducible refine (crosswaylaw20_ten.calls 9 t318 t319 t320 _ A37.out).mono ?_
                    rintro e w57 ⟨rfl, hb⟩
                    refine ⟨_, rfl, ?_⟩
                    have n0_ := sh_L BK281 hb
                    have n1_ := sh_L BK305 hb
                    have n2_ := sh_S HB hb
                    clear BK281 BK305 HB
                    have BK281 := n0_
                    have BK305 := n1_
                    have HB := n2_
                    clear n0_ n1_ n2_
                    (try clear hb)
                    (try clear hb2)
                    (try clear hk)
                    (try clear hi)
                    refine hK.out _ _ ⟨(blk_cell BK305.out 0).trans rfl, (blk_cell BK305.out 1).trans rfl, (blk_cell BK305.out 2).trans rfl, (blk_cell BK305.out 3).trans rfl, (blk_cell BK305.out 4).trans rfl, (blk_cell BK305.out 5).trans rfl, (blk_cell BK305.out 6).trans rfl, (blk_cell BK305.out 7).trans rfl, (blk_cell BK305.out 8).trans rfl, (blk_cell BK305.out 9).trans rfl, (blk_cell BK305.out 10).trans rfl, (blk_cell BK305.out 11).trans rfl, (blk_cell BK305.out 12).trans rfl, (blk_cell BK305.out 13).trans rfl, (blk_cell BK305.out 14).trans rfl⟩ (fun hHeld => ?_)
                    clear hK K
                    refine norm_ (a' := ?_) ?_ ?_
                    rotate_left
                    ·
                     show Act.put _ (some 83) _ = _
                     simp only [Act.put, List.setIfInBounds_toArray, List.set_cons_zero, List.set_cons_succ, i64_w, i32_w]
                     rfl
                    refine pure_ (i := 10) (N := some 84) (v := ?_) (a' := ?_) #[true, true, true, true, true, true, true, true, true, true, true, false, false, false, false, false, false, false, false, false, false, false, false, false, false, false, false, false, false, false, false, false, false] rfl rfl (any_of HT_.out (by kernel_rfl)) (fun _ _ _ h => h) (Or.inl ⟨by rfl, ?_⟩) ?_ ?_
                    rotate_left
                    ·
                     intro w'
                     go_simp
                     with_reducible rfl
                    rotate_left
                    ·
                     simp only [Act.put, List.setIfInBounds_toArray, List.set_cons_zero, List.set_cons_succ, i64_w, i32_w]
                     rfl
                    refine pure_ (i := 11) (N := some 85) (v := ?_) (a' := ?_) #[true, true, true, true, true, true, true, true, true, true, true, true, false, false, false, false, false, false, false, false, false, false, false, false, false, false, false, false, false, false, false, false, false] rfl rfl (any_of HT_.out (by kernel_rfl)) (fun _ _ _ h => h) (Or.inl ⟨by rfl, ?_⟩) ?_ ?_
                    rotate_left
                    ·
                     intro w'
                     go_simp
                     with_reducible rfl
                    rotate_left
                    ·
                     simp only [Act.put, List.setIfInBounds_toArray, List.set_cons_zero, List.set_cons_succ, i64_w, i32_w]
                     rfl
                    refine pure_ (i := 12) (N := some 86) (v := ?_) (a' := ?_) #[true, true, true, true, true, true, true, true, true, true, true, true, true, false, false, false, false, false, false, false, false, false, false, false, false, false, false, false, false, false, false, false, false] rfl rfl (any_of HT_.out (by kernel_rfl)) (fun _ _ _ h => h) (Or.inl ⟨by rfl, ?_⟩) ?_ ?_
                    rotate_left
                    ·
                     intro w'
                     go_simp
                     with_reducible rfl
                    rotate_left
                    ·
                     simp only [Act.put, List.setIfInBounds_toArray, List.set_cons_zero, List.set_cons_succ, i64_w, i32_w]
                     rfl
                    refine pure_ (i := 13) (N := some 87) (v := ?_) (a' := ?_) #[true, true, true, true, true, true, true, true, true, true, true, true, true, true, false, false, false, false, false, false, false, false, false, false, false, false, false, false, false, false, false, false, false] rfl rfl (any_of HT_.out (by kernel_rfl)) (fun _ _ _ h => h) (Or.inl ⟨by rfl, ?_⟩) ?_ ?_
                    rotate_left
                    ·
                     intro w'
                     go_simp
                     with_reducible rfl
                    rotate_left
                    ·
                     simp only [Act.put, List.setIfInBounds_toArray, List.set_cons_zero, List.set_cons_succ, i64_w, i32_w]
                     rfl
                    refine take_ (i := 14) (N := some 88) (v := ?_) (a' := ?_) #[true, true, true, true, true, true, true, true, true, true, true, true, true, true, true, false, false, false, false, false, false, false, false, false, false, false, false, false, false, false, false, false, false] rfl rfl (take_ofW HT_.out HW_.out (by kernel_rfl)) (fun _ _ _ h => h) (Or.inl ⟨by rfl, ?_⟩) hHeld ?_ ?_
                    rotate_left
                    ·
                     rintro w' ⟨s0, s1, s2, s3, s4, s5, s6, s7, s8, s9, s10, s11, s12, s13, s14⟩
                     go_simp
                     with_reducible rfl
                    rotate_left
                    ·
                     simp only [Act.put, List.setIfInBounds_toArray, List.set_cons_zero, List.set_cons_succ, i64_w, i32_w]
                     rfl
                    refine one_ (i := 15) (N := some 89) #[true, true, true, true, true, true, true, true, true, true, true, true, true, true, true, true, false, false, false, false, false, false, false, false, false, false, false, false, false, false, false, false, false] rfl rfl (one_of HT_.out (by kernel_rfl)) (by decide) (fun K hK => ?_)
                    refine goes_ Tryd.func16 (by kernel_rfl) rfl #[.int .u64 1] (by rfl) rfl rfl (by (try simp only [List.map_toArray, List.map_cons, List.map_nil]); first | done | rfl | (simp only [List.length_drop, List.length_take]; rfl)) ?_
                    with_reducible refine (crosswaylaw20_ten.calls 1 t321 t322 t323 _ A39.out).mono ?_
                    rintro e w58 ⟨rfl, hb⟩
                    refine ⟨_, rfl, ?_⟩
                    have n0_ := sh_L BK281 hb
                    have n1_ := sh_L BK305 hb
                    have n2_ := sh_S HB hb
                    clear BK281 BK305 HB
                    have BK281 := n0_
                    have BK305 := n1_
                    have HB := n2_
                    clear n0_ n1_ n2_
                    (try clear hb)
                    (try clear hb2)
                    (try clear hk)
                    (try clear hi)
                    have p42 : 0 ≤ (0 : Int) := (by omega)
                    have q42 : 0 < t303.size := (by have : (0 : Int) < (t303.size : Int) := of_decide_eq_true (by first | (with_reducible assumption) | assumption); omega)
                    have hx42 : ∀ h : 0 < t303.size, ((t303[0]'h).toNat : Int) = bt t303 0 := bt_at t303 0
                    clear p42
                    have qi42 : (0 < (t303.size : Int)) = True := eq_true (of_decide_eq_true (by first | (with_reducible assumption) | assumption))
                    replace q42 := eq_true q42
                    refine hK.out _ _ ⟨(blk_cell BK305.out 0).trans rfl, (blk_cell BK305.out 1).trans rfl, (blk_cell BK305.out 2).trans rfl, (blk_cell BK305.out 3).trans rfl, (blk_cell BK305.out 4).trans rfl, (blk_cell BK305.out 5).trans rfl, (blk_cell BK305.out 6).trans rfl, (blk_cell BK305.out 7).trans rfl, (blk_cell BK305.out 8).trans rfl, (blk_cell BK305.out 9).trans rfl, (blk_cell BK305.out 10).trans rfl, (blk_cell BK305.out 11).trans rfl, (blk_cell BK305.out 12).trans rfl, (blk_cell BK305.out 13).trans rfl, (blk_cell BK305.out 14).trans rfl⟩ (fun hHeld => ?_)
                    clear hK K
                    refine norm_ (a' := ?_) ?_ ?_
                    rotate_left
                    ·
                     show Act.put _ (some 89) _ = _
                     simp only [Act.put, List.setIfInBounds_toArray, List.set_cons_zero, List.set_cons_succ, i64_w, i32_w]
                     rfl
                    refine pure_ (i := 16) (N := some 90) (v := ?_) (a' := ?_) #[true, true, true, true, true, true, true, true, true, true, true, true, true, true, true, true, true, false, false, false, false, false, false, false, false, false, false, false, false, false, false, false, false] rfl rfl (any_of HT_.out (by kernel_rfl)) (fun _ _ _ h => h) (Or.inl ⟨by rfl, ?_⟩) ?_ ?_
                    rotate_left
                    ·
                     intro w'
                     go_simp
                     with_reducible rfl
                    rotate_left
                    ·
                     simp only [Act.put, List.setIfInBounds_toArray, List.set_cons_zero, List.set_cons_succ, i64_w, i32_w]
                     rfl
                    refine pure_ (i := 17) (N := some 91) (v := ?_) (a' := ?_) #[true, true, true, true, true, true, true, true, true, true, true, true, true, true, true, true, true, true, false, false, false, false, false, false, false, false, false, false, false, false, false, false, false] rfl rfl (any_of HT_.out (by kernel_rfl)) (fun _ _ _ h => h) (Or.inl ⟨by rfl, ?_⟩) ?_ ?_
                    rotate_left
                    ·
                     intro w'
                     go_simp
                     with_reducible rfl
                    rotate_left
                    ·
                     simp only [Act.put, List.setIfInBounds_toArray, List.set_cons_zero, List.set_cons_succ, i64_w, i32_w]
                     rfl
                    refine pure_ (i := 18) (N := some 92) (v := ?_) (a' := ?_) #[true, true, true, true, true, true, true, true, true, true, true, true, true, true, true, true, true, true, true, false, false, false, false, false, false, false, false, false, false, false, false, false, false] rfl rfl (any_of HT_.out (by kernel_rfl)) (fun _ _ _ h => h) (Or.inl ⟨by rfl, ?_⟩) ?_ ?_
                    rotate_left
                    ·
                     intro w'
                     go_simp
                     with_reducible rfl
                    rotate_left
                    ·
                     simp only [Act.put, List.setIfInBounds_toArray, List.set_cons_zero, List.set_cons_succ, i64_w, i32_w]
                     rfl
                    refine pure_ (i := 19) (N := some 93) (v := ?_) (a' := ?_) #[true, true, true, true, true, true, true, true, true, true, true, true, true, true, true, true, true, true, true, true, false, false, false, false, false, false, false, false, false, false, false, false, false] rfl rfl (any_of HT_.out (by kernel_rfl)) (fun _ _ _ h => h) (Or.inl ⟨by rfl, ?_⟩) ?_ ?_
                    rotate_left
                    ·
                     intro w'
                     go_simp
                     with_reducible rfl
                    rotate_left
                    ·
                     simp only [Act.put, List.setIfInBounds_toArray, List.set_cons_zero, List.set_cons_succ, i64_w, i32_w]
                     rfl
                    refine take_ (i := 20) (N := some 94) (v := ?_) (a' := ?_) #[true, true, true, true, true, true, true, true, true, true, true, true, true, true, true, true, true, true, true, true, true, false, false, false, false, false, false, false, false, false, false, false, false] rfl rfl (take_ofW HT_.out HW_.out (by kernel_rfl)) (fun _ _ _ h => h) (Or.inl ⟨by rfl, ?_⟩) hHeld ?_ ?_
                    rotate_left
                    ·
                     rintro w' ⟨s0, s1, s2, s3, s4, s5, s6, s7, s8, s9, s10, s11, s12, s13, s14⟩
                     go_simp
                     with_reducible rfl
                    rotate_left
                    ·
                     simp only [Act.put, List.setIfInBounds_toArray, List.set_cons_zero, List.set_cons_succ, i64_w, i32_w]
                     rfl
                    refine take_ (i := 21) (N := some 95) (v := ?_) (a' := ?_) #[true, true, true, true, true, true, true, true, true, true, true, true, true, true, true, true, true, true, true, true, true, true, false, false, false, false, false, false, false, false, false, false, false] rfl rfl (take_ofW HT_.out HW_.out (by kernel_rfl)) (fun _ _ _ h => h) (Or.inl ⟨by rfl, ?_⟩) hHeld ?_ ?_
                    rotate_left
                    ·
                     rintro w' ⟨s0, s1, s2, s3, s4, s5, s6, s7, s8, s9, s10, s11, s12, s13, s14⟩
                     go_simp
                     with_reducible rfl
                    rotate_left
                    ·
                     simp only [Act.put, List.setIfInBounds_toArray, List.set_cons_zero, List.set_cons_succ, i64_w, i32_w]
                     rfl
                    refine pure_ (i := 22) (N := some 96) (v := ?_) (a' := ?_) #[true, true, true, true, true, true, true, true, true, true, true, true, true, true, true, true, true, true, true, true, true, true, true, false, false, false, false, false, false, false, false, false, false] rfl rfl (any_of HT_.out (by kernel_rfl)) (fun _ _ _ h => h) (Or.inl ⟨by rfl, ?_⟩) ?_ ?_
                    rotate_left
                    ·
                     intro w'
                     go_simp
                     with_reducible rfl
                    rotate_left
                    ·
                     simp only [Act.put, List.setIfInBounds_toArray, List.set_cons_zero, List.set_cons_succ, i64_w, i32_w]
                     rfl
                    refine pure_ (i := 23) (N := some 97) (v := ?_) (a' := ?_) #[true, true, true, true, true, true, true, true, true, true, true, true, true, true, true, true, true, true, true, true, true, true, true, true, false, false, false, false, false, false, false, false, false] rfl rfl (any_of HT_.out (by kernel_rfl)) (fun _ _ _ h => h) (Or.inl ⟨by rfl, ?_⟩) ?_ ?_
                    rotate_left
                    ·
                     intro w'
                     go_simp
                     with_reducible rfl
                    rotate_left
                    ·
                     simp only [Act.put, List.setIfInBounds_toArray, List.set_cons_zero, List.set_cons_succ, i64_w, i32_w]
                     rfl
                    refine pure_ (i := 24) (N := some 98) (v := ?_) (a' := ?_) #[true, true, true, true, true, true, true, true, true, true, true, true, true, true, true, true, true, true, true, true, true, true, true, true, true, false, false, false, false, false, false, false, false] rfl rfl (any_of HT_.out (by kernel_rfl)) (fun _ _ _ h => h) (Or.inl ⟨by rfl, ?_⟩) ?_ ?_
                    rotate_left
                    ·
                     intro w'
                     go_simp
                     with_reducible rfl
                    rotate_left
                    ·
                     simp only [Act.put, List.setIfInBounds_toArray, List.set_cons_zero, List.set_cons_succ, i64_w, i32_w]
                     rfl
                    refine pure_ (i := 25) (N := some 99) (v := ?_) (a' := ?_) #[true, true, true, true, true, true, true, true, true, true, true, true, true, true, true, true, true, true, true, true, true, true, true, true, true, true, false, false, false, false, false, false, false] rfl rfl (any_of HT_.out (by kernel_rfl)) (fun _ _ _ h => h) (Or.inl ⟨by rfl, ?_⟩) ?_ ?_
                    rotate_left
                    ·
                     intro w'
                     go_simp
                     with_reducible rfl
                    rotate_left
                    ·
                     simp only [Act.put, List.setIfInBounds_toArray, List.set_cons_zero, List.set_cons_succ, i64_w, i32_w]
                     rfl
                    refine pure_ (i := 28) (N := some 102) (v := ?_) (a' := ?_) #[true, true, true, true, true, true, true, true, true, true, true, true, true, true, true, true, true, true, true, true, true, true, true, true, true, true, false, false, true, false, false, false, false] rfl rfl (any_of HT_.out (by kernel_rfl)) (fun _ _ _ h => h) (Or.inl ⟨by rfl, ?_⟩) ?_ ?_
                    rotate_left
                    ·
                     intro w'
                     go_simp
                     with_reducible rfl
                    rotate_left
                    ·
                     simp only [Act.put, List.setIfInBounds_toArray, List.set_cons_zero, List.set_cons_succ, i64_w, i32_w]
                     rfl
                    refine pure_ (i := 29) (N := some 103) (v := ?_) (a' := ?_) #[true, true, true, true, true, true, true, true, true, true, true, true, true, true, true, true, true, true, true, true, true, true, true, true, true, true, false, false, true, true, false, false, false] rfl rfl (any_of HT_.out (by kernel_rfl)) (fun _ _ _ h => h) (Or.inl ⟨by rfl, ?_⟩) ?_ ?_
                    rotate_left
                    ·
                     intro w'
                     go_simp
                     with_reducible rfl
                    rotate_left
                    ·
                     simp only [Act.put, List.setIfInBounds_toArray, List.set_cons_zero, List.set_cons_succ, i64_w, i32_w]
                     rfl
                    refine take_ (i := 26) (N := some 100) (v := ?_) (a' := ?_) #[true, true, true, true, true, true, true, true, true, true, true, true, true, true, true, true, true, true, true, true, true, true, true, true, true, true, true, false, true, true, false, false, false] rfl rfl (take_ofW HT_.out HW_.out (by kernel_rfl)) (fun _ _ _ h => h) (Or.inl ⟨by rfl, ?_⟩) hHeld ?_ ?_
                    rotate_left
                    ·
                     rintro w' ⟨s0, s1, s2, s3, s4, s5, s6, s7, s8, s9, s10, s11, s12, s13, s14⟩
                     go_simp
                     with_reducible rfl
                    rotate_left
                    ·
                     simp only [Act.put, List.setIfInBounds_toArray, List.set_cons_zero, List.set_cons_succ, i64_w, i32_w]
                     rfl
                    refine pure_ (i := 27) (N := some 101) (v := ?_) (a' := ?_) #[true, true, true, true, true, true, true, true, true, true, true, true, true, true, true, true, true, true, true, true, true, true, true, true, true, true, true, true, true, true, false, false, false] rfl rfl (any_of HT_.out (by kernel_rfl)) (fun _ _ _ h => h) (Or.inl ⟨by rfl, ?_⟩) ?_ ?_
                    rotate_left
                    ·
                     intro w'
                     go_simp
                     with_reducible rfl
                    rotate_left
                    ·
                     simp only [Act.put, List.setIfInBounds_toArray, List.set_cons_zero, List.set_cons_succ, i64_w, i32_w]
                     rfl
                    refine pure_ (i := 30) (N := some 104) (v := ?_) (a' := ?_) #[true, true, true, true, true, true, true, true, true, true, true, true, true, true, true, true, true, true, true, true, true, true, true, true, true, true, true, true, true, true, true, false, false] rfl rfl (any_of HT_.out (by kernel_rfl)) (fun _ _ _ h => h) (Or.inl ⟨by rfl, ?_⟩) ?_ ?_
                    rotate_left
                    ·
                     intro w'
                     go_simp
                     with_reducible rfl
                    rotate_left
                    ·
                     simp only [Act.put, List.setIfInBounds_toArray, List.set_cons_zero, List.set_cons_succ, i64_w, i32_w]
                     rfl
                    refine pure_ (i := 31) (N := some 105) (v := ?_) (a' := ?_) #[true, true, true, true, true, true, true, true, true, true, true, true, true, true, true, true, true, true, true, true, true, true, true, true, true, true, true, true, true, true, true, true, false] rfl rfl (any_of HT_.out (by kernel_rfl)) (fun _ _ _ h => h) (Or.inl ⟨by rfl, ?_⟩) ?_ ?_
                    rotate_left
                    ·
                     intro w'
                     go_simp
                     with_reducible rfl
                    rotate_left
                    ·
                     simp only [Act.put, List.setIfInBounds_toArray, List.set_cons_zero, List.set_cons_succ, i64_w, i32_w]
                     rfl
                    refine pure_ (i := 32) (N := some 17) (v := ?_) (a' := ?_) #[true, true, true, true, true, true, true, true, true, true, true, true, true, true, true, true, true, true, true, true, true, true, true, true, true, true, true, true, true, true, true, true, true] rfl rfl (any_of HT_.out (by kernel_rfl)) (fun _ _ _ h => h) (Or.inl ⟨by rfl, ?_⟩) ?_ ?_
                    rotate_left
                    ·
                     intro w'
                     go_simp
                     with_reducible rfl
                    rotate_left
                    ·
                     simp only [Act.put, List.setIfInBounds_toArray, List.set_cons_zero, List.set_cons_succ, i64_w, i32_w]
                     rfl
                    refine done_ (done_of HT_.out (by kernel_rfl)) ?_
                    try go_wp2_with (first | (go_at_call 14; (with_reducible refine (excuse_May.calls kj11 t282 true _ A53.out).mono ?_); rintro e w59 ⟨rfl, hb⟩; replace BK281 := sh_L BK281 hb; replace BK305 := sh_L BK305 hb; replace HB := sh_S HB hb; (try clear hb); (try clear hb2); (try clear hk); (try clear hi)) | (go_at_call 14; (with_reducible refine (excuse_May.calls kj11 t306 t325 _ A55.out).mono ?_); rintro e w60 ⟨rfl, hb⟩; replace BK281 := sh_L BK281 hb; replace BK305 := sh_L BK305 hb; replace HB := sh_S HB hb; (try clear hb); (try clear hb2); (try clear hk); (try clear hi)))
                    go_ret
                    exact ⟨by first | rfl | (simp [errW_none, errW_some] <;> rfl) | (simp [*, errW_none, errW_some] <;> rfl), by repeat (first | (with_reducible first | exact HB.out | apply below_alloc | apply pw_below_drewN | apply below_drew1 | refine below_set ?_ GE281.out | refine below_set ?_ GE305.out) | exact HB.out)⟩
                   ·
                    replace c54 := Bool.eq_false_iff.mpr c54
                    subst c54
                    rw [if_neg (show ¬ (false = true) by decide)] at H
                    exact absurd ((Option.some.inj H).trans HRT.out) (by decide)
                  ·
                   replace c52 := Bool.eq_false_iff.mpr c52
                   subst c52
                   rw [if_neg (show ¬ (false = true) by decide)] at H
                   exact absurd ((Option.some.inj H).trans HRT.out) (by decide)
                 ·
                  rw [if_neg c51] at H
                  have c51b0 : (t316 == 0) = false := beq_eq_false_iff_ne.mpr c51
                  have c51b1 : (t316 != 0) = true := bne_iff_ne.mpr c51
                  exact absurd ((Option.some.inj H).trans HRT.out) (by decide)
                ·
                 rw [if_neg c50] at H
                 have c50b0 : (t315 == 2) = false := beq_eq_false_iff_ne.mpr c50
                 have c50b1 : (t315 != 2) = true := bne_iff_ne.mpr c50
                 exact absurd ((Option.some.inj H).trans HRT.out) (by decide)
               ·
                rw [if_neg c49] at H
                have c49b0 : (t314 == 1) = false := beq_eq_false_iff_ne.mpr c49
                have c49b1 : (t314 != 1) = true := bne_iff_ne.mpr c49
                exact absurd ((Option.some.inj H).trans HRT.out) (by decide)
              ·
               rw [if_neg c48] at H
               have c48b0 : (t312 == 170) = false := beq_eq_false_iff_ne.mpr c48
               have c48b1 : (t312 != 170) = true := bne_iff_ne.mpr c48
               exact absurd ((Option.some.inj H).trans HRT.out) (by decide)
             ·
              rw [if_neg c47] at H
              have c47b0 : ((t303.extract 8 t303.size).toList == (t282.extract 0 28).toList) = false := beq_eq_false_iff_ne.mpr c47
              have c47b1 : ((t303.extract 8 t303.size).toList != (t282.extract 0 28).toList) = true := bne_iff_ne.mpr c47
              exact absurd ((Option.some.inj H).trans HRT.out) (by decide)
            ·
             rw [if_neg c46] at H
             exact absurd H (by simp)
           ·
            rw [if_neg c45] at H
            exact absurd H (by simp)
          ·
           rw [if_neg c44] at H
           exact absurd H (by simp)
         ·
          rw [if_neg c43] at H
          have c43b0 : ((bt t303 0) == 11) = false := beq_eq_false_iff_ne.mpr c43
          have c43b1 : ((bt t303 0) != 11) = true := bne_iff_ne.mpr c43
          exact absurd ((Option.some.inj H).trans HRT.out) (by decide)
        ·
         rw [if_neg c41] at H
         exact absurd H (by simp)
       ·
        rw [if_neg c40] at H
        have c40b0 : (t299 == t321 && (t300 == t322 && (t301 == t323))) = false := by simpa using c40
        (try (have c40b1 : decide (t299 = t321 && (t300 == t322 && (t301 == t323))) = false := by simpa using c40))
        (try (have c40b2 : (t299 == t321 && (t300 == t322 && (t301 == t323))) = false := by simpa using c40))
        (try (have c40b3 : ¬ (t299 = t321 && (t300 == t322 && (t301 == t323))) := by simpa using c40))
        clear c40
        exact absurd ((Option.some.inj H).trans HRT.out) (by decide)
      ·
       rw [if_neg c38] at H
       have c38b0 : (t296 == t318 && (t297 == t319 && (t298 == t320))) = false := by simpa using c38
       (try (have c38b1 : decide (t296 = t318 && (t297 == t319 && (t298 == t320))) = false := by simpa using c38))
       (try (have c38b2 : (t296 == t318 && (t297 == t319 && (t298 == t320))) = false := by simpa using c38))
       (try (have c38b3 : ¬ (t296 = t318 && (t297 == t319 && (t298 == t320))) := by simpa using c38))
       clear c38
       exact absurd ((Option.some.inj H).trans HRT.out) (by decide)
     ·
      rw [if_neg c36] at H
      have c36b0 : (t304 == 0) = false := beq_eq_false_iff_ne.mpr c36
      have c36b1 : (t304 != 0) = true := bne_iff_ne.mpr c36
      exact absurd ((Option.some.inj H).trans HRT.out) (by decide)
    ·
     rw [if_neg c35] at H
     have c35b0 : (t288 == 0) = false := beq_eq_false_iff_ne.mpr c35
     have c35b1 : (t288 != 0) = true := bne_iff_ne.mpr c35
     exact absurd ((Option.some.inj H).trans HRT.out) (by decide)
def crosswaylaw20_awake.f (k : Nat) : Option Bool := (crosswaylaw20_awake.f0 k).bind fun b => if b = true then some true else none
theorem crosswaylaw20_awake.mono : ∀ k, LeO (crosswaylaw20_awake.f k) (crosswaylaw20_awake.f (k + 1)) := fun k => LeO.bind (crosswaylaw20_awake.mono0 k) (fun _ => LeO.refl _)
theorem crosswaylaw20_awake.calls (k : Nat) (r : Bool) (w : World) (h : crosswaylaw20_awake.f k = some r) (hg : excuse_Glob w) :
  Calls Tryd.prog 9 #[] w fun e w' => e = .returned (.bool r) ∧ Below w.heap.size w w' := by
 have HGL := Aside0.mk hg
 clear hg
 unfold crosswaylaw20_awake.f at h
 obtain ⟨b, hb, h⟩ := Option.bind_eq_some_iff.1 h
 cases b with
 | false => exact absurd h (by simp)
 | true =>
  rw [if_pos rfl] at h
  obtain rfl := Option.some.inj h
  exact crosswaylaw20_awake.calls0 k true w hb rfl HGL.out

end Go.Proofs.YtaoopneiglgnkaaDoor.PBase
