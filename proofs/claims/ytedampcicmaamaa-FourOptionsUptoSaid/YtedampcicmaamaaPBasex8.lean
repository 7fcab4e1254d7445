/- Functions of the program as Lean functions, each with a proof that a call comes to what it says. Conditions: those of each theorem. Laid by a program of this session. -/
import Derived.Test.YtedampcicmaamaaPBasex0
import Derived.Test.YtedampcicmaamaaPBasex1
import Derived.Test.YtedampcicmaamaaPBasex3
import Derived.Test.YtedampcicmaamaaPBasex4
import Derived.Test.YtedampcicmaamaaPBasex6
import Derived.Test.YtedampcicmaamaaPBasex7
namespace Go.Proofs.Ytedampcicmaamaa.PBase
open Go.RowKit Go.Proofs.Ytedampcicmaamaa Go.Proofs.YtedampcicmaamaaW.PrintWords Go.Proofs.YtedampcicmaamaaW.PrintLast Go.Proofs.YtedampcicmaamaaW.PrintMore
attribute [local go_sem] max2_int min2_int max_two min_two max_three min_three max_four min_four   -- for this text's walks alone
set_option linter.unusedVariables false
set_option linter.unusedSimpArgs false

attribute [local go_sem high] eqA26
/-! ### crosswaylaw06_awake: function 8 -/
def crosswaylaw06_awake.j0 : Nat → ByteArray → Int → Int → ByteArray → Int → List (S44) → Int → Int → Bool → Int → Int → Bool → Bool → Int → Int → Int → Bool → Int → Int → Bool → Int → Int → ByteArray → ByteArray → Option (Bool)
 | 0, _, _, _, _, _, _, _, _, _, _, _, _, _, _, _, _, _, _, _, _, _, _, _, _ => none
 | k + 1, x1, x2, x4, x5, x6, x7, x8, x10, x42, x179000, x179001, x179002, x179003, x179004, x179005, x179006, x179007, x179008, x179009, x179010, x179011, x179012, x179013, x179014 => if x42 = true then (some false) else (if x2 = 0 then (if 0 ≤ 12 then (if 12 ≤ (x1.size : Int) then (if (x1.extract 0 12).toList = ([69, 0, 0, 28, 0, 0, 0, 0, 64, 17, 102, 207] : List UInt8) then (if x4 = 0 then ((crosswaylaw06_eight.f).bind fun bt189 => (if (x179000 == bt189.1 && (x179001 == bt189.2.1 && (x179002 == bt189.2.2.1 && (x179003 == bt189.2.2.2.1 && (x179004 == bt189.2.2.2.2.1 && (x179005 == bt189.2.2.2.2.2.1 && (x179006 == bt189.2.2.2.2.2.2.1 && ((x179007 == bt189.2.2.2.2.2.2.2.1 && (x179008 == bt189.2.2.2.2.2.2.2.2.1 && (x179009 == bt189.2.2.2.2.2.2.2.2.2.1))) && ((x179010 == bt189.2.2.2.2.2.2.2.2.2.2.1 && (x179011 == bt189.2.2.2.2.2.2.2.2.2.2.2.1 && (x179012 == bt189.2.2.2.2.2.2.2.2.2.2.2.2.1))) && (x179013.toList == bt189.2.2.2.2.2.2.2.2.2.2.2.2.2.1.toList && (x179014.toList == bt189.2.2.2.2.2.2.2.2.2.2.2.2.2.2.toList))))))))))) = true then (if x6 = 0 then (if 8 ≤ 12 then (if 12 ≤ (x5.size : Int) then (if (x5.extract 8 12).toList = ([63, 17, 103, 207] : List UInt8) then (if x8 = 0 then ((crosswaylaw06_same.f k x7 (([(⟨1, (⟨#[]⟩ : ByteArray)⟩ : S44), (⟨131, (⟨#[9]⟩ : ByteArray)⟩ : S44)] : List (S44)))).bind fun t207 => (if t207 = true then (if x10 = 50 then ((ip4_Kept.f k (⟨#[1, 131, 3, 9, 0, 7]⟩ : ByteArray)).bind fun t208 => (some (t208.toList == ([131, 3, 9, 0] : List UInt8)))) else (some false)) else (some false))) else (some false)) else (some false)) else (none)) else (none)) else (some false)) else (some false))) else (some false)) else (some false)) else (none)) else (none)) else (some false))
def crosswaylaw06_awake.f0 (k : Nat)  : Option (Bool) := (crosswaylaw06_eight.f).bind fun bt145 => ((ip4_Lay.f k bt145.1 bt145.2.1 bt145.2.2.1 bt145.2.2.2.1 bt145.2.2.2.2.1 bt145.2.2.2.2.2.1 bt145.2.2.2.2.2.2.1 bt145.2.2.2.2.2.2.2.1 bt145.2.2.2.2.2.2.2.2.1 bt145.2.2.2.2.2.2.2.2.2.1 bt145.2.2.2.2.2.2.2.2.2.2.1 bt145.2.2.2.2.2.2.2.2.2.2.2.1 bt145.2.2.2.2.2.2.2.2.2.2.2.2.1 bt145.2.2.2.2.2.2.2.2.2.2.2.2.2.1 bt145.2.2.2.2.2.2.2.2.2.2.2.2.2.2).bind fun bt160 => ((ip4_Take.f k bt160.1).bind fun bt162 => ((ip4_Hop.f k bt160.1).bind fun bt179 => ((ip4_Options.f (⟨#[1, 131, 3, 9, 0, 7]⟩ : ByteArray)).bind fun bt181 => ((ip4_Options.f (⟨#[7, 1]⟩ : ByteArray)).bind fun bt185 => (if (bt160.1.size : Int) = 28 then (crosswaylaw06_awake.j0 k bt160.1 bt160.2 bt162.2.2.2.2.2.2.2.2.2.2.2.2.2.2.2 bt179.1 bt179.2 bt181.1 bt181.2 bt185.2 ((bt179.1.size : Int) != 28) bt162.1 bt162.2.1 bt162.2.2.1 bt162.2.2.2.1 bt162.2.2.2.2.1 bt162.2.2.2.2.2.1 bt162.2.2.2.2.2.2.1 bt162.2.2.2.2.2.2.2.1 bt162.2.2.2.2.2.2.2.2.1 bt162.2.2.2.2.2.2.2.2.2.1 bt162.2.2.2.2.2.2.2.2.2.2.1 bt162.2.2.2.2.2.2.2.2.2.2.2.1 bt162.2.2.2.2.2.2.2.2.2.2.2.2.1 bt162.2.2.2.2.2.2.2.2.2.2.2.2.2.1 bt162.2.2.2.2.2.2.2.2.2.2.2.2.2.2.1) else (crosswaylaw06_awake.j0 k bt160.1 bt160.2 bt162.2.2.2.2.2.2.2.2.2.2.2.2.2.2.2 bt179.1 bt179.2 bt181.1 bt181.2 bt185.2 true bt162.1 bt162.2.1 bt162.2.2.1 bt162.2.2.2.1 bt162.2.2.2.2.1 bt162.2.2.2.2.2.1 bt162.2.2.2.2.2.2.1 bt162.2.2.2.2.2.2.2.1 bt162.2.2.2.2.2.2.2.2.1 bt162.2.2.2.2.2.2.2.2.2.1 bt162.2.2.2.2.2.2.2.2.2.2.1 bt162.2.2.2.2.2.2.2.2.2.2.2.1 bt162.2.2.2.2.2.2.2.2.2.2.2.2.1 bt162.2.2.2.2.2.2.2.2.2.2.2.2.2.1 bt162.2.2.2.2.2.2.2.2.2.2.2.2.2.2.1)))))))
theorem crosswaylaw06_awake.mono_l : ∀ k, (∀ y0 y1 y2 y3 y4 y5 y6 y7 y8 y9 y10 y11 y12 y13 y14 y15 y16 y17 y18 y19 y20 y21 y22 y23, LeO (crosswaylaw06_awake.j0 k y0 y1 y2 y3 y4 y5 y6 y7 y8 y9 y10 y11 y12 y13 y14 y15 y16 y17 y18 y19 y20 y21 y22 y23) (crosswaylaw06_awake.j0 (k + 1) y0 y1 y2 y3 y4 y5 y6 y7 y8 y9 y10 y11 y12 y13 y14 y15 y16 y17 y18 y19 y20 y21 y22 y23))
 | 0 => fun _ _ _ _ _ _ _ _ _ _ _ _ _ _ _ _ _ _ _ _ _ _ _ _ r h => by simp [crosswaylaw06_awake.j0] at h
 | k + 1 => by
  have ih0 := crosswaylaw06_awake.mono_l k
  ·
   intro y0 y1 y2 y3 y4 y5 y6 y7 y8 y9 y10 y11 y12 y13 y14 y15 y16 y17 y18 y19 y20 y21 y22 y23
   unfold crosswaylaw06_awake.j0
   repeat' first
   | (with_reducible exact ih0 _ _ _ _ _ _ _ _ _ _ _ _ _ _ _ _ _ _ _ _ _ _ _ _)
   | (with_reducible exact crosswaylaw06_same.mono _ _ _)
   | (with_reducible exact ip4_Hop.mono _ _)
   | (with_reducible exact ip4_Kept.mono _ _)
   | (with_reducible exact ip4_Lay.mono _ _ _ _ _ _ _ _ _ _ _ _ _ _ _ _)
   | (with_reducible exact ip4_Take.mono _ _)
   | (with_reducible exact LeO.refl _)
   | (with_reducible exact LeO.none _)
   | (with_reducible refine LeO.ite ?_ ?_)
   | (with_reducible refine LeO.bind ?_ (fun _ => ?_))
   | exact ih0 _ _ _ _ _ _ _ _ _ _ _ _ _ _ _ _ _ _ _ _ _ _ _ _
   | exact crosswaylaw06_same.mono _ _ _
   | exact ip4_Hop.mono _ _
   | exact ip4_Kept.mono _ _
   | exact ip4_Lay.mono _ _ _ _ _ _ _ _ _ _ _ _ _ _ _ _
   | exact ip4_Take.mono _ _
   | exact LeO.none _
   | refine LeO.ite ?_ ?_
   | refine LeO.bind ?_ (fun _ => ?_)
theorem crosswaylaw06_awake.mono0 : ∀ k, LeO (crosswaylaw06_awake.f0 k ) (crosswaylaw06_awake.f0 (k + 1) ) := by
 intro  k
 have ih0 := crosswaylaw06_awake.mono_l k
 unfold crosswaylaw06_awake.f0
 repeat' first
   | (with_reducible exact ih0 _ _ _ _ _ _ _ _ _ _ _ _ _ _ _ _ _ _ _ _ _ _ _ _)
   | (with_reducible exact crosswaylaw06_same.mono _ _ _)
   | (with_reducible exact ip4_Hop.mono _ _)
   | (with_reducible exact ip4_Kept.mono _ _)
   | (with_reducible exact ip4_Lay.mono _ _ _ _ _ _ _ _ _ _ _ _ _ _ _ _)
   | (with_reducible exact ip4_Take.mono _ _)
   | (with_reducible exact LeO.refl _)
   | (with_reducible exact LeO.none _)
   | (with_reducible refine LeO.ite ?_ ?_)
   | (with_reducible refine LeO.bind ?_ (fun _ => ?_))
   | exact ih0 _ _ _ _ _ _ _ _ _ _ _ _ _ _ _ _ _ _ _ _ _ _ _ _
   | exact crosswaylaw06_same.mono _ _ _
   | exact ip4_Hop.mono _ _
   | exact ip4_Kept.mono _ _
   | exact ip4_Lay.mono _ _ _ _ _ _ _ _ _ _ _ _ _ _ _ _
   | exact ip4_Take.mono _ _
   | exact LeO.none _
   | refine LeO.ite ?_ ?_
   | refine LeO.bind ?_ (fun _ => ?_)
def crosswaylaw06_awake.T8 : Bool × List (List Nat × List Nat) := (true, [([], []), ([0], [0]), ([1], [1]), ([2], [2]), ([3, 2], [2, 3]), ([4, 2], [2, 4]), ([2, 5], [2, 5]), ([6, 2], [6]), ([7], [7]), ([8, 7], [7, 8]), ([7, 9], [7, 9]), ([10, 7], [10]), ([11], [11]), ([11, 11], [11]), ([12, 13, 11], [11, 12, 13]), ([11, 14], [11, 14]), ([15, 13], [15]), ([16], [16]), ([17, 16], [16, 17]), ([16, 18], [16, 18]), ([19, 16], [19]), ([20], [20]), ([21, 20], [20, 21]), ([22, 20], [20, 22]), ([20, 23], [20, 23]), ([24, 20, 0, 1, 2, 3, 4, 5, 6, 7, 8, 9, 10, 11, 12, 13, 14, 15, 16, 17, 18, 19, 20, 21, 22, 23, 24], [24])])
def crosswaylaw06_awake.B8 : List Nat := [0, 1, 3, 7, 15, 31, 63, 127, 255, 511, 1023, 2047, 4095, 4095, 16383, 32767, 65535, 131071, 262143, 524287, 1048575, 2097151, 4194303, 8388607, 16777215, 33554431]
theorem crosswaylaw06_awake.tab8 : rtab .any (opsOf Try.f8 8) = crosswaylaw06_awake.T8 := by kernel_rfl
theorem crosswaylaw06_awake.bits8 : waitsOk crosswaylaw06_awake.T8.2 crosswaylaw06_awake.B8 = true := by kernel_rfl
set_option maxHeartbeats 8000000 in
set_option maxRecDepth 100000 in
theorem crosswaylaw06_awake.calls0 (k : Nat)  (r : Bool) (w : World) (h : crosswaylaw06_awake.f0 k  = some r) (hrt : r = true) :
  Calls Try.prog 8 #[] w fun e w' => e = .returned (.bool r) ∧ Below w.heap.size w w' := by
 have HRT := Aside0.mk hrt
 clear hrt
 have hu26 := Try.underlying26
 have hu44 := Try.underlying44
 have HB := Aside0.mk (Below.refl w.heap.size w)
 have H : ((crosswaylaw06_eight.f).bind fun bt145 => ((ip4_Lay.f k bt145.1 bt145.2.1 bt145.2.2.1 bt145.2.2.2.1 bt145.2.2.2.2.1 bt145.2.2.2.2.2.1 bt145.2.2.2.2.2.2.1 bt145.2.2.2.2.2.2.2.1 bt145.2.2.2.2.2.2.2.2.1 bt145.2.2.2.2.2.2.2.2.2.1 bt145.2.2.2.2.2.2.2.2.2.2.1 bt145.2.2.2.2.2.2.2.2.2.2.2.1 bt145.2.2.2.2.2.2.2.2.2.2.2.2.1 bt145.2.2.2.2.2.2.2.2.2.2.2.2.2.1 bt145.2.2.2.2.2.2.2.2.2.2.2.2.2.2).bind fun bt160 => ((ip4_Take.f k bt160.1).bind fun bt162 => ((ip4_Hop.f k bt160.1).bind fun bt179 => ((ip4_Options.f (⟨#[1, 131, 3, 9, 0, 7]⟩ : ByteArray)).bind fun bt181 => ((ip4_Options.f (⟨#[7, 1]⟩ : ByteArray)).bind fun bt185 => (if (bt160.1.size : Int) = 28 then (crosswaylaw06_awake.j0 k bt160.1 bt160.2 bt162.2.2.2.2.2.2.2.2.2.2.2.2.2.2.2 bt179.1 bt179.2 bt181.1 bt181.2 bt185.2 ((bt179.1.size : Int) != 28) bt162.1 bt162.2.1 bt162.2.2.1 bt162.2.2.2.1 bt162.2.2.2.2.1 bt162.2.2.2.2.2.1 bt162.2.2.2.2.2.2.1 bt162.2.2.2.2.2.2.2.1 bt162.2.2.2.2.2.2.2.2.1 bt162.2.2.2.2.2.2.2.2.2.1 bt162.2.2.2.2.2.2.2.2.2.2.1 bt162.2.2.2.2.2.2.2.2.2.2.2.1 bt162.2.2.2.2.2.2.2.2.2.2.2.2.1 bt162.2.2.2.2.2.2.2.2.2.2.2.2.2.1 bt162.2.2.2.2.2.2.2.2.2.2.2.2.2.2.1) else (crosswaylaw06_awake.j0 k bt160.1 bt160.2 bt162.2.2.2.2.2.2.2.2.2.2.2.2.2.2.2 bt179.1 bt179.2 bt181.1 bt181.2 bt185.2 true bt162.1 bt162.2.1 bt162.2.2.1 bt162.2.2.2.1 bt162.2.2.2.2.1 bt162.2.2.2.2.2.1 bt162.2.2.2.2.2.2.1 bt162.2.2.2.2.2.2.2.1 bt162.2.2.2.2.2.2.2.2.1 bt162.2.2.2.2.2.2.2.2.2.1 bt162.2.2.2.2.2.2.2.2.2.2.1 bt162.2.2.2.2.2.2.2.2.2.2.2.1 bt162.2.2.2.2.2.2.2.2.2.2.2.2.1 bt162.2.2.2.2.2.2.2.2.2.2.2.2.2.1 bt162.2.2.2.2.2.2.2.2.2.2.2.2.2.2.1)))))))) = some r := h
 clear h
 replace H := Option.bind_eq_some_iff.mp H
 obtain ⟨⟨t145, t146, t147, t148, t149, t150, t151, t152, t153, t154, t155, t156, t157, t158, t159⟩, A10, H⟩ := H
 replace H : ((ip4_Lay.f k t145 t146 t147 t148 t149 t150 t151 t152 t153 t154 t155 t156 t157 t158 t159).bind fun bt160 => ((ip4_Take.f k bt160.1).bind fun bt162 => ((ip4_Hop.f k bt160.1).bind fun bt179 => ((ip4_Options.f (⟨#[1, 131, 3, 9, 0, 7]⟩ : ByteArray)).bind fun bt181 => ((ip4_Options.f (⟨#[7, 1]⟩ : ByteArray)).bind fun bt185 => (if (bt160.1.size : Int) = 28 then (crosswaylaw06_awake.j0 k bt160.1 bt160.2 bt162.2.2.2.2.2.2.2.2.2.2.2.2.2.2.2 bt179.1 bt179.2 bt181.1 bt181.2 bt185.2 ((bt179.1.size : Int) != 28) bt162.1 bt162.2.1 bt162.2.2.1 bt162.2.2.2.1 bt162.2.2.2.2.1 bt162.2.2.2.2.2.1 bt162.2.2.2.2.2.2.1 bt162.2.2.2.2.2.2.2.1 bt162.2.2.2.2.2.2.2.2.1 bt162.2.2.2.2.2.2.2.2.2.1 bt162.2.2.2.2.2.2.2.2.2.2.1 bt162.2.2.2.2.2.2.2.2.2.2.2.1 bt162.2.2.2.2.2.2.2.2.2.2.2.2.1 bt162.2.2.2.2.2.2.2.2.2.2.2.2.2.1 bt162.2.2.2.2.2.2.2.2.2.2.2.2.2.2.1) else (crosswaylaw06_awake.j0 k bt160.1 bt160.2 bt162.2.2.2.2.2.2.2.2.2.2.2.2.2.2.2 bt179.1 bt179.2 bt181.1 bt181.2 bt185.2 true bt162.1 bt162.2.1 bt162.2.2.1 bt162.2.2.2.1 bt162.2.2.2.2.1 bt162.2.2.2.2.2.1 bt162.2.2.2.2.2.2.1 bt162.2.2.2.2.2.2.2.1 bt162.2.2.2.2.2.2.2.2.1 bt162.2.2.2.2.2.2.2.2.2.1 bt162.2.2.2.2.2.2.2.2.2.2.1 bt162.2.2.2.2.2.2.2.2.2.2.2.1 bt162.2.2.2.2.2.2.2.2.2.2.2.2.1 bt162.2.2.2.2.2.2.2.2.2.2.2.2.2.1 bt162.2.2.2.2.2.2.2.2.2.2.2.2.2.2.1))))))) = some r := H
 have A1 := Aside0.mk A10
 clear A10
 replace H := Option.bind_eq_some_iff.mp H
 obtain ⟨⟨t160, t161⟩, A20, H⟩ := H
 replace H : ((ip4_Take.f k t160).bind fun bt162 => ((ip4_Hop.f k t160).bind fun bt179 => ((ip4_Options.f (⟨#[1, 131, 3, 9, 0, 7]⟩ : ByteArray)).bind fun bt181 => ((ip4_Options.f (⟨#[7, 1]⟩ : ByteArray)).bind fun bt185 => (if (t160.size : Int) = 28 then (crosswaylaw06_awake.j0 k t160 t161 bt162.2.2.2.2.2.2.2.2.2.2.2.2.2.2.2 bt179.1 bt179.2 bt181.1 bt181.2 bt185.2 ((bt179.1.size : Int) != 28) bt162.1 bt162.2.1 bt162.2.2.1 bt162.2.2.2.1 bt162.2.2.2.2.1 bt162.2.2.2.2.2.1 bt162.2.2.2.2.2.2.1 bt162.2.2.2.2.2.2.2.1 bt162.2.2.2.2.2.2.2.2.1 bt162.2.2.2.2.2.2.2.2.2.1 bt162.2.2.2.2.2.2.2.2.2.2.1 bt162.2.2.2.2.2.2.2.2.2.2.2.1 bt162.2.2.2.2.2.2.2.2.2.2.2.2.1 bt162.2.2.2.2.2.2.2.2.2.2.2.2.2.1 bt162.2.2.2.2.2.2.2.2.2.2.2.2.2.2.1) else (crosswaylaw06_awake.j0 k t160 t161 bt162.2.2.2.2.2.2.2.2.2.2.2.2.2.2.2 bt179.1 bt179.2 bt181.1 bt181.2 bt185.2 true bt162.1 bt162.2.1 bt162.2.2.1 bt162.2.2.2.1 bt162.2.2.2.2.1 bt162.2.2.2.2.2.1 bt162.2.2.2.2.2.2.1 bt162.2.2.2.2.2.2.2.1 bt162.2.2.2.2.2.2.2.2.1 bt162.2.2.2.2.2.2.2.2.2.1 bt162.2.2.2.2.2.2.2.2.2.2.1 bt162.2.2.2.2.2.2.2.2.2.2.2.1 bt162.2.2.2.2.2.2.2.2.2.2.2.2.1 bt162.2.2.2.2.2.2.2.2.2.2.2.2.2.1 bt162.2.2.2.2.2.2.2.2.2.2.2.2.2.2.1)))))) = some r := H
 have A2 := Aside0.mk A20
 clear A20
 replace H := Option.bind_eq_some_iff.mp H
 obtain ⟨⟨t162, t163, t164, t165, t166, t167, t168, t169, t170, t171, t172, t173, t174, t175, t176, t177⟩, A30, H⟩ := H
 replace H : ((ip4_Hop.f k t160).bind fun bt179 => ((ip4_Options.f (⟨#[1, 131, 3, 9, 0, 7]⟩ : ByteArray)).bind fun bt181 => ((ip4_Options.f (⟨#[7, 1]⟩ : ByteArray)).bind fun bt185 => (if (t160.size : Int) = 28 then (crosswaylaw06_awake.j0 k t160 t161 t177 bt179.1 bt179.2 bt181.1 bt181.2 bt185.2 ((bt179.1.size : Int) != 28) t162 t163 t164 t165 t166 t167 t168 t169 t170 t171 t172 t173 t174 t175 t176) else (crosswaylaw06_awake.j0 k t160 t161 t177 bt179.1 bt179.2 bt181.1 bt181.2 bt185.2 true t162 t163 t164 t165 t166 t167 t168 t169 t170 t171 t172 t173 t174 t175 t176))))) = some r := H
 have A3 := Aside0.mk A30
 clear A30
 replace H := Option.bind_eq_some_iff.mp H
 obtain ⟨⟨t179, t180⟩, A40, H⟩ := H
 replace H : ((ip4_Options.f (⟨#[1, 131, 3, 9, 0, 7]⟩ : ByteArray)).bind fun bt181 => ((ip4_Options.f (⟨#[7, 1]⟩ : ByteArray)).bind fun bt185 => (if (t160.size : Int) = 28 then (crosswaylaw06_awake.j0 k t160 t161 t177 t179 t180 bt181.1 bt181.2 bt185.2 ((t179.size : Int) != 28) t162 t163 t164 t165 t166 t167 t168 t169 t170 t171 t172 t173 t174 t175 t176) else (crosswaylaw06_awake.j0 k t160 t161 t177 t179 t180 bt181.1 bt181.2 bt185.2 true t162 t163 t164 t165 t166 t167 t168 t169 t170 t171 t172 t173 t174 t175 t176)))) = some r := H
 have A4 := Aside0.mk A40
 clear A40
 replace H := Option.bind_eq_some_iff.mp H
 obtain ⟨⟨t181, t182⟩, A50, H⟩ := H
 replace H : ((ip4_Options.f (⟨#[7, 1]⟩ : ByteArray)).bind fun bt185 => (if (t160.size : Int) = 28 then (crosswaylaw06_awake.j0 k t160 t161 t177 t179 t180 t181 t182 bt185.2 ((t179.size : Int) != 28) t162 t163 t164 t165 t166 t167 t168 t169 t170 t171 t172 t173 t174 t175 t176) else (crosswaylaw06_awake.j0 k t160 t161 t177 t179 t180 t181 t182 bt185.2 true t162 t163 t164 t165 t166 t167 t168 t169 t170 t171 t172 t173 t174 t175 t176))) = some r := H
 have A5 := Aside0.mk A50
 clear A50
 replace H := Option.bind_eq_some_iff.mp H
 obtain ⟨⟨t185, t186⟩, A60, H⟩ := H
 replace H : (if (t160.size : Int) = 28 then (crosswaylaw06_awake.j0 k t160 t161 t177 t179 t180 t181 t182 t186 ((t179.size : Int) != 28) t162 t163 t164 t165 t166 t167 t168 t169 t170 t171 t172 t173 t174 t175 t176) else (crosswaylaw06_awake.j0 k t160 t161 t177 t179 t180 t181 t182 t186 true t162 t163 t164 t165 t166 t167 t168 t169 t170 t171 t172 t173 t174 t175 t176)) = some r := H
 have A6 := Aside0.mk A60
 clear A60
 have HC7 := Aside0.mk H
 clear H
 go_enter Try.func8, Try.ntmps8
 go_upto_region 6 with (first | ((with_reducible refine gate_callee (f := 20) rfl ?_); refine sh_C 13 Try.func20 #[] ?_; (with_reducible refine (crosswaylaw06_eight.calls  t145 t146 t147 t148 t149 t150 t151 t152 t153 t154 t155 t156 t157 t158 t159 _ A1.out).mono ?_); rintro e w8 ⟨rfl, hb⟩; refine ⟨_, rfl, ?_⟩; replace HB := sh_S HB hb; (try clear hb); (try clear hb2); (try clear hk); (try clear hi)) | ((with_reducible refine gate_callee (f := 9) rfl ?_); refine sh_C 14 Try.func9 #[.agg #[.int .i64 t145, .int .i64 t146, .bool t147, .bool t148, .int .i64 t149, .int .i64 t150, .int .i64 t151, .bool t152, .int .u64 t153, .int .u64 t154, .bool t155, .int .u64 t156, .int .u64 t157, .string t158, .string t159]] ?_; (with_reducible refine (ip4_Lay.calls k t145 t146 t147 t148 t149 t150 t151 t152 t153 t154 t155 t156 t157 t158 t159 t160 t161 _ A2.out).mono ?_); rintro e w9 ⟨rfl, hb⟩; refine ⟨_, rfl, ?_⟩; replace HB := sh_S HB hb; (try clear hb); (try clear hb2); (try clear hk); (try clear hi)) | ((with_reducible refine gate_callee (f := 11) rfl ?_); refine sh_C 19 Try.func11 #[.string t160] ?_; (with_reducible refine (ip4_Take.calls k t160 t162 t163 t164 t165 t166 t167 t168 t169 t170 t171 t172 t173 t174 t175 t176 t177 _ A3.out).mono ?_); rintro e w10 ⟨rfl, hb⟩; refine ⟨_, rfl, ?_⟩; replace HB := sh_S HB hb; (try clear hb); (try clear hb2); (try clear hk); (try clear hi)) | ((with_reducible refine gate_dst (N := 3) rfl ?_); (try (refine gate_guard (by rfl) ?_; dsimp only)); refine sh_E 3 26 #[.int .i64 0, .int .i64 0, .bool false, .bool false, .int .i64 0, .int .i64 0, .int .i64 0, .bool false, .int .u64 0, .int .u64 0, .bool false, .int .u64 0, .int .u64 0, .string (⟨#[]⟩ : ByteArray), .string (⟨#[]⟩ : ByteArray)] ?_; intro gb178 hg w11 hbox hb; have BK178 := Aside0.mk hbox; have GW178 := sh_G HB hg; have GE178 := GW178; replace HB := sh_S HB hb; clear hb hbox hg; obtain ⟨hcz12_0, hcz12_1, hcz12_2, hcz12_3, hcz12_4, hcz12_5, hcz12_6, hcz12_7, hcz12_8, hcz12_9, hcz12_10, hcz12_11, hcz12_12, hcz12_13, hcz12_14⟩ := MBlk.c15 BK178.out; obtain ⟨hfz12_0, hfz12_1, hfz12_2, hfz12_3, hfz12_4, hfz12_5, hfz12_6, hfz12_7, hfz12_8, hfz12_9, hfz12_10, hfz12_11, hfz12_12, hfz12_13, hfz12_14⟩ := MBlk.f15 BK178.out) | ((with_reducible refine gate_callee (f := 13) rfl ?_); refine sh_C 24 Try.func13 #[.string t160] ?_; (with_reducible refine (ip4_Hop.calls k t160 t179 t180 _ A4.out).mono ?_); rintro e w13 ⟨rfl, hb⟩; refine ⟨_, rfl, ?_⟩; have n0_ := Aside0.mk (blk_below (g := gb178) (o := .cells #[.int .i64 t162, .int .i64 t163, .bool t164, .bool t165, .int .i64 t166, .int .i64 t167, .int .i64 t168, .bool t169, .int .u64 t170, .int .u64 t171, .bool t172, .int .u64 t173, .int .u64 t174, .string t175, .string t176] 26 (0, 0)) (by (with_reducible repeat (first | refine blk_drewN ?_ _ | refine blk_drew ?_ | refine blk_alloc ?_ _)); refine blk_put (cs := #[.int .i64 t162, .int .i64 t163, .bool t164, .bool t165, .int .i64 t166, .int .i64 t167, .int .i64 t168, .bool t169, .int .u64 t170, .int .u64 t171, .bool t172, .int .u64 t173, .int .u64 t174, .string t175, .string (⟨#[]⟩ : ByteArray)]) ?_ 14 _ rfl; (with_reducible repeat (first | refine blk_drewN ?_ _ | refine blk_drew ?_ | refine blk_alloc ?_ _)); refine blk_put (cs := #[.int .i64 t162, .int .i64 t163, .bool t164, .bool t165, .int .i64 t166, .int .i64 t167, .int .i64 t168, .bool t169, .int .u64 t170, .int .u64 t171, .bool t172, .int .u64 t173, .int .u64 t174, .string (⟨#[]⟩ : ByteArray), .string (⟨#[]⟩ : ByteArray)]) ?_ 13 _ rfl; (with_reducible repeat (first | refine blk_drewN ?_ _ | refine blk_drew ?_ | refine blk_alloc ?_ _)); refine blk_put (cs := #[.int .i64 t162, .int .i64 t163, .bool t164, .bool t165, .int .i64 t166, .int .i64 t167, .int .i64 t168, .bool t169, .int .u64 t170, .int .u64 t171, .bool t172, .int .u64 t173, .int .u64 0, .string (⟨#[]⟩ : ByteArray), .string (⟨#[]⟩ : ByteArray)]) ?_ 12 _ rfl; (with_reducible repeat (first | refine blk_drewN ?_ _ | refine blk_drew ?_ | refine blk_alloc ?_ _)); refine blk_put (cs := #[.int .i64 t162, .int .i64 t163, .bool t164, .bool t165, .int .i64 t166, .int .i64 t167, .int .i64 t168, .bool t169, .int .u64 t170, .int .u64 t171, .bool t172, .int .u64 0, .int .u64 0, .string (⟨#[]⟩ : ByteArray), .string (⟨#[]⟩ : ByteArray)]) ?_ 11 _ rfl; (with_reducible repeat (first | refine blk_drewN ?_ _ | refine blk_drew ?_ | refine blk_alloc ?_ _)); refine blk_put (cs := #[.int .i64 t162, .int .i64 t163, .bool t164, .bool t165, .int .i64 t166, .int .i64 t167, .int .i64 t168, .bool t169, .int .u64 t170, .int .u64 t171, .bool false, .int .u64 0, .int .u64 0, .string (⟨#[]⟩ : ByteArray), .string (⟨#[]⟩ : ByteArray)]) ?_ 10 _ rfl; (with_reducible repeat (first | refine blk_drewN ?_ _ | refine blk_drew ?_ | refine blk_alloc ?_ _)); refine blk_put (cs := #[.int .i64 t162, .int .i64 t163, .bool t164, .bool t165, .int .i64 t166, .int .i64 t167, .int .i64 t168, .bool t169, .int .u64 t170, .int .u64 0, .bool false, .int .u64 0, .int .u64 0, .string (⟨#[]⟩ : ByteArray), .string (⟨#[]⟩ : ByteArray)]) ?_ 9 _ rfl; (with_reducible repeat (first | refine blk_drewN ?_ _ | refine blk_drew ?_ | refine blk_alloc ?_ _)); refine blk_put (cs := #[.int .i64 t162, .int .i64 t163, .bool t164, .bool t165, .int .i64 t166, .int .i64 t167, .int .i64 t168, .bool t169, .int .u64 0, .int .u64 0, .bool false, .int .u64 0, .int .u64 0, .string (⟨#[]⟩ : ByteArray), .string (⟨#[]⟩ : ByteArray)]) ?_ 8 _ rfl; (with_reducible repeat (first | refine blk_drewN ?_ _ | refine blk_drew ?_ | refine blk_alloc ?_ _)); refine blk_put (cs := #[.int .i64 t162, .int .i64 t163, .bool t164, .bool t165, .int .i64 t166, .int .i64 t167, .int .i64 t168, .bool false, .int .u64 0, .int .u64 0, .bool false, .int .u64 0, .int .u64 0, .string (⟨#[]⟩ : ByteArray), .string (⟨#[]⟩ : ByteArray)]) ?_ 7 _ rfl; (with_reducible repeat (first | refine blk_drewN ?_ _ | refine blk_drew ?_ | refine blk_alloc ?_ _)); refine blk_put (cs := #[.int .i64 t162, .int .i64 t163, .bool t164, .bool t165, .int .i64 t166, .int .i64 t167, .int .i64 0, .bool false, .int .u64 0, .int .u64 0, .bool false, .int .u64 0, .int .u64 0, .string (⟨#[]⟩ : ByteArray), .string (⟨#[]⟩ : ByteArray)]) ?_ 6 _ rfl; (with_reducible repeat (first | refine blk_drewN ?_ _ | refine blk_drew ?_ | refine blk_alloc ?_ _)); refine blk_put (cs := #[.int .i64 t162, .int .i64 t163, .bool t164, .bool t165, .int .i64 t166, .int .i64 0, .int .i64 0, .bool false, .int .u64 0, .int .u64 0, .bool false, .int .u64 0, .int .u64 0, .string (⟨#[]⟩ : ByteArray), .string (⟨#[]⟩ : ByteArray)]) ?_ 5 _ rfl; (with_reducible repeat (first | refine blk_drewN ?_ _ | refine blk_drew ?_ | refine blk_alloc ?_ _)); refine blk_put (cs := #[.int .i64 t162, .int .i64 t163, .bool t164, .bool t165, .int .i64 0, .int .i64 0, .int .i64 0, .bool false, .int .u64 0, .int .u64 0, .bool false, .int .u64 0, .int .u64 0, .string (⟨#[]⟩ : ByteArray), .string (⟨#[]⟩ : ByteArray)]) ?_ 4 _ rfl; (with_reducible repeat (first | refine blk_drewN ?_ _ | refine blk_drew ?_ | refine blk_alloc ?_ _)); refine blk_put (cs := #[.int .i64 t162, .int .i64 t163, .bool t164, .bool false, .int .i64 0, .int .i64 0, .int .i64 0, .bool false, .int .u64 0, .int .u64 0, .bool false, .int .u64 0, .int .u64 0, .string (⟨#[]⟩ : ByteArray), .string (⟨#[]⟩ : ByteArray)]) ?_ 3 _ rfl; (with_reducible repeat (first | refine blk_drewN ?_ _ | refine blk_drew ?_ | refine blk_alloc ?_ _)); refine blk_put (cs := #[.int .i64 t162, .int .i64 t163, .bool false, .bool false, .int .i64 0, .int .i64 0, .int .i64 0, .bool false, .int .u64 0, .int .u64 0, .bool false, .int .u64 0, .int .u64 0, .string (⟨#[]⟩ : ByteArray), .string (⟨#[]⟩ : ByteArray)]) ?_ 2 _ rfl; (with_reducible repeat (first | refine blk_drewN ?_ _ | refine blk_drew ?_ | refine blk_alloc ?_ _)); refine blk_put (cs := #[.int .i64 t162, .int .i64 0, .bool false, .bool false, .int .i64 0, .int .i64 0, .int .i64 0, .bool false, .int .u64 0, .int .u64 0, .bool false, .int .u64 0, .int .u64 0, .string (⟨#[]⟩ : ByteArray), .string (⟨#[]⟩ : ByteArray)]) ?_ 1 _ rfl; (with_reducible repeat (first | refine blk_drewN ?_ _ | refine blk_drew ?_ | refine blk_alloc ?_ _)); refine blk_put (cs := #[.int .i64 0, .int .i64 0, .bool false, .bool false, .int .i64 0, .int .i64 0, .int .i64 0, .bool false, .int .u64 0, .int .u64 0, .bool false, .int .u64 0, .int .u64 0, .string (⟨#[]⟩ : ByteArray), .string (⟨#[]⟩ : ByteArray)]) ?_ 0 _ rfl; (with_reducible repeat (first | refine blk_drewN ?_ _ | refine blk_drew ?_ | refine blk_alloc ?_ _)); exact BK178.out) hb); have n1_ := sh_S HB hb; clear BK178; clear HB; have BK178 := n0_; have HB := n1_; clear n0_ n1_; (try clear hb); (try clear hb2); (try clear hk); (try clear hi)) | ((with_reducible refine gate_callee (f := 15) rfl ?_); refine sh_C 28 Try.func15 #[.string (⟨#[1, 131, 3, 9, 0, 7]⟩ : ByteArray)] ?_; (with_reducible refine (ip4_Options.calls (⟨#[1, 131, 3, 9, 0, 7]⟩ : ByteArray) t181 t182 _ A5.out).mono ?_); rintro e w14 ⟨v183, rfl, ho0, hb⟩; refine ⟨_, rfl, ?_⟩; have HO184 := Aside0.mk (Kd.R_lower ho0 (below_size (sh_B HB))); replace BK178 := sh_L BK178 hb; replace HB := sh_S HB hb; (try clear hb); (try clear hb2); (try clear hk); (try clear hi); (try clear ho0)) | ((with_reducible refine gate_callee (f := 15) rfl ?_); refine sh_C 32 Try.func15 #[.string (⟨#[7, 1]⟩ : ByteArray)] ?_; (with_reducible refine (ip4_Options.calls (⟨#[7, 1]⟩ : ByteArray) t185 t186 _ A6.out).mono ?_); rintro e w15 ⟨v187, rfl, ho0, hb⟩; refine ⟨_, rfl, ?_⟩; have n0_ := Aside0.mk (Kd.R_elder' (by (with_reducible repeat (first | apply Kd.R_alloc | apply Kd.R_drewN | apply Kd.R_drew)); exact HO184.out) (Kd.R_base ho0) hb); have n1_ := Aside0.mk (Kd.R_lower (Kd.R_new' ho0 (Kd.R_lt (by (with_reducible repeat (first | apply Kd.R_alloc | apply Kd.R_drewN | apply Kd.R_drew)); exact HO184.out))) (below_size (sh_B HB))); have n2_ := sh_L BK178 hb; have n3_ := sh_S HB hb; clear HO184; clear BK178; clear HB; have HO184 := n0_; have HO188 := n1_; have BK178 := n2_; have HB := n3_; clear n0_ n1_ n2_ n3_; (try clear hb); (try clear hb2); (try clear hk); (try clear hi); (try clear ho0)))
 (try simp only [Act.put, List.setIfInBounds_toArray, List.set_cons_zero, List.set_cons_succ])
 go_cut [42] (fun v42 wc => ∃ (kq : Nat) (x42_6 : Bool), v42 = .bool x42_6 ∧ Aside0 (crosswaylaw06_awake.j0 kq t160 t161 t177 t179 t180 t181 t182 t186 x42_6 t162 t163 t164 t165 t166 t167 t168 t169 t170 t171 t172 t173 t174 t175 t176 = some r) ∧ Aside0 (kq ≤ k) ∧ Aside0 (Kd.R k44 44 wc w.heap.size (fun _ => True) v183 t181) ∧ Aside0 (wc.heap[gb178]? = some (.cells #[.int .i64 t162, .int .i64 t163, .bool t164, .bool t165, .int .i64 t166, .int .i64 t167, .int .i64 t168, .bool t169, .int .u64 t170, .int .u64 t171, .bool t172, .int .u64 t173, .int .u64 t174, .string t175, .string t176] 26 (0, 0))) ∧ Aside0 (Below w.heap.size w wc))
 case first =>
  have H := HC7.out
  clear HC7
  by_cases c16 : (t160.size : Int) = 28
  ·
   rw [if_pos c16] at H
   have c16b0 : ((t160.size : Int) == 28) = true := beq_iff_eq.mpr c16
   have c16b1 : ((t160.size : Int) != 28) = false := bne_eq_false_iff_eq.mpr c16
   clear c16
   (first | rw [c16b0] | (simp only [i64_w, i32_w]; rw [c16b0]) | skip)
   have H' := Aside0.mk H
   clear H
   go_wp2
   go_meet
   case rel => exact ⟨_, (((t179.size : Int) != 28)), (by first | rfl | (simp; done) | (simp [*]; done)), H', ⟨by first | omega | exact Nat.le_refl _⟩, ⟨by (with_reducible repeat (first | apply Kd.R_alloc | apply Kd.R_drewN | apply Kd.R_drew)); exact Kd.R_mono HO184.out (fun _ hk => trivial)⟩, ⟨by (with_reducible repeat (first | refine blk_drewN ?_ _ | refine blk_drew ?_ | refine blk_alloc ?_ _)); exact BK178.out⟩, ⟨by repeat (first | (with_reducible first | exact HB.out | apply below_alloc | apply pw_below_drewN | apply below_drew1 | refine below_set ?_ GE178.out) | exact HB.out)⟩⟩
  ·
   rw [if_neg c16] at H
   have c16b0 : ((t160.size : Int) == 28) = false := beq_eq_false_iff_ne.mpr c16
   have c16b1 : ((t160.size : Int) != 28) = true := bne_iff_ne.mpr c16
   (first | rw [c16b0] | (simp only [i64_w, i32_w]; rw [c16b0]) | skip)
   have H' := Aside0.mk H
   clear H
   go_wp2
   go_meet
   case rel => exact ⟨_, (true), (by first | rfl | (simp; done) | (simp [*]; done)), H', ⟨by first | omega | exact Nat.le_refl _⟩, ⟨by (with_reducible repeat (first | apply Kd.R_alloc | apply Kd.R_drewN | apply Kd.R_drew)); exact Kd.R_mono HO184.out (fun _ hk => trivial)⟩, ⟨by (with_reducible repeat (first | refine blk_drewN ?_ _ | refine blk_drew ?_ | refine blk_alloc ?_ _)); exact BK178.out⟩, ⟨by repeat (first | (with_reducible first | exact HB.out | apply below_alloc | apply pw_below_drewN | apply below_drew1 | refine below_set ?_ GE178.out) | exact HB.out)⟩⟩
 case rest =>
  clear HC7
  try clear c1
  try clear c2
  try clear p2
  try clear p4
  try clear c8
  try clear c9
  try clear c11
  try clear c13
  try clear c15
  try clear c16
  try clear c16b0
  try clear c16b1
  try clear hcz12_0
  try clear hcz12_1
  try clear hcz12_10
  try clear hcz12_11
  try clear hcz12_12
  try clear hcz12_13
  try clear hcz12_14
  try clear hcz12_2
  try clear hcz12_3
  try clear hcz12_4
  try clear hcz12_5
  try clear hcz12_6
  try clear hcz12_7
  try clear hcz12_8
  try clear hcz12_9
  try clear hfz12_0
  try clear hfz12_1
  try clear hfz12_10
  try clear hfz12_11
  try clear hfz12_12
  try clear hfz12_13
  try clear hfz12_14
  try clear hfz12_2
  try clear hfz12_3
  try clear hfz12_4
  try clear hfz12_5
  try clear hfz12_6
  try clear hfz12_7
  try clear hfz12_8
  try clear hfz12_9
  obtain ⟨kq, x42_6, rfl, HA, HJ6, HO_7, BK178, HB⟩ := hcut
  cases kq with
  | zero => exact absurd HA.out (by simp [crosswaylaw06_awake.j0])
  | succ kj6 =>
   have H := HA.out
   clear HA
   simp only [crosswaylaw06_awake.j0] at H
   by_cases c17 : x42_6 = true
   ·
    subst c17
    rw [if_pos rfl] at H
    exact absurd ((Option.some.inj H).trans HRT.out) (by decide)
   ·
    replace c17 := Bool.eq_false_iff.mpr c17
    subst c17
    rw [if_neg (show ¬ (false = true) by decide)] at H
    by_cases c18 : t161 = 0
    ·
     rw [if_pos c18] at H
     have c18b0 : (t161 == 0) = true := beq_iff_eq.mpr c18
     have c18b1 : (t161 != 0) = false := bne_eq_false_iff_eq.mpr c18
     clear c18
     by_cases c19 : 0 ≤ 12
     ·
      rw [if_pos c19] at H
      have c19b0 := eq_true c19
      have c19b1 : decide (0 ≤ 12) = true := decide_eq_true c19
      clear c19
      by_cases c20 : 12 ≤ (t160.size : Int)
      ·
       rw [if_pos c20] at H
       have c20b0 := eq_true c20
       have c20b1 : decide (12 ≤ (t160.size : Int)) = true := decide_eq_true c20
       clear c20
       by_cases c21 : (t160.extract 0 12).toList = ([69, 0, 0, 28, 0, 0, 0, 0, 64, 17, 102, 207] : List UInt8)
       ·
        rw [if_pos c21] at H
        have c21b0 : ((t160.extract 0 12).toList == ([69, 0, 0, 28, 0, 0, 0, 0, 64, 17, 102, 207] : List UInt8)) = true := beq_iff_eq.mpr c21
        have c21b1 : ((t160.extract 0 12).toList != ([69, 0, 0, 28, 0, 0, 0, 0, 64, 17, 102, 207] : List UInt8)) = false := bne_eq_false_iff_eq.mpr c21
        clear c21
        by_cases c22 : t177 = 0
        ·
         rw [if_pos c22] at H
         have c22b0 : (t177 == 0) = true := beq_iff_eq.mpr c22
         have c22b1 : (t177 != 0) = false := bne_eq_false_iff_eq.mpr c22
         clear c22
         replace H := Option.bind_eq_some_iff.mp H
         obtain ⟨⟨t189, t190, t191, t192, t193, t194, t195, t196, t197, t198, t199, t200, t201, t202, t203⟩, A230, H⟩ := H
         replace H : (if (t162 == t189 && (t163 == t190 && (t164 == t191 && (t165 == t192 && (t166 == t193 && (t167 == t194 && (t168 == t195 && ((t169 == t196 && (t170 == t197 && (t171 == t198))) && ((t172 == t199 && (t173 == t200 && (t174 == t201))) && (t175.toList == t202.toList && (t176.toList == t203.toList))))))))))) = true then (if t180 = 0 then (if 8 ≤ 12 then (if 12 ≤ (t179.size : Int) then (if (t179.extract 8 12).toList = ([63, 17, 103, 207] : List UInt8) then (if t182 = 0 then ((crosswaylaw06_same.f kj6 t181 (([(⟨1, (⟨#[]⟩ : ByteArray)⟩ : S44), (⟨131, (⟨#[9]⟩ : ByteArray)⟩ : S44)] : List (S44)))).bind fun t207 => (if t207 = true then (if t186 = 50 then ((ip4_Kept.f kj6 (⟨#[1, 131, 3, 9, 0, 7]⟩ : ByteArray)).bind fun t208 => (some (t208.toList == ([131, 3, 9, 0] : List UInt8)))) else (some false)) else (some false))) else (some false)) else (some false)) else (none)) else (none)) else (some false)) else (some false)) = some r := H
         have A23 := Aside0.mk A230
         clear A230
         by_cases c24 : (t162 == t189 && (t163 == t190 && (t164 == t191 && (t165 == t192 && (t166 == t193 && (t167 == t194 && (t168 == t195 && ((t169 == t196 && (t170 == t197 && (t171 == t198))) && ((t172 == t199 && (t173 == t200 && (t174 == t201))) && (t175.toList == t202.toList && (t176.toList == t203.toList))))))))))) = true
         ·
          rw [if_pos c24] at H
          have c24b0 : (t162 == t189 && (t163 == t190 && (t164 == t191 && (t165 == t192 && (t166 == t193 && (t167 == t194 && (t168 == t195 && ((t169 == t196 && (t170 == t197 && (t171 == t198))) && ((t172 == t199 && (t173 == t200 && (t174 == t201))) && (t175.toList == t202.toList && (t176.toList == t203.toList))))))))))) = true := c24
          (try (have c24b1 : decide (t162 = t189 && (t163 == t190 && (t164 == t191 && (t165 == t192 && (t166 == t193 && (t167 == t194 && (t168 == t195 && ((t169 == t196 && (t170 == t197 && (t171 == t198))) && ((t172 == t199 && (t173 == t200 && (t174 == t201))) && (t175.toList == t202.toList && (t176.toList == t203.toList))))))))))) = true := by simpa using c24))
          (try (have c24b2 : (t162 == t189 && (t163 == t190 && (t164 == t191 && (t165 == t192 && (t166 == t193 && (t167 == t194 && (t168 == t195 && ((t169 == t196 && (t170 == t197 && (t171 == t198))) && ((t172 == t199 && (t173 == t200 && (t174 == t201))) && (t175.toList == t202.toList && (t176.toList == t203.toList))))))))))) = true := by simpa using c24))
          clear c24
          by_cases c25 : t180 = 0
          ·
           rw [if_pos c25] at H
           have c25b0 : (t180 == 0) = true := beq_iff_eq.mpr c25
           have c25b1 : (t180 != 0) = false := bne_eq_false_iff_eq.mpr c25
           clear c25
           by_cases c26 : 8 ≤ 12
           ·
            rw [if_pos c26] at H
            have c26b0 := eq_true c26
            have c26b1 : decide (8 ≤ 12) = true := decide_eq_true c26
            clear c26
            by_cases c27 : 12 ≤ (t179.size : Int)
            ·
             rw [if_pos c27] at H
             have c27b0 := eq_true c27
             have c27b1 : decide (12 ≤ (t179.size : Int)) = true := decide_eq_true c27
             clear c27
             by_cases c28 : (t179.extract 8 12).toList = ([63, 17, 103, 207] : List UInt8)
             ·
              rw [if_pos c28] at H
              have c28b0 : ((t179.extract 8 12).toList == ([63, 17, 103, 207] : List UInt8)) = true := beq_iff_eq.mpr c28
              have c28b1 : ((t179.extract 8 12).toList != ([63, 17, 103, 207] : List UInt8)) = false := bne_eq_false_iff_eq.mpr c28
              clear c28
              by_cases c29 : t182 = 0
              ·
               rw [if_pos c29] at H
               have c29b0 : (t182 == 0) = true := beq_iff_eq.mpr c29
               have c29b1 : (t182 != 0) = false := bne_eq_false_iff_eq.mpr c29
               clear c29
               obtain ⟨y204, hy204⟩ : ∃ y_ : List (S44), y_ = (([(⟨1, (⟨#[]⟩ : ByteArray)⟩ : S44), (⟨131, (⟨#[9]⟩ : ByteArray)⟩ : S44)] : List (S44))) := ⟨_, rfl⟩
               replace H : ((crosswaylaw06_same.f kj6 t181 y204).bind fun t207 => (if t207 = true then (if t186 = 50 then ((ip4_Kept.f kj6 (⟨#[1, 131, 3, 9, 0, 7]⟩ : ByteArray)).bind fun t208 => (some (t208.toList == ([131, 3, 9, 0] : List UInt8)))) else (some false)) else (some false))) = some r := by first | (rw [hy204]; with_reducible exact H) | (have H2_ := (Option.bind_some _ _).symm.trans H; rw [hy204]; with_reducible exact H2_) | (have H2_ := (Option.bind_some _ _).symm.trans H; with_reducible exact H2_) | with_reducible exact H | (rw [hy204]; exact H) | exact H
               have Ny204 := Aside0.mk hy204
               clear hy204
               replace H := Option.bind_eq_some_iff.mp H
               obtain ⟨t207, A300, H⟩ := H
               have A30 := Aside0.mk A300
               clear A300
               by_cases c31 : t207 = true
               ·
                subst c31
                rw [if_pos rfl] at H
                by_cases c32 : t186 = 50
                ·
                 rw [if_pos c32] at H
                 have c32b0 : (t186 == 50) = true := beq_iff_eq.mpr c32
                 have c32b1 : (t186 != 50) = false := bne_eq_false_iff_eq.mpr c32
                 clear c32
                 replace H := Option.bind_eq_some_iff.mp H
                 obtain ⟨t208, A330, H⟩ := H
                 have A33 := Aside0.mk A330
                 clear A330
                 obtain rfl := Option.some.inj H
                 try go_wp2
                 have n0_ := Aside0.mk (Kd.R_drew HO_7.out)
                 have n1_ := Aside0.mk (blk_drew BK178.out)
                 have n2_ := Aside0.mk (below_drew1 HB.out)
                 clear HO_7 BK178 HB
                 have HO_7 := n0_
                 have BK178 := n1_
                 have HB := n2_
                 clear n0_ n1_ n2_
                 refine start_ (n := 26) (S := fun w' => w'.cell? ⟨gb178, 0, none⟩ = some (.int .i64 t162) ∧ w'.cell? ⟨gb178, 1, none⟩ = some (.int .i64 t163) ∧ w'.cell? ⟨gb178, 2, none⟩ = some (.bool t164) ∧ w'.cell? ⟨gb178, 3, none⟩ = some (.bool t165) ∧ w'.cell? ⟨gb178, 4, none⟩ = some (.int .i64 t166) ∧ w'.cell? ⟨gb178, 5, none⟩ = some (.int .i64 t167) ∧ w'.cell? ⟨gb178, 6, none⟩ = some (.int .i64 t168) ∧ w'.cell? ⟨gb178, 7, none⟩ = some (.bool t169) ∧ w'.cell? ⟨gb178, 8, none⟩ = some (.int .u64 t170) ∧ w'.cell? ⟨gb178, 9, none⟩ = some (.int .u64 t171) ∧ w'.cell? ⟨gb178, 10, none⟩ = some (.bool t172) ∧ w'.cell? ⟨gb178, 11, none⟩ = some (.int .u64 t173) ∧ w'.cell? ⟨gb178, 12, none⟩ = some (.int .u64 t174) ∧ w'.cell? ⟨gb178, 13, none⟩ = some (.string t175) ∧ w'.cell? ⟨gb178, 14, none⟩ = some (.string t176)) (ds := []) #[false, false, false, false, false, false, false, false, false, false, false, false, false, false, false, false, false, false, false, false, false, false, false, false, false, false] (by kernel_rfl) rfl rfl ⟨(blk_cell BK178.out 0).trans rfl, (blk_cell BK178.out 1).trans rfl, (blk_cell BK178.out 2).trans rfl, (blk_cell BK178.out 3).trans rfl, (blk_cell BK178.out 4).trans rfl, (blk_cell BK178.out 5).trans rfl, (blk_cell BK178.out 6).trans rfl, (blk_cell BK178.out 7).trans rfl, (blk_cell BK178.out 8).trans rfl, (blk_cell BK178.out 9).trans rfl, (blk_cell BK178.out 10).trans rfl, (blk_cell BK178.out 11).trans rfl, (blk_cell BK178.out 12).trans rfl, (blk_cell BK178.out 13).trans rfl, (blk_cell BK178.out 14).trans rfl⟩ (fun hHeld => ?_); refine with_tabW crosswaylaw06_awake.tab8 crosswaylaw06_awake.bits8 (fun HT_ HW_ => ?_)
                 generalize wc.drew = w34 at HO_7 BK178 HB hHeld ⊢
                 refine pure_ (i := 0) (N := some 43) (v := ?_) (a' := ?_) #[true, false, false, false, false, false, false, false, false, false, false, false, false, false, false, false, false, false, false, false, false, false, false, false, false, false] rfl rfl (any_of HT_.out (by kernel_rfl)) (fun _ _ _ h => h) (Or.inl ⟨by rfl, ?_⟩) ?_ ?_
                 rotate_left
                 ·
                  intro w'
                  go_simp
                  with_reducible rfl
                 rotate_left
                 ·
                  simp only [Act.put, List.setIfInBounds_toArray, List.set_cons_zero, List.set_cons_succ, i64_w, i32_w]
                  rfl
                 refine pure_ (i := 1) (N := some 44) (v := ?_) (a' := ?_) #[true, true, false, false, false, false, false, false, false, false, false, false, false, false, false, false, false, false, false, false, false, false, false, false, false, false] rfl rfl (any_of HT_.out (by kernel_rfl)) (fun _ _ _ h => h) (Or.inl ⟨by rfl, ?_⟩) ?_ ?_
                 rotate_left
                 ·
                  intro w'
                  go_simp
                  with_reducible rfl
                 rotate_left
                 ·
                  simp only [Act.put, List.setIfInBounds_toArray, List.set_cons_zero, List.set_cons_succ, i64_w, i32_w]
                  rfl
                 refine pure_ (i := 2) (N := some 45) (v := ?_) (a' := ?_) #[true, true, true, false, false, false, false, false, false, false, false, false, false, false, false, false, false, false, false, false, false, false, false, false, false, false] rfl rfl (any_of HT_.out (by kernel_rfl)) (fun _ _ _ h => h) (Or.inl ⟨by rfl, ?_⟩) ?_ ?_
                 rotate_left
                 ·
                  intro w'
                  go_simp
                  with_reducible rfl
                 rotate_left
                 ·
                  simp only [Act.put, List.setIfInBounds_toArray, List.set_cons_zero, List.set_cons_succ, i64_w, i32_w]
                  rfl
                 refine pure_ (i := 3) (N := some 46) (v := ?_) (a' := ?_) #[true, true, true, true, false, false, false, false, false, false, false, false, false, false, false, false, false, false, false, false, false, false, false, false, false, false] rfl rfl (any_of HT_.out (by kernel_rfl)) (fun _ _ _ h => h) (Or.inl ⟨by rfl, ?_⟩) ?_ ?_
                 rotate_left
                 ·
                  intro w'
                  go_simp
                  with_reducible rfl
                 rotate_left
                 ·
                  simp only [Act.put, List.setIfInBounds_toArray, List.set_cons_zero, List.set_cons_succ, i64_w, i32_w]
                  rfl
                 refine pure_ (i := 4) (N := some 47) (v := ?_) (a' := ?_) #[true, true, true, true, true, false, false, false, false, false, false, false, false, false, false, false, false, false, false, false, false, false, false, false, false, false] rfl rfl (any_of HT_.out (by kernel_rfl)) (fun _ _ _ h => h) (Or.inl ⟨by rfl, ?_⟩) ?_ ?_
                 rotate_left
                 ·
                  intro w'
                  go_simp
                  with_reducible rfl
                 rotate_left
                 ·
                  simp only [Act.put, List.setIfInBounds_toArray, List.set_cons_zero, List.set_cons_succ, i64_w, i32_w]
                  rfl
                 refine pure_ (i := 5) (N := some 48) (v := ?_) (a' := ?_) #[true, true, true, true, true, true, false, false, false, false, false, false, false, false, false, false, false, false, false, false, false, false, false, false, false, false] rfl rfl (any_of HT_.out (by kernel_rfl)) (fun _ _ _ h => h) (Or.inl ⟨by rfl, ?_⟩) ?_ ?_
                 rotate_left
                 ·
                  intro w'
                  go_simp
                  with_reducible rfl
                 rotate_left
                 ·
                  simp only [Act.put, List.setIfInBounds_toArray, List.set_cons_zero, List.set_cons_succ, i64_w, i32_w]
                  rfl
                 refine pure_ (i := 6) (N := some 49) (v := ?_) (a' := ?_) #[true, true, true, true, true, true, true, false, false, false, false, false, false, false, false, false, false, false, false, false, false, false, false, false, false, false] rfl rfl (any_of HT_.out (by kernel_rfl)) (fun _ _ _ h => h) (Or.inl ⟨by rfl, ?_⟩) ?_ ?_
                 rotate_left
                 ·
                  intro w'
                  go_simp
                  with_reducible rfl
                 rotate_left
                 ·
                  simp only [Act.put, List.setIfInBounds_toArray, List.set_cons_zero, List.set_cons_succ, i64_w, i32_w]
                  rfl
                 refine pure_ (i := 7) (N := some 50) (v := ?_) (a' := ?_) #[true, true, true, true, true, true, true, true, false, false, false, false, false, false, false, false, false, false, false, false, false, false, false, false, false, false] rfl rfl (any_of HT_.out (by kernel_rfl)) (fun _ _ _ h => h) (Or.inl ⟨by rfl, ?_⟩) ?_ ?_
                 rotate_left
                 ·
                  intro w'
                  go_simp
                  with_reducible rfl
                 rotate_left
                 ·
                  simp only [Act.put, List.setIfInBounds_toArray, List.set_cons_zero, List.set_cons_succ, i64_w, i32_w]
                  rfl
                 refine pure_ (i := 8) (N := some 51) (v := ?_) (a' := ?_) #[true, true, true, true, true, true, true, true, true, false, false, false, false, false, false, false, false, false, false, false, false, false, false, false, false, false] rfl rfl (any_of HT_.out (by kernel_rfl)) (fun _ _ _ h => h) (Or.inl ⟨by rfl, ?_⟩) ?_ ?_
                 rotate_left
                 ·
                  intro w'
                  go_simp
                  with_reducible rfl
                 rotate_left
                 ·
                  simp only [Act.put, List.setIfInBounds_toArray, List.set_cons_zero, List.set_cons_succ, i64_w, i32_w]
                  rfl
                 refine pure_ (i := 9) (N := some 52) (v := ?_) (a' := ?_) #[true, true, true, true, true, true, true, true, true, true, false, false, false, false, false, false, false, false, false, false, false, false, false, false, false, false] rfl rfl (any_of HT_.out (by kernel_rfl)) (fun _ _ _ h => h) (Or.inl ⟨by rfl, ?_⟩) ?_ ?_
                 rotate_left
                 ·
                  intro w'
                  go_simp
                  with_reducible rfl
                 rotate_left
                 ·
                  simp only [Act.put, List.setIfInBounds_toArray, List.set_cons_zero, List.set_cons_succ, i64_w, i32_w]
                  rfl
                 refine pure_ (i := 10) (N := some 53) (v := ?_) (a' := ?_) #[true, true, true, true, true, true, true, true, true, true, true, false, false, false, false, false, false, false, false, false, false, false, false, false, false, false] rfl rfl (any_of HT_.out (by kernel_rfl)) (fun _ _ _ h => h) (Or.inl ⟨by rfl, ?_⟩) ?_ ?_
                 rotate_left
                 ·
                  intro w'
                  go_simp
                  with_reducible rfl
                 rotate_left
                 ·
                  simp only [Act.put, List.setIfInBounds_toArray, List.set_cons_zero, List.set_cons_succ, i64_w, i32_w]
                  rfl
                 refine pure_ (i := 11) (N := some 54) (v := ?_) (a' := ?_) #[true, true, true, true, true, true, true, true, true, true, true, true, false, false, false, false, false, false, false, false, false, false, false, false, false, false] rfl rfl (any_of HT_.out (by kernel_rfl)) (fun _ _ _ h => h) (Or.inl ⟨by rfl, ?_⟩) ?_ ?_
                 rotate_left
                 ·
                  intro w'
                  go_simp
                  with_reducible rfl
                 rotate_left
                 ·
                  simp only [Act.put, List.setIfInBounds_toArray, List.set_cons_zero, List.set_cons_succ, i64_w, i32_w]
                  rfl
                 refine take_ (i := 12) (N := some 55) (v := ?_) (a' := ?_) #[true, true, true, true, true, true, true, true, true, true, true, true, true, false, false, false, false, false, false, false, false, false, false, false, false, false] rfl rfl (take_ofW HT_.out HW_.out (by kernel_rfl)) (fun _ _ _ h => h) (Or.inl ⟨by rfl, ?_⟩) hHeld ?_ ?_
                 rotate_left
                 ·
                  rintro w' ⟨s0, s1, s2, s3, s4, s5, s6, s7, s8, s9, s10, s11, s12, s13, s14⟩
                  go_simp
                  with_reducible rfl
                 rotate_left
                 ·
                  simp only [Act.put, List.setIfInBounds_toArray, List.set_cons_zero, List.set_cons_succ, i64_w, i32_w]
                  rfl
                 refine one_ (i := 13) (N := some 56) #[true, true, true, true, true, true, true, true, true, true, true, true, true, true, false, false, false, false, false, false, false, false, false, false, false, false] rfl rfl (one_of HT_.out (by kernel_rfl)) (by decide) (fun K hK => ?_)
                 refine goes_ Try.func20 (by kernel_rfl) rfl #[] (by rfl) rfl rfl (by (try simp only [List.map_toArray, List.map_cons, List.map_nil]); first | done | rfl | (simp only [List.length_drop, List.length_take]; rfl)) ?_
                 with_reducible refine (crosswaylaw06_eight.calls  t189 t190 t191 t192 t193 t194 t195 t196 t197 t198 t199 t200 t201 t202 t203 _ A23.out).mono ?_
                 rintro e w35 ⟨rfl, hb⟩
                 refine ⟨_, rfl, ?_⟩
                 have n0_ := Aside0.mk (Kd.R_below (by (with_reducible repeat (first | apply Kd.R_alloc | apply Kd.R_drewN | apply Kd.R_drew)); exact HO_7.out) hb)
                 have n1_ := sh_L BK178 hb
                 have n2_ := sh_S HB hb
                 clear HO_7 BK178 HB
                 have HO_7 := n0_
                 have BK178 := n1_
                 have HB := n2_
                 clear n0_ n1_ n2_
                 (try clear hb)
                 (try clear hb2)
                 (try clear hk)
                 (try clear hi)
                 refine hK.out _ _ ⟨(blk_cell BK178.out 0).trans rfl, (blk_cell BK178.out 1).trans rfl, (blk_cell BK178.out 2).trans rfl, (blk_cell BK178.out 3).trans rfl, (blk_cell BK178.out 4).trans rfl, (blk_cell BK178.out 5).trans rfl, (blk_cell BK178.out 6).trans rfl, (blk_cell BK178.out 7).trans rfl, (blk_cell BK178.out 8).trans rfl, (blk_cell BK178.out 9).trans rfl, (blk_cell BK178.out 10).trans rfl, (blk_cell BK178.out 11).trans rfl, (blk_cell BK178.out 12).trans rfl, (blk_cell BK178.out 13).trans rfl, (blk_cell BK178.out 14).trans rfl⟩ (fun hHeld => ?_)
                 clear hK K
                 refine norm_ (a' := ?_) ?_ ?_
                 rotate_left
                 ·
                  show Act.put _ (some 56) _ = _
                  simp only [Act.put, List.setIfInBounds_toArray, List.set_cons_zero, List.set_cons_succ, i64_w, i32_w]
                  rfl
                 refine pure_ (i := 14) (N := some 57) (v := ?_) (a' := ?_) #[true, true, true, true, true, true, true, true, true, true, true, true, true, true, true, false, false, false, false, false, false, false, false, false, false, false] rfl rfl (any_of HT_.out (by kernel_rfl)) (fun _ _ _ h => h) (Or.inl ⟨by rfl, ?_⟩) ?_ ?_
                 rotate_left
                 ·
                  intro w'
                  go_simp
                  with_reducible rfl
                 rotate_left
                 ·
                  simp only [Act.put, List.setIfInBounds_toArray, List.set_cons_zero, List.set_cons_succ, i64_w, i32_w]
                  rfl
                 refine pure_ (i := 15) (N := some 58) (v := ?_) (a' := ?_) #[true, true, true, true, true, true, true, true, true, true, true, true, true, true, true, true, false, false, false, false, false, false, false, false, false, false] rfl rfl (any_of HT_.out (by kernel_rfl)) (fun _ _ _ h => h) (Or.inl ⟨by rfl, ?_⟩) ?_ ?_
                 rotate_left
                 ·
                  intro w'
                  go_simp
                  with_reducible rfl
                 rotate_left
                 ·
                  simp only [Act.put, List.setIfInBounds_toArray, List.set_cons_zero, List.set_cons_succ, i64_w, i32_w]
                  rfl
                 refine pure_ (i := 16) (N := some 59) (v := ?_) (a' := ?_) #[true, true, true, true, true, true, true, true, true, true, true, true, true, true, true, true, true, false, false, false, false, false, false, false, false, false] rfl rfl (any_of HT_.out (by kernel_rfl)) (fun _ _ _ h => h) (Or.inl ⟨by rfl, ?_⟩) ?_ ?_
                 rotate_left
                 ·
                  intro w'
                  go_simp
                  with_reducible rfl
                 rotate_left
                 ·
                  simp only [Act.put, List.setIfInBounds_toArray, List.set_cons_zero, List.set_cons_succ, i64_w, i32_w]
                  rfl
                 refine pure_ (i := 17) (N := some 60) (v := ?_) (a' := ?_) #[true, true, true, true, true, true, true, true, true, true, true, true, true, true, true, true, true, true, false, false, false, false, false, false, false, false] rfl rfl (any_of HT_.out (by kernel_rfl)) (fun _ _ _ h => h) (Or.inl ⟨by rfl, ?_⟩) ?_ ?_
                 rotate_left
                 ·
                  intro w'
                  go_simp
                  with_reducible rfl
                 rotate_left
                 ·
                  simp only [Act.put, List.setIfInBounds_toArray, List.set_cons_zero, List.set_cons_succ, i64_w, i32_w]
                  rfl
                 refine pure_ (i := 18) (N := some 61) (v := ?_) (a' := ?_) #[true, true, true, true, true, true, true, true, true, true, true, true, true, true, true, true, true, true, true, false, false, false, false, false, false, false] rfl rfl (any_of HT_.out (by kernel_rfl)) (fun _ _ _ h => h) (Or.inl ⟨by rfl, ?_⟩) ?_ ?_
                 rotate_left
                 ·
                  intro w'
                  go_simp
                  with_reducible rfl
                 rotate_left
                 ·
                  simp only [Act.put, List.setIfInBounds_toArray, List.set_cons_zero, List.set_cons_succ, i64_w, i32_w]
                  rfl
                 refine pure_ (i := 19) (N := some 62) (v := ?_) (a' := ?_) #[true, true, true, true, true, true, true, true, true, true, true, true, true, true, true, true, true, true, true, true, false, false, false, false, false, false] rfl rfl (any_of HT_.out (by kernel_rfl)) (fun _ _ _ h => h) (Or.inl ⟨by rfl, ?_⟩) ?_ ?_
                 rotate_left
                 ·
                  intro w'
                  go_simp
                  with_reducible rfl
                 rotate_left
                 ·
                  simp only [Act.put, List.setIfInBounds_toArray, List.set_cons_zero, List.set_cons_succ, i64_w, i32_w]
                  rfl
                 refine pure_ (i := 20) (N := some 63) (v := ?_) (a' := ?_) #[true, true, true, true, true, true, true, true, true, true, true, true, true, true, true, true, true, true, true, true, true, false, false, false, false, false] rfl rfl (any_of HT_.out (by kernel_rfl)) (fun _ _ _ h => h) (Or.inl ⟨by rfl, ?_⟩) ?_ ?_
                 rotate_left
                 ·
                  intro w'
                  go_simp
                  with_reducible rfl
                 rotate_left
                 ·
                  simp only [Act.put, List.setIfInBounds_toArray, List.set_cons_zero, List.set_cons_succ, i64_w, i32_w]
                  rfl
                 refine pure_ (i := 21) (N := some 64) (v := ?_) (a' := ?_) #[true, true, true, true, true, true, true, true, true, true, true, true, true, true, true, true, true, true, true, true, true, true, false, false, false, false] rfl rfl (any_of HT_.out (by kernel_rfl)) (fun _ _ _ h => h) (Or.inl ⟨by rfl, ?_⟩) ?_ ?_
                 rotate_left
                 ·
                  intro w'
                  go_simp
                  with_reducible rfl
                 rotate_left
                 ·
                  simp only [Act.put, List.setIfInBounds_toArray, List.set_cons_zero, List.set_cons_succ, i64_w, i32_w]
                  rfl
                 refine pure_ (i := 22) (N := some 65) (v := ?_) (a' := ?_) #[true, true, true, true, true, true, true, true, true, true, true, true, true, true, true, true, true, true, true, true, true, true, true, false, false, false] rfl rfl (any_of HT_.out (by kernel_rfl)) (fun _ _ _ h => h) (Or.inl ⟨by rfl, ?_⟩) ?_ ?_
                 rotate_left
                 ·
                  intro w'
                  go_simp
                  with_reducible rfl
                 rotate_left
                 ·
                  simp only [Act.put, List.setIfInBounds_toArray, List.set_cons_zero, List.set_cons_succ, i64_w, i32_w]
                  rfl
                 refine pure_ (i := 23) (N := some 66) (v := ?_) (a' := ?_) #[true, true, true, true, true, true, true, true, true, true, true, true, true, true, true, true, true, true, true, true, true, true, true, true, false, false] rfl rfl (any_of HT_.out (by kernel_rfl)) (fun _ _ _ h => h) (Or.inl ⟨by rfl, ?_⟩) ?_ ?_
                 rotate_left
                 ·
                  intro w'
                  go_simp
                  with_reducible rfl
                 rotate_left
                 ·
                  simp only [Act.put, List.setIfInBounds_toArray, List.set_cons_zero, List.set_cons_succ, i64_w, i32_w]
                  rfl
                 refine pure_ (i := 24) (N := some 67) (v := ?_) (a' := ?_) #[true, true, true, true, true, true, true, true, true, true, true, true, true, true, true, true, true, true, true, true, true, true, true, true, true, false] rfl rfl (any_of HT_.out (by kernel_rfl)) (fun _ _ _ h => h) (Or.inl ⟨by rfl, ?_⟩) ?_ ?_
                 rotate_left
                 ·
                  intro w'
                  go_simp
                  with_reducible rfl
                 rotate_left
                 ·
                  simp only [Act.put, List.setIfInBounds_toArray, List.set_cons_zero, List.set_cons_succ, i64_w, i32_w]
                  rfl
                 refine pure_ (i := 25) (N := some 11) (v := ?_) (a' := ?_) #[true, true, true, true, true, true, true, true, true, true, true, true, true, true, true, true, true, true, true, true, true, true, true, true, true, true] rfl rfl (any_of HT_.out (by kernel_rfl)) (fun _ _ _ h => h) (Or.inl ⟨by rfl, ?_⟩) ?_ ?_
                 rotate_left
                 ·
                  intro w'
                  go_simp
                  with_reducible rfl
                 rotate_left
                 ·
                  simp only [Act.put, List.setIfInBounds_toArray, List.set_cons_zero, List.set_cons_succ, i64_w, i32_w]
                  rfl
                 refine done_ (done_of HT_.out (by kernel_rfl)) ?_
                 try go_wp2_with (first | ((with_reducible refine gate_dst (N := 77) rfl ?_); (try (refine gate_guard (by rfl) ?_; dsimp only)); refine Kd.R_lit k44 _ 44 ?hg (N := 77) ?hd (xs := ([(⟨1, (⟨#[]⟩ : ByteArray)⟩ : S44), (⟨131, (⟨#[9]⟩ : ByteArray)⟩ : S44)] : List (S44))) (inner := [.int .i64 1, .string (⟨#[]⟩ : ByteArray), .int .i64 131, .string (⟨#[9]⟩ : ByteArray)]) (ok := fun _ => True) (okp := fun _ => True) ?hr ?hp (fun _ hk => hk) trivial (Below.refl _ _) (Nat.le_refl _) (by simp) ?_; (case hd => rfl); (case hg => rfl); (case hr => first | (go_simp; done) | (go_simp; rfl)); (case hp => exact (Reps.c2 (show Kd.M k44 _ _ _ (⟨1, (⟨#[]⟩ : ByteArray)⟩ : S44) [.int .i64 1, .string (⟨#[]⟩ : ByteArray)] from (k44_mkM _ _ _ (⟨1, (⟨#[]⟩ : ByteArray)⟩ : S44) )) (Reps.c2 (show Kd.M k44 _ _ _ (⟨131, (⟨#[9]⟩ : ByteArray)⟩ : S44) [.int .i64 131, .string (⟨#[9]⟩ : ByteArray)] from (k44_mkM _ _ _ (⟨131, (⟨#[9]⟩ : ByteArray)⟩ : S44) )) (Reps.none _ _)))); intro v205 w36 ho37 hb hg_ hnew_; clear hg_ hnew_; (first | rw [← Ny204.out] at ho37 | (simp only [Int.reduceToNat] at ho37; rw [← Ny204.out] at ho37)); have n0_ := Aside0.mk (Kd.R_elder' (by (with_reducible repeat (first | apply Kd.R_alloc | apply Kd.R_drewN | apply Kd.R_drew)); exact HO_7.out) (Kd.R_base ho37) hb); have n1_ := Aside0.mk (Kd.R_lower (Kd.R_new' ho37 (Kd.R_lt (by (with_reducible repeat (first | apply Kd.R_alloc | apply Kd.R_drewN | apply Kd.R_drew)); exact HO_7.out))) (below_size (sh_B HB))); have n2_ := sh_L BK178 hb; have n3_ := sh_S HB hb; clear HO_7; clear BK178; clear HB; have HO_7 := n0_; have HO206 := n1_; have BK178 := n2_; have HB := n3_; clear n0_ n1_ n2_ n3_; clear hb ho37; obtain ⟨Ao38, co38, eo38⟩ := Kd.R_slice HO_7.out; subst eo38; obtain ⟨Ao39, co39, eo39⟩ := Kd.R_slice HO206.out; subst eo39) | (go_at_call 17; (with_reducible refine (crosswaylaw06_same.calls kj6 _ _ t181 _ _ y204 true _ ?side1 ?side2 ?side3 ?side4 A30.out).mono ?_); (case side1 => repeat (first | exact (Kd.R_reads' HO_7.out).2.2 | (with_reducible refine Kd.C_alloc ?_ _) | (with_reducible refine Kd.C_drewN ?_ _) | (with_reducible refine Kd.C_drew ?_))); (case side2 => exact (Kd.R_reads' HO_7.out).2.1); (case side3 => repeat (first | exact (Kd.R_reads' HO206.out).2.2 | (with_reducible refine Kd.C_alloc ?_ _) | (with_reducible refine Kd.C_drewN ?_ _) | (with_reducible refine Kd.C_drew ?_))); (case side4 => exact (Kd.R_reads' HO206.out).2.1); rintro e w' ⟨rfl, ⟨nd, rfl⟩⟩) | (go_at_call 18; (with_reducible refine (ip4_Kept.calls kj6 (⟨#[1, 131, 3, 9, 0, 7]⟩ : ByteArray) t208 _ A33.out).mono ?_); rintro e w40 ⟨rfl, hb⟩; have n0_ := Aside0.mk (Kd.R_below (by (with_reducible repeat (first | apply Kd.R_alloc | apply Kd.R_drewN | apply Kd.R_drew)); exact HO_7.out) hb); have n1_ := Aside0.mk (Kd.R_below (by (with_reducible repeat (first | apply Kd.R_alloc | apply Kd.R_drewN | apply Kd.R_drew)); exact HO206.out) hb); have n2_ := sh_L BK178 hb; have n3_ := sh_S HB hb; clear HO_7; clear HO206; clear BK178; clear HB; have HO_7 := n0_; have HO206 := n1_; have BK178 := n2_; have HB := n3_; clear n0_ n1_ n2_ n3_; (try clear hb); (try clear hb2); (try clear hk); (try clear hi)))
                 go_ret
                 exact ⟨by first | rfl | (simp [errW_none, errW_some] <;> rfl) | (simp [*, errW_none, errW_some] <;> rfl), by repeat (first | (with_reducible first | exact HB.out | apply below_alloc | apply pw_below_drewN | apply below_drew1 | refine below_set ?_ GE178.out) | exact HB.out)⟩
                ·
                 rw [if_neg c32] at H
                 have c32b0 : (t186 == 50) = false := beq_eq_false_iff_ne.mpr c32
                 have c32b1 : (t186 != 50) = true := bne_iff_ne.mpr c32
                 exact absurd ((Option.some.inj H).trans HRT.out) (by decide)
               ·
                replace c31 := Bool.eq_false_iff.mpr c31
                subst c31
                rw [if_neg (show ¬ (false = true) by decide)] at H
                exact absurd ((Option.some.inj H).trans HRT.out) (by decide)
              ·
               rw [if_neg c29] at H
               have c29b0 : (t182 == 0) = false := beq_eq_false_iff_ne.mpr c29
               have c29b1 : (t182 != 0) = true := bne_iff_ne.mpr c29
               exact absurd ((Option.some.inj H).trans HRT.out) (by decide)
             ·
              rw [if_neg c28] at H
              have c28b0 : ((t179.extract 8 12).toList == ([63, 17, 103, 207] : List UInt8)) = false := beq_eq_false_iff_ne.mpr c28
              have c28b1 : ((t179.extract 8 12).toList != ([63, 17, 103, 207] : List UInt8)) = true := bne_iff_ne.mpr c28
              exact absurd ((Option.some.inj H).trans HRT.out) (by decide)
            ·
             rw [if_neg c27] at H
             exact absurd H (by simp)
           ·
            rw [if_neg c26] at H
            exact absurd H (by simp)
          ·
           rw [if_neg c25] at H
           have c25b0 : (t180 == 0) = false := beq_eq_false_iff_ne.mpr c25
           have c25b1 : (t180 != 0) = true := bne_iff_ne.mpr c25
           exact absurd ((Option.some.inj H).trans HRT.out) (by decide)
         ·
          rw [if_neg c24] at H
          have c24b0 : (t162 == t189 && (t163 == t190 && (t164 == t191 && (t165 == t192 && (t166 == t193 && (t167 == t194 && (t168 == t195 && ((t169 == t196 && (t170 == t197 && (t171 == t198))) && ((t172 == t199 && (t173 == t200 && (t174 == t201))) && (t175.toList == t202.toList && (t176.toList == t203.toList))))))))))) = false := by simpa using c24
          (try (have c24b1 : decide (t162 = t189 && (t163 == t190 && (t164 == t191 && (t165 == t192 && (t166 == t193 && (t167 == t194 && (t168 == t195 && ((t169 == t196 && (t170 == t197 && (t171 == t198))) && ((t172 == t199 && (t173 == t200 && (t174 == t201))) && (t175.toList == t202.toList && (t176.toList == t203.toList))))))))))) = false := by simpa using c24))
          (try (have c24b2 : (t162 == t189 && (t163 == t190 && (t164 == t191 && (t165 == t192 && (t166 == t193 && (t167 == t194 && (t168 == t195 && ((t169 == t196 && (t170 == t197 && (t171 == t198))) && ((t172 == t199 && (t173 == t200 && (t174 == t201))) && (t175.toList == t202.toList && (t176.toList == t203.toList))))))))))) = false := by simpa using c24))
          (try (have c24b3 : ¬ (t162 = t189 && (t163 == t190 && (t164 == t191 && (t165 == t192 && (t166 == t193 && (t167 == t194 && (t168 == t195 && ((t169 == t196 && (t170 == t197 && (t171 == t198))) && ((t172 == t199 && (t173 == t200 && (t174 == t201))) && (t175.toList == t202.toList && (t176.toList == t203.toList))))))))))) := by simpa using c24))
          clear c24
          exact absurd ((Option.some.inj H).trans HRT.out) (by decide)
        ·
         rw [if_neg c22] at H
         have c22b0 : (t177 == 0) = false := beq_eq_false_iff_ne.mpr c22
         have c22b1 : (t177 != 0) = true := bne_iff_ne.mpr c22
         exact absurd ((Option.some.inj H).trans HRT.out) (by decide)
       ·
        rw [if_neg c21] at H
        have c21b0 : ((t160.extract 0 12).toList == ([69, 0, 0, 28, 0, 0, 0, 0, 64, 17, 102, 207] : List UInt8)) = false := beq_eq_false_iff_ne.mpr c21
        have c21b1 : ((t160.extract 0 12).toList != ([69, 0, 0, 28, 0, 0, 0, 0, 64, 17, 102, 207] : List UInt8)) = true := bne_iff_ne.mpr c21
        exact absurd ((Option.some.inj H).trans HRT.out) (by decide)
      ·
       rw [if_neg c20] at H
       exact absurd H (by simp)
     ·
      rw [if_neg c19] at H
      exact absurd H (by simp)
    ·
     rw [if_neg c18] at H
     have c18b0 : (t161 == 0) = false := beq_eq_false_iff_ne.mpr c18
     have c18b1 : (t161 != 0) = true := bne_iff_ne.mpr c18
     exact absurd ((Option.some.inj H).trans HRT.out) (by decide)
def crosswaylaw06_awake.f (k : Nat) : Option Bool := (crosswaylaw06_awake.f0 k).bind fun b => if b = true then some true else none
theorem crosswaylaw06_awake.mono : ∀ k, LeO (crosswaylaw06_awake.f k) (crosswaylaw06_awake.f (k + 1)) := fun k => LeO.bind (crosswaylaw06_awake.mono0 k) (fun _ => LeO.refl _)
theorem crosswaylaw06_awake.calls (k : Nat) (r : Bool) (w : World) (h : crosswaylaw06_awake.f k = some r) :
  Calls Try.prog 8 #[] w fun e w' => e = .returned (.bool r) ∧ Below w.heap.size w w' := by
 unfold crosswaylaw06_awake.f at h
 obtain ⟨b, hb, h⟩ := Option.bind_eq_some_iff.1 h
 cases b with
 | false => exact absurd h (by simp)
 | true =>
  rw [if_pos rfl] at h
  obtain rfl := Option.some.inj h
  exact crosswaylaw06_awake.calls0 k true w hb rfl

end Go.Proofs.Ytedampcicmaamaa.PBase
