/- Functions of the program as Lean functions, each with a proof that a call comes to what it says. Conditions: those of each theorem. Laid by a program of this session. -/
import Derived.Test.YthajbaheejdoaaaDoorPBasex0
import Derived.Test.YthajbaheejdoaaaDoorPBasex3
import Derived.Test.YthajbaheejdoaaaDoorPBasex4
import Derived.Test.YthajbaheejdoaaaDoorPBasex5
import Derived.Test.YthajbaheejdoaaaDoorPBasex6
import Derived.Test.YthajbaheejdoaaaDoorPBasex7
import Derived.Test.YthajbaheejdoaaaDoorPBasex8
namespace Go.Proofs.YthajbaheejdoaaaDoor.PBase
open Go.RowKit Go.Proofs.YthajbaheejdoaaaDoor Go.Proofs.YthajbaheejdoaaaDoorW.PrintWords Go.Proofs.YthajbaheejdoaaaDoorW.PrintLast Go.Proofs.YthajbaheejdoaaaDoorW.PrintMore
attribute [local go_sem] max2_int min2_int max_two min_two max_three min_three max_four min_four   -- for this text's walks alone
set_option linter.unusedVariables false
set_option linter.unusedSimpArgs false

attribute [local go_sem high] eqA29
/-! ### crosswaylaw05_awake: function 10 -/
def crosswaylaw05_awake.f0 (k : Nat)  : Option (Bool) := (ether_Lay.f k 1 2 2048 (⟨#[97, 98]⟩ : ByteArray)).bind fun bt147 => ((ether_Take.f k bt147.1).bind fun bt149 => ((ether_Take.f k (⟨#[48, 49, 50, 51, 52, 53, 54, 55, 56, 57, 97, 98, 99]⟩ : ByteArray)).bind fun bt155 => ((crosswaylaw05_ask.f).bind fun bt161 => ((ether_LayArp.f bt161.1 bt161.2.1 bt161.2.2.1 bt161.2.2.2.1 bt161.2.2.2.2.1 bt161.2.2.2.2.2.1 bt161.2.2.2.2.2.2.1 bt161.2.2.2.2.2.2.2.1 bt161.2.2.2.2.2.2.2.2).bind fun bt170 => ((ether_TakeArp.f k bt170.1).bind fun bt172 => ((ether_ParseMac.f k (⟨#[48, 49, 58, 48, 48, 58, 53, 69, 58, 48, 48, 58, 48, 48, 58, 102, 98]⟩ : ByteArray)).bind fun bt183 => (if bt147.2 = 0 then (if (bt147.1.size : Int) = 60 then (if 0 ≤ 16 then (if 16 ≤ (bt147.1.size : Int) then (if (bt147.1.extract 0 16).toList = ([0, 0, 0, 0, 0, 1, 0, 0, 0, 0, 0, 2, 8, 0, 97, 98] : List UInt8) then (if bt149.2.2.2.2 = 0 then (if bt149.2.1 = 2 then (if bt170.2 = 0 then (if (bt170.1.size : Int) = 28 then (if bt172.2.2.2.2.2.2.2.2.2 = 0 then ((crosswaylaw05_ask.f).bind fun bt185 => (if (bt172.1 == bt185.1 && (bt172.2.1 == bt185.2.1 && ((bt172.2.2.1 == bt185.2.2.1 && (bt172.2.2.2.1 == bt185.2.2.2.1 && (bt172.2.2.2.2.1 == bt185.2.2.2.2.1))) && (bt172.2.2.2.2.2.1 == bt185.2.2.2.2.2.1 && ((bt172.2.2.2.2.2.2.1 == bt185.2.2.2.2.2.2.1 && (bt172.2.2.2.2.2.2.2.1 == bt185.2.2.2.2.2.2.2.1 && (bt172.2.2.2.2.2.2.2.2.1 == bt185.2.2.2.2.2.2.2.2)))))))) = true then (if bt183.2 = 0 then (if bt183.1 = 1101088686331 then ((ether_PrintMac.f k 5).bind fun t194 => (if bt155.2.2.2.2 = 41 then (if t194.toList = ([48, 48, 58, 48, 48, 58, 48, 48, 58, 48, 48, 58, 48, 48, 58, 48, 53] : List UInt8) then ((ether_Group.f k false 0 3758096635).bind fun t195 => (some (t195 == bt183.1))) else (some false)) else (some false))) else (if bt155.2.2.2.2 = 41 then (some false) else (some false))) else (if bt155.2.2.2.2 = 41 then (some false) else (some false))) else (if bt155.2.2.2.2 = 41 then (some false) else (some false)))) else (if bt155.2.2.2.2 = 41 then (some false) else (some false))) else (if bt155.2.2.2.2 = 41 then (some false) else (some false))) else (if bt155.2.2.2.2 = 41 then (some false) else (some false))) else (if bt170.2 = 0 then (if (bt170.1.size : Int) = 28 then (if bt172.2.2.2.2.2.2.2.2.2 = 0 then ((crosswaylaw05_ask.f).bind fun bt196 => (if (bt172.1 == bt196.1 && (bt172.2.1 == bt196.2.1 && ((bt172.2.2.1 == bt196.2.2.1 && (bt172.2.2.2.1 == bt196.2.2.2.1 && (bt172.2.2.2.2.1 == bt196.2.2.2.2.1))) && (bt172.2.2.2.2.2.1 == bt196.2.2.2.2.2.1 && ((bt172.2.2.2.2.2.2.1 == bt196.2.2.2.2.2.2.1 && (bt172.2.2.2.2.2.2.2.1 == bt196.2.2.2.2.2.2.2.1 && (bt172.2.2.2.2.2.2.2.2.1 == bt196.2.2.2.2.2.2.2.2)))))))) = true then (if bt183.2 = 0 then (if bt183.1 = 1101088686331 then ((ether_PrintMac.f k 5).bind fun t205 => (some false)) else (some false)) else (some false)) else (some false))) else (some false)) else (some false)) else (some false))) else (if bt170.2 = 0 then (if (bt170.1.size : Int) = 28 then (if bt172.2.2.2.2.2.2.2.2.2 = 0 then ((crosswaylaw05_ask.f).bind fun bt206 => (if (bt172.1 == bt206.1 && (bt172.2.1 == bt206.2.1 && ((bt172.2.2.1 == bt206.2.2.1 && (bt172.2.2.2.1 == bt206.2.2.2.1 && (bt172.2.2.2.2.1 == bt206.2.2.2.2.1))) && (bt172.2.2.2.2.2.1 == bt206.2.2.2.2.2.1 && ((bt172.2.2.2.2.2.2.1 == bt206.2.2.2.2.2.2.1 && (bt172.2.2.2.2.2.2.2.1 == bt206.2.2.2.2.2.2.2.1 && (bt172.2.2.2.2.2.2.2.2.1 == bt206.2.2.2.2.2.2.2.2)))))))) = true then (if bt183.2 = 0 then (if bt183.1 = 1101088686331 then ((ether_PrintMac.f k 5).bind fun t215 => (some false)) else (some false)) else (some false)) else (some false))) else (some false)) else (some false)) else (some false))) else (if bt170.2 = 0 then (if (bt170.1.size : Int) = 28 then (if bt172.2.2.2.2.2.2.2.2.2 = 0 then ((crosswaylaw05_ask.f).bind fun bt216 => (if (bt172.1 == bt216.1 && (bt172.2.1 == bt216.2.1 && ((bt172.2.2.1 == bt216.2.2.1 && (bt172.2.2.2.1 == bt216.2.2.2.1 && (bt172.2.2.2.2.1 == bt216.2.2.2.2.1))) && (bt172.2.2.2.2.2.1 == bt216.2.2.2.2.2.1 && ((bt172.2.2.2.2.2.2.1 == bt216.2.2.2.2.2.2.1 && (bt172.2.2.2.2.2.2.2.1 == bt216.2.2.2.2.2.2.2.1 && (bt172.2.2.2.2.2.2.2.2.1 == bt216.2.2.2.2.2.2.2.2)))))))) = true then (if bt183.2 = 0 then (if bt183.1 = 1101088686331 then ((ether_PrintMac.f k 5).bind fun t225 => (some false)) else (some false)) else (some false)) else (some false))) else (some false)) else (some false)) else (some false))) else (none)) else (none)) else (if bt170.2 = 0 then (if (bt170.1.size : Int) = 28 then (if bt172.2.2.2.2.2.2.2.2.2 = 0 then ((crosswaylaw05_ask.f).bind fun bt226 => (if (bt172.1 == bt226.1 && (bt172.2.1 == bt226.2.1 && ((bt172.2.2.1 == bt226.2.2.1 && (bt172.2.2.2.1 == bt226.2.2.2.1 && (bt172.2.2.2.2.1 == bt226.2.2.2.2.1))) && (bt172.2.2.2.2.2.1 == bt226.2.2.2.2.2.1 && ((bt172.2.2.2.2.2.2.1 == bt226.2.2.2.2.2.2.1 && (bt172.2.2.2.2.2.2.2.1 == bt226.2.2.2.2.2.2.2.1 && (bt172.2.2.2.2.2.2.2.2.1 == bt226.2.2.2.2.2.2.2.2)))))))) = true then (if bt183.2 = 0 then (if bt183.1 = 1101088686331 then ((ether_PrintMac.f k 5).bind fun t235 => (some false)) else (some false)) else (some false)) else (some false))) else (some false)) else (some false)) else (some false))) else (if bt170.2 = 0 then (if (bt170.1.size : Int) = 28 then (if bt172.2.2.2.2.2.2.2.2.2 = 0 then ((crosswaylaw05_ask.f).bind fun bt236 => (if (bt172.1 == bt236.1 && (bt172.2.1 == bt236.2.1 && ((bt172.2.2.1 == bt236.2.2.1 && (bt172.2.2.2.1 == bt236.2.2.2.1 && (bt172.2.2.2.2.1 == bt236.2.2.2.2.1))) && (bt172.2.2.2.2.2.1 == bt236.2.2.2.2.2.1 && ((bt172.2.2.2.2.2.2.1 == bt236.2.2.2.2.2.2.1 && (bt172.2.2.2.2.2.2.2.1 == bt236.2.2.2.2.2.2.2.1 && (bt172.2.2.2.2.2.2.2.2.1 == bt236.2.2.2.2.2.2.2.2)))))))) = true then (if bt183.2 = 0 then (if bt183.1 = 1101088686331 then ((ether_PrintMac.f k 5).bind fun t245 => (some false)) else (some false)) else (some false)) else (some false))) else (some false)) else (some false)) else (some false)))))))))
theorem crosswaylaw05_awake.mono0 : ∀ k, LeO (crosswaylaw05_awake.f0 k ) (crosswaylaw05_awake.f0 (k + 1) ) := by
 intro  k
 unfold crosswaylaw05_awake.f0
 repeat' first
   | (with_reducible exact ether_Group.mono _ _ _ _)
   | (with_reducible exact ether_Lay.mono _ _ _ _ _)
   | (with_reducible exact ether_ParseMac.mono _ _)
   | (with_reducible exact ether_PrintMac.mono _ _)
   | (with_reducible exact ether_Take.mono _ _)
   | (with_reducible exact ether_TakeArp.mono _ _)
   | (with_reducible exact LeO.refl _)
   | (with_reducible exact LeO.none _)
   | (with_reducible refine LeO.ite ?_ ?_)
   | (with_reducible refine LeO.bind ?_ (fun _ => ?_))
   | exact ether_Group.mono _ _ _ _
   | exact ether_Lay.mono _ _ _ _ _
   | exact ether_ParseMac.mono _ _
   | exact ether_PrintMac.mono _ _
   | exact ether_Take.mono _ _
   | exact ether_TakeArp.mono _ _
   | exact LeO.none _
   | refine LeO.ite ?_ ?_
   | refine LeO.bind ?_ (fun _ => ?_)
def crosswaylaw05_awake.T8 : Bool × List (List Nat × List Nat) := (true, [([], []), ([0], [0]), ([1], [1]), ([2], [2]), ([3, 2], [2, 3]), ([4, 2], [2, 4]), ([2, 5], [2, 5]), ([6, 2], [6]), ([7], [7]), ([8, 7], [7, 8]), ([7, 9], [7, 9]), ([10, 7], [10]), ([11], [11]), ([11, 11], [11]), ([12, 13, 11], [11, 12, 13]), ([11, 14], [11, 14]), ([15, 13], [15]), ([16], [16]), ([17, 16], [16, 17]), ([16, 18], [16, 18]), ([19, 16], [19]), ([20], [20]), ([21, 20], [20, 21]), ([20, 22], [20, 22]), ([23, 20], [23]), ([24, 24], [24]), ([25, 24], [24, 25]), ([24, 26], [24, 26]), ([27, 25, 0, 1, 2, 3, 4, 5, 6, 7, 8, 9, 10, 11, 12, 13, 14, 15, 16, 17, 18, 19, 20, 21, 22, 23, 24, 25, 26, 27], [27])])
def crosswaylaw05_awake.B8 : List Nat := [0, 1, 3, 7, 15, 31, 63, 127, 255, 511, 1023, 2047, 4095, 4095, 16383, 32767, 65535, 131071, 262143, 524287, 1048575, 2097151, 4194303, 8388607, 16777215, 33554431, 67108863, 134217727, 268435455]
theorem crosswaylaw05_awake.tab8 : rtab .any (opsOf Tryd.f10 8) = crosswaylaw05_awake.T8 := by kernel_rfl
theorem crosswaylaw05_awake.bits8 : waitsOk crosswaylaw05_awake.T8.2 crosswaylaw05_awake.B8 = true := by kernel_rfl
set_option maxHeartbeats 8000000 in
set_option maxRecDepth 100000 in
theorem crosswaylaw05_awake.calls0 (k : Nat)  (r : Bool) (w : World) (h : crosswaylaw05_awake.f0 k  = some r) (hrt : r = true) (hg : ether_Glob w) :
  Calls Tryd.prog 10 #[] w fun e w' => e = .returned (.bool r) ∧ Below w.heap.size w w' := by
 have HGL := Aside0.mk hg
 clear hg
 have HRT := Aside0.mk hrt
 clear hrt
 have hu25 := Tryd.underlying25
 have hu29 := Tryd.underlying29
 have hu27 := Tryd.underlying27
 have HB := Aside0.mk (Below.refl w.heap.size w)
 have H : ((ether_Lay.f k 1 2 2048 (⟨#[97, 98]⟩ : ByteArray)).bind fun bt147 => ((ether_Take.f k bt147.1).bind fun bt149 => ((ether_Take.f k (⟨#[48, 49, 50, 51, 52, 53, 54, 55, 56, 57, 97, 98, 99]⟩ : ByteArray)).bind fun bt155 => ((crosswaylaw05_ask.f).bind fun bt161 => ((ether_LayArp.f bt161.1 bt161.2.1 bt161.2.2.1 bt161.2.2.2.1 bt161.2.2.2.2.1 bt161.2.2.2.2.2.1 bt161.2.2.2.2.2.2.1 bt161.2.2.2.2.2.2.2.1 bt161.2.2.2.2.2.2.2.2).bind fun bt170 => ((ether_TakeArp.f k bt170.1).bind fun bt172 => ((ether_ParseMac.f k (⟨#[48, 49, 58, 48, 48, 58, 53, 69, 58, 48, 48, 58, 48, 48, 58, 102, 98]⟩ : ByteArray)).bind fun bt183 => (if bt147.2 = 0 then (if (bt147.1.size : Int) = 60 then (if 0 ≤ 16 then (if 16 ≤ (bt147.1.size : Int) then (if (bt147.1.extract 0 16).toList = ([0, 0, 0, 0, 0, 1, 0, 0, 0, 0, 0, 2, 8, 0, 97, 98] : List UInt8) then (if bt149.2.2.2.2 = 0 then (if bt149.2.1 = 2 then (if bt170.2 = 0 then (if (bt170.1.size : Int) = 28 then (if bt172.2.2.2.2.2.2.2.2.2 = 0 then ((crosswaylaw05_ask.f).bind fun bt185 => (if (bt172.1 == bt185.1 && (bt172.2.1 == bt185.2.1 && ((bt172.2.2.1 == bt185.2.2.1 && (bt172.2.2.2.1 == bt185.2.2.2.1 && (bt172.2.2.2.2.1 == bt185.2.2.2.2.1))) && (bt172.2.2.2.2.2.1 == bt185.2.2.2.2.2.1 && ((bt172.2.2.2.2.2.2.1 == bt185.2.2.2.2.2.2.1 && (bt172.2.2.2.2.2.2.2.1 == bt185.2.2.2.2.2.2.2.1 && (bt172.2.2.2.2.2.2.2.2.1 == bt185.2.2.2.2.2.2.2.2)))))))) = true then (if bt183.2 = 0 then (if bt183.1 = 1101088686331 then ((ether_PrintMac.f k 5).bind fun t194 => (if bt155.2.2.2.2 = 41 then (if t194.toList = ([48, 48, 58, 48, 48, 58, 48, 48, 58, 48, 48, 58, 48, 48, 58, 48, 53] : List UInt8) then ((ether_Group.f k false 0 3758096635).bind fun t195 => (some (t195 == bt183.1))) else (some false)) else (some false))) else (if bt155.2.2.2.2 = 41 then (some false) else (some false))) else (if bt155.2.2.2.2 = 41 then (some false) else (some false))) else (if bt155.2.2.2.2 = 41 then (some false) else (some false)))) else (if bt155.2.2.2.2 = 41 then (some false) else (some false))) else (if bt155.2.2.2.2 = 41 then (some false) else (some false))) else (if bt155.2.2.2.2 = 41 then (some false) else (some false))) else (if bt170.2 = 0 then (if (bt170.1.size : Int) = 28 then (if bt172.2.2.2.2.2.2.2.2.2 = 0 then ((crosswaylaw05_ask.f).bind fun bt196 => (if (bt172.1 == bt196.1 && (bt172.2.1 == bt196.2.1 && ((bt172.2.2.1 == bt196.2.2.1 && (bt172.2.2.2.1 == bt196.2.2.2.1 && (bt172.2.2.2.2.1 == bt196.2.2.2.2.1))) && (bt172.2.2.2.2.2.1 == bt196.2.2.2.2.2.1 && ((bt172.2.2.2.2.2.2.1 == bt196.2.2.2.2.2.2.1 && (bt172.2.2.2.2.2.2.2.1 == bt196.2.2.2.2.2.2.2.1 && (bt172.2.2.2.2.2.2.2.2.1 == bt196.2.2.2.2.2.2.2.2)))))))) = true then (if bt183.2 = 0 then (if bt183.1 = 1101088686331 then ((ether_PrintMac.f k 5).bind fun t205 => (some false)) else (some false)) else (some false)) else (some false))) else (some false)) else (some false)) else (some false))) else (if bt170.2 = 0 then (if (bt170.1.size : Int) = 28 then (if bt172.2.2.2.2.2.2.2.2.2 = 0 then ((crosswaylaw05_ask.f).bind fun bt206 => (if (bt172.1 == bt206.1 && (bt172.2.1 == bt206.2.1 && ((bt172.2.2.1 == bt206.2.2.1 && (bt172.2.2.2.1 == bt206.2.2.2.1 && (bt172.2.2.2.2.1 == bt206.2.2.2.2.1))) && (bt172.2.2.2.2.2.1 == bt206.2.2.2.2.2.1 && ((bt172.2.2.2.2.2.2.1 == bt206.2.2.2.2.2.2.1 && (bt172.2.2.2.2.2.2.2.1 == bt206.2.2.2.2.2.2.2.1 && (bt172.2.2.2.2.2.2.2.2.1 == bt206.2.2.2.2.2.2.2.2)))))))) = true then (if bt183.2 = 0 then (if bt183.1 = 1101088686331 then ((ether_PrintMac.f k 5).bind fun t215 => (some false)) else (some false)) else (some false)) else (some false))) else (some false)) else (some false)) else (some false))) else (if bt170.2 = 0 then (if (bt170.1.size : Int) = 28 then (if bt172.2.2.2.2.2.2.2.2.2 = 0 then ((crosswaylaw05_ask.f).bind fun bt216 => (if (bt172.1 == bt216.1 && (bt172.2.1 == bt216.2.1 && ((bt172.2.2.1 == bt216.2.2.1 && (bt172.2.2.2.1 == bt216.2.2.2.1 && (bt172.2.2.2.2.1 == bt216.2.2.2.2.1))) && (bt172.2.2.2.2.2.1 == bt216.2.2.2.2.2.1 && ((bt172.2.2.2.2.2.2.1 == bt216.2.2.2.2.2.2.1 && (bt172.2.2.2.2.2.2.2.1 == bt216.2.2.2.2.2.2.2.1 && (bt172.2.2.2.2.2.2.2.2.1 == bt216.2.2.2.2.2.2.2.2)))))))) = true then (if bt183.2 = 0 then (if bt183.1 = 1101088686331 then ((ether_PrintMac.f k 5).bind fun t225 => (some false)) else (some false)) else (some false)) else (some false))) else (some false)) else (some false)) else (some false))) else (none)) else (none)) else (if bt170.2 = 0 then (if (bt170.1.size : Int) = 28 then (if bt172.2.2.2.2.2.2.2.2.2 = 0 then ((crosswaylaw05_ask.f).bind fun bt226 => (if (bt172.1 == bt226.1 && (bt172.2.1 == bt226.2.1 && ((bt172.2.2.1 == bt226.2.2.1 && (bt172.2.2.2.1 == bt226.2.2.2.1 && (bt172.2.2.2.2.1 == bt226.2.2.2.2.1))) && (bt172.2.2.2.2.2.1 == bt226.2.2.2.2.2.1 && ((bt172.2.2.2.2.2.2.1 == bt226.2.2.2.2.2.2.1 && (bt172.2.2.2.2.2.2.2.1 == bt226.2.2.2.2.2.2.2.1 && (bt172.2.2.2.2.2.2.2.2.1 == bt226.2.2.2.2.2.2.2.2)))))))) = true then (if bt183.2 = 0 then (if bt183.1 = 1101088686331 then ((ether_PrintMac.f k 5).bind fun t235 => (some false)) else (some false)) else (some false)) else (some false))) else (some false)) else (some false)) else (some false))) else (if bt170.2 = 0 then (if (bt170.1.size : Int) = 28 then (if bt172.2.2.2.2.2.2.2.2.2 = 0 then ((crosswaylaw05_ask.f).bind fun bt236 => (if (bt172.1 == bt236.1 && (bt172.2.1 == bt236.2.1 && ((bt172.2.2.1 == bt236.2.2.1 && (bt172.2.2.2.1 == bt236.2.2.2.1 && (bt172.2.2.2.2.1 == bt236.2.2.2.2.1))) && (bt172.2.2.2.2.2.1 == bt236.2.2.2.2.2.1 && ((bt172.2.2.2.2.2.2.1 == bt236.2.2.2.2.2.2.1 && (bt172.2.2.2.2.2.2.2.1 == bt236.2.2.2.2.2.2.2.1 && (bt172.2.2.2.2.2.2.2.2.1 == bt236.2.2.2.2.2.2.2.2)))))))) = true then (if bt183.2 = 0 then (if bt183.1 = 1101088686331 then ((ether_PrintMac.f k 5).bind fun t245 => (some false)) else (some false)) else (some false)) else (some false))) else (some false)) else (some false)) else (some false)))))))))) = some r := h
 clear h
 replace H := Option.bind_eq_some_iff.mp H
 obtain ⟨⟨t147, t148⟩, A10, H⟩ := H
 replace H : ((ether_Take.f k t147).bind fun bt149 => ((ether_Take.f k (⟨#[48, 49, 50, 51, 52, 53, 54, 55, 56, 57, 97, 98, 99]⟩ : ByteArray)).bind fun bt155 => ((crosswaylaw05_ask.f).bind fun bt161 => ((ether_LayArp.f bt161.1 bt161.2.1 bt161.2.2.1 bt161.2.2.2.1 bt161.2.2.2.2.1 bt161.2.2.2.2.2.1 bt161.2.2.2.2.2.2.1 bt161.2.2.2.2.2.2.2.1 bt161.2.2.2.2.2.2.2.2).bind fun bt170 => ((ether_TakeArp.f k bt170.1).bind fun bt172 => ((ether_ParseMac.f k (⟨#[48, 49, 58, 48, 48, 58, 53, 69, 58, 48, 48, 58, 48, 48, 58, 102, 98]⟩ : ByteArray)).bind fun bt183 => (if t148 = 0 then (if (t147.size : Int) = 60 then (if 0 ≤ 16 then (if 16 ≤ (t147.size : Int) then (if (t147.extract 0 16).toList = ([0, 0, 0, 0, 0, 1, 0, 0, 0, 0, 0, 2, 8, 0, 97, 98] : List UInt8) then (if bt149.2.2.2.2 = 0 then (if bt149.2.1 = 2 then (if bt170.2 = 0 then (if (bt170.1.size : Int) = 28 then (if bt172.2.2.2.2.2.2.2.2.2 = 0 then ((crosswaylaw05_ask.f).bind fun bt185 => (if (bt172.1 == bt185.1 && (bt172.2.1 == bt185.2.1 && ((bt172.2.2.1 == bt185.2.2.1 && (bt172.2.2.2.1 == bt185.2.2.2.1 && (bt172.2.2.2.2.1 == bt185.2.2.2.2.1))) && (bt172.2.2.2.2.2.1 == bt185.2.2.2.2.2.1 && ((bt172.2.2.2.2.2.2.1 == bt185.2.2.2.2.2.2.1 && (bt172.2.2.2.2.2.2.2.1 == bt185.2.2.2.2.2.2.2.1 && (bt172.2.2.2.2.2.2.2.2.1 == bt185.2.2.2.2.2.2.2.2)))))))) = true then (if bt183.2 = 0 then (if bt183.1 = 1101088686331 then ((ether_PrintMac.f k 5).bind fun t194 => (if bt155.2.2.2.2 = 41 then (if t194.toList = ([48, 48, 58, 48, 48, 58, 48, 48, 58, 48, 48, 58, 48, 48, 58, 48, 53] : List UInt8) then ((ether_Group.f k false 0 3758096635).bind fun t195 => (some (t195 == bt183.1))) else (some false)) else (some false))) else (if bt155.2.2.2.2 = 41 then (some false) else (some false))) else (if bt155.2.2.2.2 = 41 then (some false) else (some false))) else (if bt155.2.2.2.2 = 41 then (some false) else (some false)))) else (if bt155.2.2.2.2 = 41 then (some false) else (some false))) else (if bt155.2.2.2.2 = 41 then (some false) else (some false))) else (if bt155.2.2.2.2 = 41 then (some false) else (some false))) else (if bt170.2 = 0 then (if (bt170.1.size : Int) = 28 then (if bt172.2.2.2.2.2.2.2.2.2 = 0 then ((crosswaylaw05_ask.f).bind fun bt196 => (if (bt172.1 == bt196.1 && (bt172.2.1 == bt196.2.1 && ((bt172.2.2.1 == bt196.2.2.1 && (bt172.2.2.2.1 == bt196.2.2.2.1 && (bt172.2.2.2.2.1 == bt196.2.2.2.2.1))) && (bt172.2.2.2.2.2.1 == bt196.2.2.2.2.2.1 && ((bt172.2.2.2.2.2.2.1 == bt196.2.2.2.2.2.2.1 && (bt172.2.2.2.2.2.2.2.1 == bt196.2.2.2.2.2.2.2.1 && (bt172.2.2.2.2.2.2.2.2.1 == bt196.2.2.2.2.2.2.2.2)))))))) = true then (if bt183.2 = 0 then (if bt183.1 = 1101088686331 then ((ether_PrintMac.f k 5).bind fun t205 => (some false)) else (some false)) else (some false)) else (some false))) else (some false)) else (some false)) else (some false))) else (if bt170.2 = 0 then (if (bt170.1.size : Int) = 28 then (if bt172.2.2.2.2.2.2.2.2.2 = 0 then ((crosswaylaw05_ask.f).bind fun bt206 => (if (bt172.1 == bt206.1 && (bt172.2.1 == bt206.2.1 && ((bt172.2.2.1 == bt206.2.2.1 && (bt172.2.2.2.1 == bt206.2.2.2.1 && (bt172.2.2.2.2.1 == bt206.2.2.2.2.1))) && (bt172.2.2.2.2.2.1 == bt206.2.2.2.2.2.1 && ((bt172.2.2.2.2.2.2.1 == bt206.2.2.2.2.2.2.1 && (bt172.2.2.2.2.2.2.2.1 == bt206.2.2.2.2.2.2.2.1 && (bt172.2.2.2.2.2.2.2.2.1 == bt206.2.2.2.2.2.2.2.2)))))))) = true then (if bt183.2 = 0 then (if bt183.1 = 1101088686331 then ((ether_PrintMac.f k 5).bind fun t215 => (some false)) else (some false)) else (some false)) else (some false))) else (some false)) else (some false)) else (some false))) else (if bt170.2 = 0 then (if (bt170.1.size : Int) = 28 then (if bt172.2.2.2.2.2.2.2.2.2 = 0 then ((crosswaylaw05_ask.f).bind fun bt216 => (if (bt172.1 == bt216.1 && (bt172.2.1 == bt216.2.1 && ((bt172.2.2.1 == bt216.2.2.1 && (bt172.2.2.2.1 == bt216.2.2.2.1 && (bt172.2.2.2.2.1 == bt216.2.2.2.2.1))) && (bt172.2.2.2.2.2.1 == bt216.2.2.2.2.2.1 && ((bt172.2.2.2.2.2.2.1 == bt216.2.2.2.2.2.2.1 && (bt172.2.2.2.2.2.2.2.1 == bt216.2.2.2.2.2.2.2.1 && (bt172.2.2.2.2.2.2.2.2.1 == bt216.2.2.2.2.2.2.2.2)))))))) = true then (if bt183.2 = 0 then (if bt183.1 = 1101088686331 then ((ether_PrintMac.f k 5).bind fun t225 => (some false)) else (some false)) else (some false)) else (some false))) else (some false)) else (some false)) else (some false))) else (none)) else (none)) else (if bt170.2 = 0 then (if (bt170.1.size : Int) = 28 then (if bt172.2.2.2.2.2.2.2.2.2 = 0 then ((crosswaylaw05_ask.f).bind fun bt226 => (if (bt172.1 == bt226.1 && (bt172.2.1 == bt226.2.1 && ((bt172.2.2.1 == bt226.2.2.1 && (bt172.2.2.2.1 == bt226.2.2.2.1 && (bt172.2.2.2.2.1 == bt226.2.2.2.2.1))) && (bt172.2.2.2.2.2.1 == bt226.2.2.2.2.2.1 && ((bt172.2.2.2.2.2.2.1 == bt226.2.2.2.2.2.2.1 && (bt172.2.2.2.2.2.2.2.1 == bt226.2.2.2.2.2.2.2.1 && (bt172.2.2.2.2.2.2.2.2.1 == bt226.2.2.2.2.2.2.2.2)))))))) = true then (if bt183.2 = 0 then (if bt183.1 = 1101088686331 then ((ether_PrintMac.f k 5).bind fun t235 => (some false)) else (some false)) else (some false)) else (some false))) else (some false)) else (some false)) else (some false))) else (if bt170.2 = 0 then (if (bt170.1.size : Int) = 28 then (if bt172.2.2.2.2.2.2.2.2.2 = 0 then ((crosswaylaw05_ask.f).bind fun bt236 => (if (bt172.1 == bt236.1 && (bt172.2.1 == bt236.2.1 && ((bt172.2.2.1 == bt236.2.2.1 && (bt172.2.2.2.1 == bt236.2.2.2.1 && (bt172.2.2.2.2.1 == bt236.2.2.2.2.1))) && (bt172.2.2.2.2.2.1 == bt236.2.2.2.2.2.1 && ((bt172.2.2.2.2.2.2.1 == bt236.2.2.2.2.2.2.1 && (bt172.2.2.2.2.2.2.2.1 == bt236.2.2.2.2.2.2.2.1 && (bt172.2.2.2.2.2.2.2.2.1 == bt236.2.2.2.2.2.2.2.2)))))))) = true then (if bt183.2 = 0 then (if bt183.1 = 1101088686331 then ((ether_PrintMac.f k 5).bind fun t245 => (some false)) else (some false)) else (some false)) else (some false))) else (some false)) else (some false)) else (some false))))))))) = some r := H
 have A1 := Aside0.mk A10
 clear A10
 replace H := Option.bind_eq_some_iff.mp H
 obtain ⟨⟨t149, t150, t151, t152, t153⟩, A20, H⟩ := H
 replace H : ((ether_Take.f k (⟨#[48, 49, 50, 51, 52, 53, 54, 55, 56, 57, 97, 98, 99]⟩ : ByteArray)).bind fun bt155 => ((crosswaylaw05_ask.f).bind fun bt161 => ((ether_LayArp.f bt161.1 bt161.2.1 bt161.2.2.1 bt161.2.2.2.1 bt161.2.2.2.2.1 bt161.2.2.2.2.2.1 bt161.2.2.2.2.2.2.1 bt161.2.2.2.2.2.2.2.1 bt161.2.2.2.2.2.2.2.2).bind fun bt170 => ((ether_TakeArp.f k bt170.1).bind fun bt172 => ((ether_ParseMac.f k (⟨#[48, 49, 58, 48, 48, 58, 53, 69, 58, 48, 48, 58, 48, 48, 58, 102, 98]⟩ : ByteArray)).bind fun bt183 => (if t148 = 0 then (if (t147.size : Int) = 60 then (if 0 ≤ 16 then (if 16 ≤ (t147.size : Int) then (if (t147.extract 0 16).toList = ([0, 0, 0, 0, 0, 1, 0, 0, 0, 0, 0, 2, 8, 0, 97, 98] : List UInt8) then (if t153 = 0 then (if t150 = 2 then (if bt170.2 = 0 then (if (bt170.1.size : Int) = 28 then (if bt172.2.2.2.2.2.2.2.2.2 = 0 then ((crosswaylaw05_ask.f).bind fun bt185 => (if (bt172.1 == bt185.1 && (bt172.2.1 == bt185.2.1 && ((bt172.2.2.1 == bt185.2.2.1 && (bt172.2.2.2.1 == bt185.2.2.2.1 && (bt172.2.2.2.2.1 == bt185.2.2.2.2.1))) && (bt172.2.2.2.2.2.1 == bt185.2.2.2.2.2.1 && ((bt172.2.2.2.2.2.2.1 == bt185.2.2.2.2.2.2.1 && (bt172.2.2.2.2.2.2.2.1 == bt185.2.2.2.2.2.2.2.1 && (bt172.2.2.2.2.2.2.2.2.1 == bt185.2.2.2.2.2.2.2.2)))))))) = true then (if bt183.2 = 0 then (if bt183.1 = 1101088686331 then ((ether_PrintMac.f k 5).bind fun t194 => (if bt155.2.2.2.2 = 41 then (if t194.toList = ([48, 48, 58, 48, 48, 58, 48, 48, 58, 48, 48, 58, 48, 48, 58, 48, 53] : List UInt8) then ((ether_Group.f k false 0 3758096635).bind fun t195 => (some (t195 == bt183.1))) else (some false)) else (some false))) else (if bt155.2.2.2.2 = 41 then (some false) else (some false))) else (if bt155.2.2.2.2 = 41 then (some false) else (some false))) else (if bt155.2.2.2.2 = 41 then (some false) else (some false)))) else (if bt155.2.2.2.2 = 41 then (some false) else (some false))) else (if bt155.2.2.2.2 = 41 then (some false) else (some false))) else (if bt155.2.2.2.2 = 41 then (some false) else (some false))) else (if bt170.2 = 0 then (if (bt170.1.size : Int) = 28 then (if bt172.2.2.2.2.2.2.2.2.2 = 0 then ((crosswaylaw05_ask.f).bind fun bt196 => (if (bt172.1 == bt196.1 && (bt172.2.1 == bt196.2.1 && ((bt172.2.2.1 == bt196.2.2.1 && (bt172.2.2.2.1 == bt196.2.2.2.1 && (bt172.2.2.2.2.1 == bt196.2.2.2.2.1))) && (bt172.2.2.2.2.2.1 == bt196.2.2.2.2.2.1 && ((bt172.2.2.2.2.2.2.1 == bt196.2.2.2.2.2.2.1 && (bt172.2.2.2.2.2.2.2.1 == bt196.2.2.2.2.2.2.2.1 && (bt172.2.2.2.2.2.2.2.2.1 == bt196.2.2.2.2.2.2.2.2)))))))) = true then (if bt183.2 = 0 then (if bt183.1 = 1101088686331 then ((ether_PrintMac.f k 5).bind fun t205 => (some false)) else (some false)) else (some false)) else (some false))) else (some false)) else (some false)) else (some false))) else (if bt170.2 = 0 then (if (bt170.1.size : Int) = 28 then (if bt172.2.2.2.2.2.2.2.2.2 = 0 then ((crosswaylaw05_ask.f).bind fun bt206 => (if (bt172.1 == bt206.1 && (bt172.2.1 == bt206.2.1 && ((bt172.2.2.1 == bt206.2.2.1 && (bt172.2.2.2.1 == bt206.2.2.2.1 && (bt172.2.2.2.2.1 == bt206.2.2.2.2.1))) && (bt172.2.2.2.2.2.1 == bt206.2.2.2.2.2.1 && ((bt172.2.2.2.2.2.2.1 == bt206.2.2.2.2.2.2.1 && (bt172.2.2.2.2.2.2.2.1 == bt206.2.2.2.2.2.2.2.1 && (bt172.2.2.2.2.2.2.2.2.1 == bt206.2.2.2.2.2.2.2.2)))))))) = true then (if bt183.2 = 0 then (if bt183.1 = 1101088686331 then ((ether_PrintMac.f k 5).bind fun t215 => (some false)) else (some false)) else (some false)) else (some false))) else (some false)) else (some false)) else (some false))) else (if bt170.2 = 0 then (if (bt170.1.size : Int) = 28 then (if bt172.2.2.2.2.2.2.2.2.2 = 0 then ((crosswaylaw05_ask.f).bind fun bt216 => (if (bt172.1 == bt216.1 && (bt172.2.1 == bt216.2.1 && ((bt172.2.2.1 == bt216.2.2.1 && (bt172.2.2.2.1 == bt216.2.2.2.1 && (bt172.2.2.2.2.1 == bt216.2.2.2.2.1))) && (bt172.2.2.2.2.2.1 == bt216.2.2.2.2.2.1 && ((bt172.2.2.2.2.2.2.1 == bt216.2.2.2.2.2.2.1 && (bt172.2.2.2.2.2.2.2.1 == bt216.2.2.2.2.2.2.2.1 && (bt172.2.2.2.2.2.2.2.2.1 == bt216.2.2.2.2.2.2.2.2)))))))) = true then (if bt183.2 = 0 then (if bt183.1 = 1101088686331 then ((ether_PrintMac.f k 5).bind fun t225 => (some false)) else (some false)) else (some false)) else (some false))) else (some false)) else (some false)) else (some false))) else (none)) else (none)) else (if bt170.2 = 0 then (if (bt170.1.size : Int) = 28 then (if bt172.2.2.2.2.2.2.2.2.2 = 0 then ((crosswaylaw05_ask.f).bind fun bt226 => (if (bt172.1 == bt226.1 && (bt172.2.1 == bt226.2.1 && ((bt172.2.2.1 == bt226.2.2.1 && (bt172.2.2.2.1 == bt226.2.2.2.1 && (bt172.2.2.2.2.1 == bt226.2.2.2.2.1))) && (bt172.2.2.2.2.2.1 == bt226.2.2.2.2.2.1 && ((bt172.2.2.2.2.2.2.1 == bt226.2.2.2.2.2.2.1 && (bt172.2.2.2.2.2.2.2.1 == bt226.2.2.2.2.2.2.2.1 && (bt172.2.2.2.2.2.2.2.2.1 == bt226.2.2.2.2.2.2.2.2)))))))) = true then (if bt183.2 = 0 then (if bt183.1 = 1101088686331 then ((ether_PrintMac.f k 5).bind fun t235 => (some false)) else (some false)) else (some false)) else (some false))) else (some false)) else (some false)) else (some false))) else (if bt170.2 = 0 then (if (bt170.1.size : Int) = 28 then (if bt172.2.2.2.2.2.2.2.2.2 = 0 then ((crosswaylaw05_ask.f).bind fun bt236 => (if (bt172.1 == bt236.1 && (bt172.2.1 == bt236.2.1 && ((bt172.2.2.1 == bt236.2.2.1 && (bt172.2.2.2.1 == bt236.2.2.2.1 && (bt172.2.2.2.2.1 == bt236.2.2.2.2.1))) && (bt172.2.2.2.2.2.1 == bt236.2.2.2.2.2.1 && ((bt172.2.2.2.2.2.2.1 == bt236.2.2.2.2.2.2.1 && (bt172.2.2.2.2.2.2.2.1 == bt236.2.2.2.2.2.2.2.1 && (bt172.2.2.2.2.2.2.2.2.1 == bt236.2.2.2.2.2.2.2.2)))))))) = true then (if bt183.2 = 0 then (if bt183.1 = 1101088686331 then ((ether_PrintMac.f k 5).bind fun t245 => (some false)) else (some false)) else (some false)) else (some false))) else (some false)) else (some false)) else (some false)))))))) = some r := H
 have A2 := Aside0.mk A20
 clear A20
 replace H := Option.bind_eq_some_iff.mp H
 obtain ⟨⟨t155, t156, t157, t158, t159⟩, A30, H⟩ := H
 replace H : ((crosswaylaw05_ask.f).bind fun bt161 => ((ether_LayArp.f bt161.1 bt161.2.1 bt161.2.2.1 bt161.2.2.2.1 bt161.2.2.2.2.1 bt161.2.2.2.2.2.1 bt161.2.2.2.2.2.2.1 bt161.2.2.2.2.2.2.2.1 bt161.2.2.2.2.2.2.2.2).bind fun bt170 => ((ether_TakeArp.f k bt170.1).bind fun bt172 => ((ether_ParseMac.f k (⟨#[48, 49, 58, 48, 48, 58, 53, 69, 58, 48, 48, 58, 48, 48, 58, 102, 98]⟩ : ByteArray)).bind fun bt183 => (if t148 = 0 then (if (t147.size : Int) = 60 then (if 0 ≤ 16 then (if 16 ≤ (t147.size : Int) then (if (t147.extract 0 16).toList = ([0, 0, 0, 0, 0, 1, 0, 0, 0, 0, 0, 2, 8, 0, 97, 98] : List UInt8) then (if t153 = 0 then (if t150 = 2 then (if bt170.2 = 0 then (if (bt170.1.size : Int) = 28 then (if bt172.2.2.2.2.2.2.2.2.2 = 0 then ((crosswaylaw05_ask.f).bind fun bt185 => (if (bt172.1 == bt185.1 && (bt172.2.1 == bt185.2.1 && ((bt172.2.2.1 == bt185.2.2.1 && (bt172.2.2.2.1 == bt185.2.2.2.1 && (bt172.2.2.2.2.1 == bt185.2.2.2.2.1))) && (bt172.2.2.2.2.2.1 == bt185.2.2.2.2.2.1 && ((bt172.2.2.2.2.2.2.1 == bt185.2.2.2.2.2.2.1 && (bt172.2.2.2.2.2.2.2.1 == bt185.2.2.2.2.2.2.2.1 && (bt172.2.2.2.2.2.2.2.2.1 == bt185.2.2.2.2.2.2.2.2)))))))) = true then (if bt183.2 = 0 then (if bt183.1 = 1101088686331 then ((ether_PrintMac.f k 5).bind fun t194 => (if t159 = 41 then (if t194.toList = ([48, 48, 58, 48, 48, 58, 48, 48, 58, 48, 48, 58, 48, 48, 58, 48, 53] : List UInt8) then ((ether_Group.f k false 0 3758096635).bind fun t195 => (some (t195 == bt183.1))) else (some false)) else (some false))) else (if t159 = 41 then (some false) else (some false))) else (if t159 = 41 then (some false) else (some false))) else (if t159 = 41 then (some false) else (some false)))) else (if t159 = 41 then (some false) else (some false))) else (if t159 = 41 then (some false) else (some false))) else (if t159 = 41 then (some false) else (some false))) else (if bt170.2 = 0 then (if (bt170.1.size : Int) = 28 then (if bt172.2.2.2.2.2.2.2.2.2 = 0 then ((crosswaylaw05_ask.f).bind fun bt196 => (if (bt172.1 == bt196.1 && (bt172.2.1 == bt196.2.1 && ((bt172.2.2.1 == bt196.2.2.1 && (bt172.2.2.2.1 == bt196.2.2.2.1 && (bt172.2.2.2.2.1 == bt196.2.2.2.2.1))) && (bt172.2.2.2.2.2.1 == bt196.2.2.2.2.2.1 && ((bt172.2.2.2.2.2.2.1 == bt196.2.2.2.2.2.2.1 && (bt172.2.2.2.2.2.2.2.1 == bt196.2.2.2.2.2.2.2.1 && (bt172.2.2.2.2.2.2.2.2.1 == bt196.2.2.2.2.2.2.2.2)))))))) = true then (if bt183.2 = 0 then (if bt183.1 = 1101088686331 then ((ether_PrintMac.f k 5).bind fun t205 => (some false)) else (some false)) else (some false)) else (some false))) else (some false)) else (some false)) else (some false))) else (if bt170.2 = 0 then (if (bt170.1.size : Int) = 28 then (if bt172.2.2.2.2.2.2.2.2.2 = 0 then ((crosswaylaw05_ask.f).bind fun bt206 => (if (bt172.1 == bt206.1 && (bt172.2.1 == bt206.2.1 && ((bt172.2.2.1 == bt206.2.2.1 && (bt172.2.2.2.1 == bt206.2.2.2.1 && (bt172.2.2.2.2.1 == bt206.2.2.2.2.1))) && (bt172.2.2.2.2.2.1 == bt206.2.2.2.2.2.1 && ((bt172.2.2.2.2.2.2.1 == bt206.2.2.2.2.2.2.1 && (bt172.2.2.2.2.2.2.2.1 == bt206.2.2.2.2.2.2.2.1 && (bt172.2.2.2.2.2.2.2.2.1 == bt206.2.2.2.2.2.2.2.2)))))))) = true then (if bt183.2 = 0 then (if bt183.1 = 1101088686331 then ((ether_PrintMac.f k 5).bind fun t215 => (some false)) else (some false)) else (some false)) else (some false))) else (some false)) else (some false)) else (some false))) else (if bt170.2 = 0 then (if (bt170.1.size : Int) = 28 then (if bt172.2.2.2.2.2.2.2.2.2 = 0 then ((crosswaylaw05_ask.f).bind fun bt216 => (if (bt172.1 == bt216.1 && (bt172.2.1 == bt216.2.1 && ((bt172.2.2.1 == bt216.2.2.1 && (bt172.2.2.2.1 == bt216.2.2.2.1 && (bt172.2.2.2.2.1 == bt216.2.2.2.2.1))) && (bt172.2.2.2.2.2.1 == bt216.2.2.2.2.2.1 && ((bt172.2.2.2.2.2.2.1 == bt216.2.2.2.2.2.2.1 && (bt172.2.2.2.2.2.2.2.1 == bt216.2.2.2.2.2.2.2.1 && (bt172.2.2.2.2.2.2.2.2.1 == bt216.2.2.2.2.2.2.2.2)))))))) = true then (if bt183.2 = 0 then (if bt183.1 = 1101088686331 then ((ether_PrintMac.f k 5).bind fun t225 => (some false)) else (some false)) else (some false)) else (some false))) else (some false)) else (some false)) else (some false))) else (none)) else (none)) else (if bt170.2 = 0 then (if (bt170.1.size : Int) = 28 then (if bt172.2.2.2.2.2.2.2.2.2 = 0 then ((crosswaylaw05_ask.f).bind fun bt226 => (if (bt172.1 == bt226.1 && (bt172.2.1 == bt226.2.1 && ((bt172.2.2.1 == bt226.2.2.1 && (bt172.2.2.2.1 == bt226.2.2.2.1 && (bt172.2.2.2.2.1 == bt226.2.2.2.2.1))) && (bt172.2.2.2.2.2.1 == bt226.2.2.2.2.2.1 && ((bt172.2.2.2.2.2.2.1 == bt226.2.2.2.2.2.2.1 && (bt172.2.2.2.2.2.2.2.1 == bt226.2.2.2.2.2.2.2.1 && (bt172.2.2.2.2.2.2.2.2.1 == bt226.2.2.2.2.2.2.2.2)))))))) = true then (if bt183.2 = 0 then (if bt183.1 = 1101088686331 then ((ether_PrintMac.f k 5).bind fun t235 => (some false)) else (some false)) else (some false)) else (some false))) else (some false)) else (some false)) else (some false))) else (if bt170.2 = 0 then (if (bt170.1.size : Int) = 28 then (if bt172.2.2.2.2.2.2.2.2.2 = 0 then ((crosswaylaw05_ask.f).bind fun bt236 => (if (bt172.1 == bt236.1 && (bt172.2.1 == bt236.2.1 && ((bt172.2.2.1 == bt236.2.2.1 && (bt172.2.2.2.1 == bt236.2.2.2.1 && (bt172.2.2.2.2.1 == bt236.2.2.2.2.1))) && (bt172.2.2.2.2.2.1 == bt236.2.2.2.2.2.1 && ((bt172.2.2.2.2.2.2.1 == bt236.2.2.2.2.2.2.1 && (bt172.2.2.2.2.2.2.2.1 == bt236.2.2.2.2.2.2.2.1 && (bt172.2.2.2.2.2.2.2.2.1 == bt236.2.2.2.2.2.2.2.2)))))))) = true then (if bt183.2 = 0 then (if bt183.1 = 1101088686331 then ((ether_PrintMac.f k 5).bind fun t245 => (some false)) else (some false)) else (some false)) else (some false))) else (some false)) else (some false)) else (some false))))))) = some r := H
 have A3 := Aside0.mk A30
 clear A30
 replace H := Option.bind_eq_some_iff.mp H
 obtain ⟨⟨t161, t162, t163, t164, t165, t166, t167, t168, t169⟩, A40, H⟩ := H
 replace H : ((ether_LayArp.f t161 t162 t163 t164 t165 t166 t167 t168 t169).bind fun bt170 => ((ether_TakeArp.f k bt170.1).bind fun bt172 => ((ether_ParseMac.f k (⟨#[48, 49, 58, 48, 48, 58, 53, 69, 58, 48, 48, 58, 48, 48, 58, 102, 98]⟩ : ByteArray)).bind fun bt183 => (if t148 = 0 then (if (t147.size : Int) = 60 then (if 0 ≤ 16 then (if 16 ≤ (t147.size : Int) then (if (t147.extract 0 16).toList = ([0, 0, 0, 0, 0, 1, 0, 0, 0, 0, 0, 2, 8, 0, 97, 98] : List UInt8) then (if t153 = 0 then (if t150 = 2 then (if bt170.2 = 0 then (if (bt170.1.size : Int) = 28 then (if bt172.2.2.2.2.2.2.2.2.2 = 0 then ((crosswaylaw05_ask.f).bind fun bt185 => (if (bt172.1 == bt185.1 && (bt172.2.1 == bt185.2.1 && ((bt172.2.2.1 == bt185.2.2.1 && (bt172.2.2.2.1 == bt185.2.2.2.1 && (bt172.2.2.2.2.1 == bt185.2.2.2.2.1))) && (bt172.2.2.2.2.2.1 == bt185.2.2.2.2.2.1 && ((bt172.2.2.2.2.2.2.1 == bt185.2.2.2.2.2.2.1 && (bt172.2.2.2.2.2.2.2.1 == bt185.2.2.2.2.2.2.2.1 && (bt172.2.2.2.2.2.2.2.2.1 == bt185.2.2.2.2.2.2.2.2)))))))) = true then (if bt183.2 = 0 then (if bt183.1 = 1101088686331 then ((ether_PrintMac.f k 5).bind fun t194 => (if t159 = 41 then (if t194.toList = ([48, 48, 58, 48, 48, 58, 48, 48, 58, 48, 48, 58, 48, 48, 58, 48, 53] : List UInt8) then ((ether_Group.f k false 0 3758096635).bind fun t195 => (some (t195 == bt183.1))) else (some false)) else (some false))) else (if t159 = 41 then (some false) else (some false))) else (if t159 = 41 then (some false) else (some false))) else (if t159 = 41 then (some false) else (some false)))) else (if t159 = 41 then (some false) else (some false))) else (if t159 = 41 then (some false) else (some false))) else (if t159 = 41 then (some false) else (some false))) else (if bt170.2 = 0 then (if (bt170.1.size : Int) = 28 then (if bt172.2.2.2.2.2.2.2.2.2 = 0 then ((crosswaylaw05_ask.f).bind fun bt196 => (if (bt172.1 == bt196.1 && (bt172.2.1 == bt196.2.1 && ((bt172.2.2.1 == bt196.2.2.1 && (bt172.2.2.2.1 == bt196.2.2.2.1 && (bt172.2.2.2.2.1 == bt196.2.2.2.2.1))) && (bt172.2.2.2.2.2.1 == bt196.2.2.2.2.2.1 && ((bt172.2.2.2.2.2.2.1 == bt196.2.2.2.2.2.2.1 && (bt172.2.2.2.2.2.2.2.1 == bt196.2.2.2.2.2.2.2.1 && (bt172.2.2.2.2.2.2.2.2.1 == bt196.2.2.2.2.2.2.2.2)))))))) = true then (if bt183.2 = 0 then (if bt183.1 = 1101088686331 then ((ether_PrintMac.f k 5).bind fun t205 => (some false)) else (some false)) else (some false)) else (some false))) else (some false)) else (some false)) else (some false))) else (if bt170.2 = 0 then (if (bt170.1.size : Int) = 28 then (if bt172.2.2.2.2.2.2.2.2.2 = 0 then ((crosswaylaw05_ask.f).bind fun bt206 => (if (bt172.1 == bt206.1 && (bt172.2.1 == bt206.2.1 && ((bt172.2.2.1 == bt206.2.2.1 && (bt172.2.2.2.1 == bt206.2.2.2.1 && (bt172.2.2.2.2.1 == bt206.2.2.2.2.1))) && (bt172.2.2.2.2.2.1 == bt206.2.2.2.2.2.1 && ((bt172.2.2.2.2.2.2.1 == bt206.2.2.2.2.2.2.1 && (bt172.2.2.2.2.2.2.2.1 == bt206.2.2.2.2.2.2.2.1 && (bt172.2.2.2.2.2.2.2.2.1 == bt206.2.2.2.2.2.2.2.2)))))))) = true then (if bt183.2 = 0 then (if bt183.1 = 1101088686331 then ((ether_PrintMac.f k 5).bind fun t215 => (some false)) else (some false)) else (some false)) else (some false))) else (some false)) else (some false)) else (some false))) else (if bt170.2 = 0 then (if (bt170.1.size : Int) = 28 then (if bt172.2.2.2.2.2.2.2.2.2 = 0 then ((crosswaylaw05_ask.f).bind fun bt216 => (if (bt172.1 == bt216.1 && (bt172.2.1 == bt216.2.1 && ((bt172.2.2.1 == bt216.2.2.1 && (bt172.2.2.2.1 == bt216.2.2.2.1 && (bt172.2.2.2.2.1 == bt216.2.2.2.2.1))) && (bt172.2.2.2.2.2.1 == bt216.2.2.2.2.2.1 && ((bt172.2.2.2.2.2.2.1 == bt216.2.2.2.2.2.2.1 && (bt172.2.2.2.2.2.2.2.1 == bt216.2.2.2.2.2.2.2.1 && (bt172.2.2.2.2.2.2.2.2.1 == bt216.2.2.2.2.2.2.2.2)))))))) = true then (if bt183.2 = 0 then (if bt183.1 = 1101088686331 then ((ether_PrintMac.f k 5).bind fun t225 => (some false)) else (some false)) else (some false)) else (some false))) else (some false)) else (some false)) else (some false))) else (none)) else (none)) else (if bt170.2 = 0 then (if (bt170.1.size : Int) = 28 then (if bt172.2.2.2.2.2.2.2.2.2 = 0 then ((crosswaylaw05_ask.f).bind fun bt226 => (if (bt172.1 == bt226.1 && (bt172.2.1 == bt226.2.1 && ((bt172.2.2.1 == bt226.2.2.1 && (bt172.2.2.2.1 == bt226.2.2.2.1 && (bt172.2.2.2.2.1 == bt226.2.2.2.2.1))) && (bt172.2.2.2.2.2.1 == bt226.2.2.2.2.2.1 && ((bt172.2.2.2.2.2.2.1 == bt226.2.2.2.2.2.2.1 && (bt172.2.2.2.2.2.2.2.1 == bt226.2.2.2.2.2.2.2.1 && (bt172.2.2.2.2.2.2.2.2.1 == bt226.2.2.2.2.2.2.2.2)))))))) = true then (if bt183.2 = 0 then (if bt183.1 = 1101088686331 then ((ether_PrintMac.f k 5).bind fun t235 => (some false)) else (some false)) else (some false)) else (some false))) else (some false)) else (some false)) else (some false))) else (if bt170.2 = 0 then (if (bt170.1.size : Int) = 28 then (if bt172.2.2.2.2.2.2.2.2.2 = 0 then ((crosswaylaw05_ask.f).bind fun bt236 => (if (bt172.1 == bt236.1 && (bt172.2.1 == bt236.2.1 && ((bt172.2.2.1 == bt236.2.2.1 && (bt172.2.2.2.1 == bt236.2.2.2.1 && (bt172.2.2.2.2.1 == bt236.2.2.2.2.1))) && (bt172.2.2.2.2.2.1 == bt236.2.2.2.2.2.1 && ((bt172.2.2.2.2.2.2.1 == bt236.2.2.2.2.2.2.1 && (bt172.2.2.2.2.2.2.2.1 == bt236.2.2.2.2.2.2.2.1 && (bt172.2.2.2.2.2.2.2.2.1 == bt236.2.2.2.2.2.2.2.2)))))))) = true then (if bt183.2 = 0 then (if bt183.1 = 1101088686331 then ((ether_PrintMac.f k 5).bind fun t245 => (some false)) else (some false)) else (some false)) else (some false))) else (some false)) else (some false)) else (some false)))))) = some r := H
 have A4 := Aside0.mk A40
 clear A40
 replace H := Option.bind_eq_some_iff.mp H
 obtain ⟨⟨t170, t171⟩, A50, H⟩ := H
 replace H : ((ether_TakeArp.f k t170).bind fun bt172 => ((ether_ParseMac.f k (⟨#[48, 49, 58, 48, 48, 58, 53, 69, 58, 48, 48, 58, 48, 48, 58, 102, 98]⟩ : ByteArray)).bind fun bt183 => (if t148 = 0 then (if (t147.size : Int) = 60 then (if 0 ≤ 16 then (if 16 ≤ (t147.size : Int) then (if (t147.extract 0 16).toList = ([0, 0, 0, 0, 0, 1, 0, 0, 0, 0, 0, 2, 8, 0, 97, 98] : List UInt8) then (if t153 = 0 then (if t150 = 2 then (if t171 = 0 then (if (t170.size : Int) = 28 then (if bt172.2.2.2.2.2.2.2.2.2 = 0 then ((crosswaylaw05_ask.f).bind fun bt185 => (if (bt172.1 == bt185.1 && (bt172.2.1 == bt185.2.1 && ((bt172.2.2.1 == bt185.2.2.1 && (bt172.2.2.2.1 == bt185.2.2.2.1 && (bt172.2.2.2.2.1 == bt185.2.2.2.2.1))) && (bt172.2.2.2.2.2.1 == bt185.2.2.2.2.2.1 && ((bt172.2.2.2.2.2.2.1 == bt185.2.2.2.2.2.2.1 && (bt172.2.2.2.2.2.2.2.1 == bt185.2.2.2.2.2.2.2.1 && (bt172.2.2.2.2.2.2.2.2.1 == bt185.2.2.2.2.2.2.2.2)))))))) = true then (if bt183.2 = 0 then (if bt183.1 = 1101088686331 then ((ether_PrintMac.f k 5).bind fun t194 => (if t159 = 41 then (if t194.toList = ([48, 48, 58, 48, 48, 58, 48, 48, 58, 48, 48, 58, 48, 48, 58, 48, 53] : List UInt8) then ((ether_Group.f k false 0 3758096635).bind fun t195 => (some (t195 == bt183.1))) else (some false)) else (some false))) else (if t159 = 41 then (some false) else (some false))) else (if t159 = 41 then (some false) else (some false))) else (if t159 = 41 then (some false) else (some false)))) else (if t159 = 41 then (some false) else (some false))) else (if t159 = 41 then (some false) else (some false))) else (if t159 = 41 then (some false) else (some false))) else (if t171 = 0 then (if (t170.size : Int) = 28 then (if bt172.2.2.2.2.2.2.2.2.2 = 0 then ((crosswaylaw05_ask.f).bind fun bt196 => (if (bt172.1 == bt196.1 && (bt172.2.1 == bt196.2.1 && ((bt172.2.2.1 == bt196.2.2.1 && (bt172.2.2.2.1 == bt196.2.2.2.1 && (bt172.2.2.2.2.1 == bt196.2.2.2.2.1))) && (bt172.2.2.2.2.2.1 == bt196.2.2.2.2.2.1 && ((bt172.2.2.2.2.2.2.1 == bt196.2.2.2.2.2.2.1 && (bt172.2.2.2.2.2.2.2.1 == bt196.2.2.2.2.2.2.2.1 && (bt172.2.2.2.2.2.2.2.2.1 == bt196.2.2.2.2.2.2.2.2)))))))) = true then (if bt183.2 = 0 then (if bt183.1 = 1101088686331 then ((ether_PrintMac.f k 5).bind fun t205 => (some false)) else (some false)) else (some false)) else (some false))) else (some false)) else (some false)) else (some false))) else (if t171 = 0 then (if (t170.size : Int) = 28 then (if bt172.2.2.2.2.2.2.2.2.2 = 0 then ((crosswaylaw05_ask.f).bind fun bt206 => (if (bt172.1 == bt206.1 && (bt172.2.1 == bt206.2.1 && ((bt172.2.2.1 == bt206.2.2.1 && (bt172.2.2.2.1 == bt206.2.2.2.1 && (bt172.2.2.2.2.1 == bt206.2.2.2.2.1))) && (bt172.2.2.2.2.2.1 == bt206.2.2.2.2.2.1 && ((bt172.2.2.2.2.2.2.1 == bt206.2.2.2.2.2.2.1 && (bt172.2.2.2.2.2.2.2.1 == bt206.2.2.2.2.2.2.2.1 && (bt172.2.2.2.2.2.2.2.2.1 == bt206.2.2.2.2.2.2.2.2)))))))) = true then (if bt183.2 = 0 then (if bt183.1 = 1101088686331 then ((ether_PrintMac.f k 5).bind fun t215 => (some false)) else (some false)) else (some false)) else (some false))) else (some false)) else (some false)) else (some false))) else (if t171 = 0 then (if (t170.size : Int) = 28 then (if bt172.2.2.2.2.2.2.2.2.2 = 0 then ((crosswaylaw05_ask.f).bind fun bt216 => (if (bt172.1 == bt216.1 && (bt172.2.1 == bt216.2.1 && ((bt172.2.2.1 == bt216.2.2.1 && (bt172.2.2.2.1 == bt216.2.2.2.1 && (bt172.2.2.2.2.1 == bt216.2.2.2.2.1))) && (bt172.2.2.2.2.2.1 == bt216.2.2.2.2.2.1 && ((bt172.2.2.2.2.2.2.1 == bt216.2.2.2.2.2.2.1 && (bt172.2.2.2.2.2.2.2.1 == bt216.2.2.2.2.2.2.2.1 && (bt172.2.2.2.2.2.2.2.2.1 == bt216.2.2.2.2.2.2.2.2)))))))) = true then (if bt183.2 = 0 then (if bt183.1 = 1101088686331 then ((ether_PrintMac.f k 5).bind fun t225 => (some false)) else (some false)) else (some false)) else (some false))) else (some false)) else (some false)) else (some false))) else (none)) else (none)) else (if t171 = 0 then (if (t170.size : Int) = 28 then (if bt172.2.2.2.2.2.2.2.2.2 = 0 then ((crosswaylaw05_ask.f).bind fun bt226 => (if (bt172.1 == bt226.1 && (bt172.2.1 == bt226.2.1 && ((bt172.2.2.1 == bt226.2.2.1 && (bt172.2.2.2.1 == bt226.2.2.2.1 && (bt172.2.2.2.2.1 == bt226.2.2.2.2.1))) && (bt172.2.2.2.2.2.1 == bt226.2.2.2.2.2.1 && ((bt172.2.2.2.2.2.2.1 == bt226.2.2.2.2.2.2.1 && (bt172.2.2.2.2.2.2.2.1 == bt226.2.2.2.2.2.2.2.1 && (bt172.2.2.2.2.2.2.2.2.1 == bt226.2.2.2.2.2.2.2.2)))))))) = true then (if bt183.2 = 0 then (if bt183.1 = 1101088686331 then ((ether_PrintMac.f k 5).bind fun t235 => (some false)) else (some false)) else (some false)) else (some false))) else (some false)) else (some false)) else (some false))) else (if t171 = 0 then (if (t170.size : Int) = 28 then (if bt172.2.2.2.2.2.2.2.2.2 = 0 then ((crosswaylaw05_ask.f).bind fun bt236 => (if (bt172.1 == bt236.1 && (bt172.2.1 == bt236.2.1 && ((bt172.2.2.1 == bt236.2.2.1 && (bt172.2.2.2.1 == bt236.2.2.2.1 && (bt172.2.2.2.2.1 == bt236.2.2.2.2.1))) && (bt172.2.2.2.2.2.1 == bt236.2.2.2.2.2.1 && ((bt172.2.2.2.2.2.2.1 == bt236.2.2.2.2.2.2.1 && (bt172.2.2.2.2.2.2.2.1 == bt236.2.2.2.2.2.2.2.1 && (bt172.2.2.2.2.2.2.2.2.1 == bt236.2.2.2.2.2.2.2.2)))))))) = true then (if bt183.2 = 0 then (if bt183.1 = 1101088686331 then ((ether_PrintMac.f k 5).bind fun t245 => (some false)) else (some false)) else (some false)) else (some false))) else (some false)) else (some false)) else (some false))))) = some r := H
 have A5 := Aside0.mk A50
 clear A50
 replace H := Option.bind_eq_some_iff.mp H
 obtain ⟨⟨t172, t173, t174, t175, t176, t177, t178, t179, t180, t181⟩, A60, H⟩ := H
 replace H : ((ether_ParseMac.f k (⟨#[48, 49, 58, 48, 48, 58, 53, 69, 58, 48, 48, 58, 48, 48, 58, 102, 98]⟩ : ByteArray)).bind fun bt183 => (if t148 = 0 then (if (t147.size : Int) = 60 then (if 0 ≤ 16 then (if 16 ≤ (t147.size : Int) then (if (t147.extract 0 16).toList = ([0, 0, 0, 0, 0, 1, 0, 0, 0, 0, 0, 2, 8, 0, 97, 98] : List UInt8) then (if t153 = 0 then (if t150 = 2 then (if t171 = 0 then (if (t170.size : Int) = 28 then (if t181 = 0 then ((crosswaylaw05_ask.f).bind fun bt185 => (if (t172 == bt185.1 && (t173 == bt185.2.1 && ((t174 == bt185.2.2.1 && (t175 == bt185.2.2.2.1 && (t176 == bt185.2.2.2.2.1))) && (t177 == bt185.2.2.2.2.2.1 && ((t178 == bt185.2.2.2.2.2.2.1 && (t179 == bt185.2.2.2.2.2.2.2.1 && (t180 == bt185.2.2.2.2.2.2.2.2)))))))) = true then (if bt183.2 = 0 then (if bt183.1 = 1101088686331 then ((ether_PrintMac.f k 5).bind fun t194 => (if t159 = 41 then (if t194.toList = ([48, 48, 58, 48, 48, 58, 48, 48, 58, 48, 48, 58, 48, 48, 58, 48, 53] : List UInt8) then ((ether_Group.f k false 0 3758096635).bind fun t195 => (some (t195 == bt183.1))) else (some false)) else (some false))) else (if t159 = 41 then (some false) else (some false))) else (if t159 = 41 then (some false) else (some false))) else (if t159 = 41 then (some false) else (some false)))) else (if t159 = 41 then (some false) else (some false))) else (if t159 = 41 then (some false) else (some false))) else (if t159 = 41 then (some false) else (some false))) else (if t171 = 0 then (if (t170.size : Int) = 28 then (if t181 = 0 then ((crosswaylaw05_ask.f).bind fun bt196 => (if (t172 == bt196.1 && (t173 == bt196.2.1 && ((t174 == bt196.2.2.1 && (t175 == bt196.2.2.2.1 && (t176 == bt196.2.2.2.2.1))) && (t177 == bt196.2.2.2.2.2.1 && ((t178 == bt196.2.2.2.2.2.2.1 && (t179 == bt196.2.2.2.2.2.2.2.1 && (t180 == bt196.2.2.2.2.2.2.2.2)))))))) = true then (if bt183.2 = 0 then (if bt183.1 = 1101088686331 then ((ether_PrintMac.f k 5).bind fun t205 => (some false)) else (some false)) else (some false)) else (some false))) else (some false)) else (some false)) else (some false))) else (if t171 = 0 then (if (t170.size : Int) = 28 then (if t181 = 0 then ((crosswaylaw05_ask.f).bind fun bt206 => (if (t172 == bt206.1 && (t173 == bt206.2.1 && ((t174 == bt206.2.2.1 && (t175 == bt206.2.2.2.1 && (t176 == bt206.2.2.2.2.1))) && (t177 == bt206.2.2.2.2.2.1 && ((t178 == bt206.2.2.2.2.2.2.1 && (t179 == bt206.2.2.2.2.2.2.2.1 && (t180 == bt206.2.2.2.2.2.2.2.2)))))))) = true then (if bt183.2 = 0 then (if bt183.1 = 1101088686331 then ((ether_PrintMac.f k 5).bind fun t215 => (some false)) else (some false)) else (some false)) else (some false))) else (some false)) else (some false)) else (some false))) else (if t171 = 0 then (if (t170.size : Int) = 28 then (if t181 = 0 then ((crosswaylaw05_ask.f).bind fun bt216 => (if (t172 == bt216.1 && (t173 == bt216.2.1 && ((t174 == bt216.2.2.1 && (t175 == bt216.2.2.2.1 && (t176 == bt216.2.2.2.2.1))) && (t177 == bt216.2.2.2.2.2.1 && ((t178 == bt216.2.2.2.2.2.2.1 && (t179 == bt216.2.2.2.2.2.2.2.1 && (t180 == bt216.2.2.2.2.2.2.2.2)))))))) = true then (if bt183.2 = 0 then (if bt183.1 = 1101088686331 then ((ether_PrintMac.f k 5).bind fun t225 => (some false)) else (some false)) else (some false)) else (some false))) else (some false)) else (some false)) else (some false))) else (none)) else (none)) else (if t171 = 0 then (if (t170.size : Int) = 28 then (if t181 = 0 then ((crosswaylaw05_ask.f).bind fun bt226 => (if (t172 == bt226.1 && (t173 == bt226.2.1 && ((t174 == bt226.2.2.1 && (t175 == bt226.2.2.2.1 && (t176 == bt226.2.2.2.2.1))) && (t177 == bt226.2.2.2.2.2.1 && ((t178 == bt226.2.2.2.2.2.2.1 && (t179 == bt226.2.2.2.2.2.2.2.1 && (t180 == bt226.2.2.2.2.2.2.2.2)))))))) = true then (if bt183.2 = 0 then (if bt183.1 = 1101088686331 then ((ether_PrintMac.f k 5).bind fun t235 => (some false)) else (some false)) else (some false)) else (some false))) else (some false)) else (some false)) else (some false))) else (if t171 = 0 then (if (t170.size : Int) = 28 then (if t181 = 0 then ((crosswaylaw05_ask.f).bind fun bt236 => (if (t172 == bt236.1 && (t173 == bt236.2.1 && ((t174 == bt236.2.2.1 && (t175 == bt236.2.2.2.1 && (t176 == bt236.2.2.2.2.1))) && (t177 == bt236.2.2.2.2.2.1 && ((t178 == bt236.2.2.2.2.2.2.1 && (t179 == bt236.2.2.2.2.2.2.2.1 && (t180 == bt236.2.2.2.2.2.2.2.2)))))))) = true then (if bt183.2 = 0 then (if bt183.1 = 1101088686331 then ((ether_PrintMac.f k 5).bind fun t245 => (some false)) else (some false)) else (some false)) else (some false))) else (some false)) else (some false)) else (some false)))) = some r := H
 have A6 := Aside0.mk A60
 clear A60
 replace H := Option.bind_eq_some_iff.mp H
 obtain ⟨⟨t183, t184⟩, A70, H⟩ := H
 replace H : (if t148 = 0 then (if (t147.size : Int) = 60 then (if 0 ≤ 16 then (if 16 ≤ (t147.size : Int) then (if (t147.extract 0 16).toList = ([0, 0, 0, 0, 0, 1, 0, 0, 0, 0, 0, 2, 8, 0, 97, 98] : List UInt8) then (if t153 = 0 then (if t150 = 2 then (if t171 = 0 then (if (t170.size : Int) = 28 then (if t181 = 0 then ((crosswaylaw05_ask.f).bind fun bt185 => (if (t172 == bt185.1 && (t173 == bt185.2.1 && ((t174 == bt185.2.2.1 && (t175 == bt185.2.2.2.1 && (t176 == bt185.2.2.2.2.1))) && (t177 == bt185.2.2.2.2.2.1 && ((t178 == bt185.2.2.2.2.2.2.1 && (t179 == bt185.2.2.2.2.2.2.2.1 && (t180 == bt185.2.2.2.2.2.2.2.2)))))))) = true then (if t184 = 0 then (if t183 = 1101088686331 then ((ether_PrintMac.f k 5).bind fun t194 => (if t159 = 41 then (if t194.toList = ([48, 48, 58, 48, 48, 58, 48, 48, 58, 48, 48, 58, 48, 48, 58, 48, 53] : List UInt8) then ((ether_Group.f k false 0 3758096635).bind fun t195 => (some (t195 == t183))) else (some false)) else (some false))) else (if t159 = 41 then (some false) else (some false))) else (if t159 = 41 then (some false) else (some false))) else (if t159 = 41 then (some false) else (some false)))) else (if t159 = 41 then (some false) else (some false))) else (if t159 = 41 then (some false) else (some false))) else (if t159 = 41 then (some false) else (some false))) else (if t171 = 0 then (if (t170.size : Int) = 28 then (if t181 = 0 then ((crosswaylaw05_ask.f).bind fun bt196 => (if (t172 == bt196.1 && (t173 == bt196.2.1 && ((t174 == bt196.2.2.1 && (t175 == bt196.2.2.2.1 && (t176 == bt196.2.2.2.2.1))) && (t177 == bt196.2.2.2.2.2.1 && ((t178 == bt196.2.2.2.2.2.2.1 && (t179 == bt196.2.2.2.2.2.2.2.1 && (t180 == bt196.2.2.2.2.2.2.2.2)))))))) = true then (if t184 = 0 then (if t183 = 1101088686331 then ((ether_PrintMac.f k 5).bind fun t205 => (some false)) else (some false)) else (some false)) else (some false))) else (some false)) else (some false)) else (some false))) else (if t171 = 0 then (if (t170.size : Int) = 28 then (if t181 = 0 then ((crosswaylaw05_ask.f).bind fun bt206 => (if (t172 == bt206.1 && (t173 == bt206.2.1 && ((t174 == bt206.2.2.1 && (t175 == bt206.2.2.2.1 && (t176 == bt206.2.2.2.2.1))) && (t177 == bt206.2.2.2.2.2.1 && ((t178 == bt206.2.2.2.2.2.2.1 && (t179 == bt206.2.2.2.2.2.2.2.1 && (t180 == bt206.2.2.2.2.2.2.2.2)))))))) = true then (if t184 = 0 then (if t183 = 1101088686331 then ((ether_PrintMac.f k 5).bind fun t215 => (some false)) else (some false)) else (some false)) else (some false))) else (some false)) else (some false)) else (some false))) else (if t171 = 0 then (if (t170.size : Int) = 28 then (if t181 = 0 then ((crosswaylaw05_ask.f).bind fun bt216 => (if (t172 == bt216.1 && (t173 == bt216.2.1 && ((t174 == bt216.2.2.1 && (t175 == bt216.2.2.2.1 && (t176 == bt216.2.2.2.2.1))) && (t177 == bt216.2.2.2.2.2.1 && ((t178 == bt216.2.2.2.2.2.2.1 && (t179 == bt216.2.2.2.2.2.2.2.1 && (t180 == bt216.2.2.2.2.2.2.2.2)))))))) = true then (if t184 = 0 then (if t183 = 1101088686331 then ((ether_PrintMac.f k 5).bind fun t225 => (some false)) else (some false)) else (some false)) else (some false))) else (some false)) else (some false)) else (some false))) else (none)) else (none)) else (if t171 = 0 then (if (t170.size : Int) = 28 then (if t181 = 0 then ((crosswaylaw05_ask.f).bind fun bt226 => (if (t172 == bt226.1 && (t173 == bt226.2.1 && ((t174 == bt226.2.2.1 && (t175 == bt226.2.2.2.1 && (t176 == bt226.2.2.2.2.1))) && (t177 == bt226.2.2.2.2.2.1 && ((t178 == bt226.2.2.2.2.2.2.1 && (t179 == bt226.2.2.2.2.2.2.2.1 && (t180 == bt226.2.2.2.2.2.2.2.2)))))))) = true then (if t184 = 0 then (if t183 = 1101088686331 then ((ether_PrintMac.f k 5).bind fun t235 => (some false)) else (some false)) else (some false)) else (some false))) else (some false)) else (some false)) else (some false))) else (if t171 = 0 then (if (t170.size : Int) = 28 then (if t181 = 0 then ((crosswaylaw05_ask.f).bind fun bt236 => (if (t172 == bt236.1 && (t173 == bt236.2.1 && ((t174 == bt236.2.2.1 && (t175 == bt236.2.2.2.1 && (t176 == bt236.2.2.2.2.1))) && (t177 == bt236.2.2.2.2.2.1 && ((t178 == bt236.2.2.2.2.2.2.1 && (t179 == bt236.2.2.2.2.2.2.2.1 && (t180 == bt236.2.2.2.2.2.2.2.2)))))))) = true then (if t184 = 0 then (if t183 = 1101088686331 then ((ether_PrintMac.f k 5).bind fun t245 => (some false)) else (some false)) else (some false)) else (some false))) else (some false)) else (some false)) else (some false))) = some r := H
 have A7 := Aside0.mk A70
 clear A70
 by_cases c8 : t148 = 0
 ·
  rw [if_pos c8] at H
  have c8b0 : (t148 == 0) = true := beq_iff_eq.mpr c8
  have c8b1 : (t148 != 0) = false := bne_eq_false_iff_eq.mpr c8
  clear c8
  by_cases c9 : (t147.size : Int) = 60
  ·
   rw [if_pos c9] at H
   have c9b0 : ((t147.size : Int) == 60) = true := beq_iff_eq.mpr c9
   have c9b1 : ((t147.size : Int) != 60) = false := bne_eq_false_iff_eq.mpr c9
   clear c9
   by_cases c10 : 0 ≤ 16
   ·
    rw [if_pos c10] at H
    have c10b0 := eq_true c10
    have c10b1 : decide (0 ≤ 16) = true := decide_eq_true c10
    clear c10
    by_cases c11 : 16 ≤ (t147.size : Int)
    ·
     rw [if_pos c11] at H
     have c11b0 := eq_true c11
     have c11b1 : decide (16 ≤ (t147.size : Int)) = true := decide_eq_true c11
     clear c11
     by_cases c12 : (t147.extract 0 16).toList = ([0, 0, 0, 0, 0, 1, 0, 0, 0, 0, 0, 2, 8, 0, 97, 98] : List UInt8)
     ·
      rw [if_pos c12] at H
      have c12b0 : ((t147.extract 0 16).toList == ([0, 0, 0, 0, 0, 1, 0, 0, 0, 0, 0, 2, 8, 0, 97, 98] : List UInt8)) = true := beq_iff_eq.mpr c12
      have c12b1 : ((t147.extract 0 16).toList != ([0, 0, 0, 0, 0, 1, 0, 0, 0, 0, 0, 2, 8, 0, 97, 98] : List UInt8)) = false := bne_eq_false_iff_eq.mpr c12
      clear c12
      by_cases c13 : t153 = 0
      ·
       rw [if_pos c13] at H
       have c13b0 : (t153 == 0) = true := beq_iff_eq.mpr c13
       have c13b1 : (t153 != 0) = false := bne_eq_false_iff_eq.mpr c13
       clear c13
       by_cases c14 : t150 = 2
       ·
        rw [if_pos c14] at H
        have c14b0 : (t150 == 2) = true := beq_iff_eq.mpr c14
        have c14b1 : (t150 != 2) = false := bne_eq_false_iff_eq.mpr c14
        clear c14
        by_cases c15 : t171 = 0
        ·
         rw [if_pos c15] at H
         have c15b0 : (t171 == 0) = true := beq_iff_eq.mpr c15
         have c15b1 : (t171 != 0) = false := bne_eq_false_iff_eq.mpr c15
         clear c15
         by_cases c16 : (t170.size : Int) = 28
         ·
          rw [if_pos c16] at H
          have c16b0 : ((t170.size : Int) == 28) = true := beq_iff_eq.mpr c16
          have c16b1 : ((t170.size : Int) != 28) = false := bne_eq_false_iff_eq.mpr c16
          clear c16
          by_cases c17 : t181 = 0
          ·
           rw [if_pos c17] at H
           have c17b0 : (t181 == 0) = true := beq_iff_eq.mpr c17
           have c17b1 : (t181 != 0) = false := bne_eq_false_iff_eq.mpr c17
           clear c17
           replace H := Option.bind_eq_some_iff.mp H
           obtain ⟨⟨t185, t186, t187, t188, t189, t190, t191, t192, t193⟩, A180, H⟩ := H
           replace H : (if (t172 == t185 && (t173 == t186 && ((t174 == t187 && (t175 == t188 && (t176 == t189))) && (t177 == t190 && ((t178 == t191 && (t179 == t192 && (t180 == t193)))))))) = true then (if t184 = 0 then (if t183 = 1101088686331 then ((ether_PrintMac.f k 5).bind fun t194 => (if t159 = 41 then (if t194.toList = ([48, 48, 58, 48, 48, 58, 48, 48, 58, 48, 48, 58, 48, 48, 58, 48, 53] : List UInt8) then ((ether_Group.f k false 0 3758096635).bind fun t195 => (some (t195 == t183))) else (some false)) else (some false))) else (if t159 = 41 then (some false) else (some false))) else (if t159 = 41 then (some false) else (some false))) else (if t159 = 41 then (some false) else (some false))) = some r := H
           have A18 := Aside0.mk A180
           clear A180
           by_cases c19 : (t172 == t185 && (t173 == t186 && ((t174 == t187 && (t175 == t188 && (t176 == t189))) && (t177 == t190 && ((t178 == t191 && (t179 == t192 && (t180 == t193)))))))) = true
           ·
            rw [if_pos c19] at H
            have c19b0 : (t172 == t185 && (t173 == t186 && ((t174 == t187 && (t175 == t188 && (t176 == t189))) && (t177 == t190 && ((t178 == t191 && (t179 == t192 && (t180 == t193)))))))) = true := c19
            (try (have c19b1 : decide (t172 = t185 && (t173 == t186 && ((t174 == t187 && (t175 == t188 && (t176 == t189))) && (t177 == t190 && ((t178 == t191 && (t179 == t192 && (t180 == t193)))))))) = true := by simpa using c19))
            (try (have c19b2 : (t172 == t185 && (t173 == t186 && ((t174 == t187 && (t175 == t188 && (t176 == t189))) && (t177 == t190 && ((t178 == t191 && (t179 == t192 && (t180 == t193)))))))) = true := by simpa using c19))
            clear c19
            by_cases c20 : t184 = 0
            ·
             rw [if_pos c20] at H
             have c20b0 : (t184 == 0) = true := beq_iff_eq.mpr c20
             have c20b1 : (t184 != 0) = false := bne_eq_false_iff_eq.mpr c20
             clear c20
             by_cases c21 : t183 = 1101088686331
             ·
              rw [if_pos c21] at H
              have c21b0 : (t183 == 1101088686331) = true := beq_iff_eq.mpr c21
              have c21b1 : (t183 != 1101088686331) = false := bne_eq_false_iff_eq.mpr c21
              clear c21
              replace H := Option.bind_eq_some_iff.mp H
              obtain ⟨t194, A220, H⟩ := H
              have A22 := Aside0.mk A220
              clear A220
              by_cases c23 : t159 = 41
              ·
               rw [if_pos c23] at H
               have c23b0 : (t159 == 41) = true := beq_iff_eq.mpr c23
               have c23b1 : (t159 != 41) = false := bne_eq_false_iff_eq.mpr c23
               clear c23
               by_cases c24 : t194.toList = ([48, 48, 58, 48, 48, 58, 48, 48, 58, 48, 48, 58, 48, 48, 58, 48, 53] : List UInt8)
               ·
                rw [if_pos c24] at H
                have c24b0 : (t194.toList == ([48, 48, 58, 48, 48, 58, 48, 48, 58, 48, 48, 58, 48, 48, 58, 48, 53] : List UInt8)) = true := beq_iff_eq.mpr c24
                have c24b1 : (t194.toList != ([48, 48, 58, 48, 48, 58, 48, 48, 58, 48, 48, 58, 48, 48, 58, 48, 53] : List UInt8)) = false := bne_eq_false_iff_eq.mpr c24
                clear c24
                replace H := Option.bind_eq_some_iff.mp H
                obtain ⟨t195, A250, H⟩ := H
                have A25 := Aside0.mk A250
                clear A250
                obtain rfl := Option.some.inj H
                go_enter Tryd.func10, Tryd.ntmps10
                try go_wp2_with (first | ((with_reducible refine gate_callee (f := 11) rfl ?_); refine goesL_ (some 17) rfl rfl Tryd.func11 (by kernel_rfl) rfl #[.agg #[.int .u64 1, .int .u64 2, .int .i64 2048, .string (⟨#[97, 98]⟩ : ByteArray)]] rfl (by (try simp only [List.map_toArray, List.map_cons, List.map_nil]); first | done | rfl | (simp only [List.length_drop, List.length_take]; rfl)) ?_; (with_reducible refine (ether_Lay.calls k 1 2 2048 (⟨#[97, 98]⟩ : ByteArray) t147 t148 _ A1.out).mono ?_); rintro e w26 ⟨rfl, hb⟩; refine ⟨_, rfl, ?_⟩; have n0_ := Aside0.mk (below_step (by repeat (first | (with_reducible first | exact HB.out | apply below_alloc | apply pw_below_drewN | apply below_drew1) | exact HB.out)) hb); clear HB; have HB := n0_; clear n0_; (try clear hb); (try clear hb2); (try clear hk); (try clear hi)) | ((with_reducible refine gate_callee (f := 15) rfl ?_); refine goesL_ (some 22) rfl rfl Tryd.func15 (by kernel_rfl) rfl #[.string t147] rfl (by (try simp only [List.map_toArray, List.map_cons, List.map_nil]); first | done | rfl | (simp only [List.length_drop, List.length_take]; rfl)) ?_; (with_reducible refine (ether_Take.calls k t147 t149 t150 t151 t152 t153 _ A2.out).mono ?_); rintro e w27 ⟨rfl, hb⟩; refine ⟨_, rfl, ?_⟩; have n0_ := Aside0.mk (below_step (by repeat (first | (with_reducible first | exact HB.out | apply below_alloc | apply pw_below_drewN | apply below_drew1) | exact HB.out)) hb); clear HB; have HB := n0_; clear n0_; (try clear hb); (try clear hb2); (try clear hk); (try clear hi)) | ((with_reducible refine gate_dst (N := 3) rfl ?_); (try (refine gate_guard (by rfl) ?_; dsimp only)); refine box_event ?hg (N := 3) ?hd (cs := #[.int .u64 0, .int .u64 0, .int .i64 0, .string (⟨#[]⟩ : ByteArray)]) (t := 25) ?hr ?_; (case hd => rfl); (case hg => rfl); (case hr => first | (go_simp; done) | (go_simp; rfl)); intro gb154 hg w28 hbox hb; have n0_ := Aside0.mk (below_step (by repeat (first | (with_reducible first | exact HB.out | apply below_alloc | apply pw_below_drewN | apply below_drew1) | exact HB.out)) hb); have n1_ := Aside0.mk (hbox); have n2_ := Aside0.mk ((by rw [hg]; exact (below_size (by repeat (first | (with_reducible first | exact HB.out | apply below_alloc | apply pw_below_drewN | apply below_drew1) | exact HB.out))) : w.heap.size ≤ gb154)); have n3_ := Aside0.mk ((by rw [hg]; exact (below_size (by repeat (first | (with_reducible first | exact HB.out | apply below_alloc | apply pw_below_drewN | apply below_drew1) | exact HB.out))) : w.heap.size ≤ gb154)); clear HB; have HB := n0_; have BK154 := n1_; have GW154 := n2_; have GE154 := n3_; clear n0_ n1_ n2_ n3_; clear hb hbox hg; obtain ⟨hcz29_0, hcz29_1, hcz29_2, hcz29_3⟩ := MBlk.c4 BK154.out; obtain ⟨hfz29_0, hfz29_1, hfz29_2, hfz29_3⟩ := MBlk.f4 BK154.out) | ((with_reducible refine gate_callee (f := 15) rfl ?_); refine goesL_ (some 26) rfl rfl Tryd.func15 (by kernel_rfl) rfl #[.string (⟨#[48, 49, 50, 51, 52, 53, 54, 55, 56, 57, 97, 98, 99]⟩ : ByteArray)] rfl (by (try simp only [List.map_toArray, List.map_cons, List.map_nil]); first | done | rfl | (simp only [List.length_drop, List.length_take]; rfl)) ?_; (with_reducible refine (ether_Take.calls k (⟨#[48, 49, 50, 51, 52, 53, 54, 55, 56, 57, 97, 98, 99]⟩ : ByteArray) t155 t156 t157 t158 t159 _ A3.out).mono ?_); rintro e w30 ⟨rfl, hb⟩; refine ⟨_, rfl, ?_⟩; have n0_ := Aside0.mk (blk_below (g := gb154) (o := .cells #[.int .u64 t149, .int .u64 t150, .int .i64 t151, .string t152] 25 (0, 0)) (by (with_reducible repeat (first | refine blk_drewN ?_ _ | refine blk_drew ?_ | refine blk_alloc ?_ _)); refine blk_put (cs := #[.int .u64 t149, .int .u64 t150, .int .i64 t151, .string (⟨#[]⟩ : ByteArray)]) ?_ 3 _ rfl; (with_reducible repeat (first | refine blk_drewN ?_ _ | refine blk_drew ?_ | refine blk_alloc ?_ _)); refine blk_put (cs := #[.int .u64 t149, .int .u64 t150, .int .i64 0, .string (⟨#[]⟩ : ByteArray)]) ?_ 2 _ rfl; (with_reducible repeat (first | refine blk_drewN ?_ _ | refine blk_drew ?_ | refine blk_alloc ?_ _)); refine blk_put (cs := #[.int .u64 t149, .int .u64 0, .int .i64 0, .string (⟨#[]⟩ : ByteArray)]) ?_ 1 _ rfl; (with_reducible repeat (first | refine blk_drewN ?_ _ | refine blk_drew ?_ | refine blk_alloc ?_ _)); refine blk_put (cs := #[.int .u64 0, .int .u64 0, .int .i64 0, .string (⟨#[]⟩ : ByteArray)]) ?_ 0 _ rfl; (with_reducible repeat (first | refine blk_drewN ?_ _ | refine blk_drew ?_ | refine blk_alloc ?_ _)); exact BK154.out) hb); have n1_ := Aside0.mk (below_step (by repeat (first | (with_reducible first | exact HB.out | apply below_alloc | apply pw_below_drewN | apply below_drew1 | refine below_set ?_ GE154.out) | exact HB.out)) hb); clear BK154; clear HB; have BK154 := n0_; have HB := n1_; clear n0_ n1_; (try clear hb); (try clear hb2); (try clear hk); (try clear hi)) | ((with_reducible refine gate_dst (N := 5) rfl ?_); (try (refine gate_guard (by rfl) ?_; dsimp only)); refine box_event ?hg (N := 5) ?hd (cs := #[.int .u64 0, .int .u64 0, .int .i64 0, .string (⟨#[]⟩ : ByteArray)]) (t := 25) ?hr ?_; (case hd => rfl); (case hg => rfl); (case hr => first | (go_simp; done) | (go_simp; rfl)); intro gb160 hg w31 hbox hb; have n0_ := Aside0.mk (blk_below (g := gb154) (o := .cells #[.int .u64 t149, .int .u64 t150, .int .i64 t151, .string t152] 25 (0, 0)) (by (with_reducible repeat (first | refine blk_drewN ?_ _ | refine blk_drew ?_ | refine blk_alloc ?_ _)); exact BK154.out) hb); have n1_ := Aside0.mk (below_step (by repeat (first | (with_reducible first | exact HB.out | apply below_alloc | apply pw_below_drewN | apply below_drew1 | refine below_set ?_ GE154.out) | exact HB.out)) hb); have n2_ := Aside0.mk (hbox); have n3_ := Aside0.mk ((by rw [hg]; exact (below_size (by repeat (first | (with_reducible first | exact HB.out | apply below_alloc | apply pw_below_drewN | apply below_drew1 | refine below_set ?_ GE154.out) | exact HB.out))) : w.heap.size ≤ gb160)); have n4_ := Aside0.mk ((by rw [hg]; exact (below_size (by repeat (first | (with_reducible first | exact HB.out | apply below_alloc | apply pw_below_drewN | apply below_drew1 | refine below_set ?_ GE154.out) | exact HB.out))) : w.heap.size ≤ gb160)); have n5_ := Aside0.mk ((by rw [hg]; exact Nat.ne_of_lt (blk_lt (g := gb154) (o := .cells #[.int .u64 t149, .int .u64 t150, .int .i64 t151, .string t152] 25 (0, 0)) (by (with_reducible repeat (first | refine blk_drewN ?_ _ | refine blk_drew ?_ | refine blk_alloc ?_ _)); exact BK154.out)) : gb154 ≠ gb160)); have n6_ := Aside0.mk ((by rw [hg]; exact Nat.ne_of_gt (blk_lt (g := gb154) (o := .cells #[.int .u64 t149, .int .u64 t150, .int .i64 t151, .string t152] 25 (0, 0)) (by (with_reducible repeat (first | refine blk_drewN ?_ _ | refine blk_drew ?_ | refine blk_alloc ?_ _)); exact BK154.out)) : gb160 ≠ gb154)); clear BK154; clear HB; have BK154 := n0_; have HB := n1_; have BK160 := n2_; have GW160 := n3_; have GE160 := n4_; have NB154_160 := n5_; have NB160_154 := n6_; clear n0_ n1_ n2_ n3_ n4_ n5_ n6_; clear hb hbox hg; have hnb32 := NB160_154.out; have hnc32 := NB154_160.out; obtain ⟨hcz33_0, hcz33_1, hcz33_2, hcz33_3⟩ := MBlk.c4 BK160.out; obtain ⟨hfz33_0, hfz33_1, hfz33_2, hfz33_3⟩ := MBlk.f4 BK160.out) | ((with_reducible refine gate_callee (f := 25) rfl ?_); refine goesL_ (some 30) rfl rfl Tryd.func25 (by kernel_rfl) rfl #[] rfl (by (try simp only [List.map_toArray, List.map_cons, List.map_nil]); first | done | rfl | (simp only [List.length_drop, List.length_take]; rfl)) ?_; (with_reducible refine (crosswaylaw05_ask.calls  t161 t162 t163 t164 t165 t166 t167 t168 t169 _ A4.out).mono ?_); rintro e w34 ⟨rfl, hb⟩; refine ⟨_, rfl, ?_⟩; have n0_ := Aside0.mk (blk_below (g := gb154) (o := .cells #[.int .u64 t149, .int .u64 t150, .int .i64 t151, .string t152] 25 (0, 0)) (by (with_reducible repeat (first | refine blk_drewN ?_ _ | refine blk_drew ?_ | refine blk_alloc ?_ _)); refine blk_far ?_ NB154_160.out _; (with_reducible repeat (first | refine blk_drewN ?_ _ | refine blk_drew ?_ | refine blk_alloc ?_ _)); refine blk_far ?_ NB154_160.out _; (with_reducible repeat (first | refine blk_drewN ?_ _ | refine blk_drew ?_ | refine blk_alloc ?_ _)); refine blk_far ?_ NB154_160.out _; (with_reducible repeat (first | refine blk_drewN ?_ _ | refine blk_drew ?_ | refine blk_alloc ?_ _)); refine blk_far ?_ NB154_160.out _; (with_reducible repeat (first | refine blk_drewN ?_ _ | refine blk_drew ?_ | refine blk_alloc ?_ _)); exact BK154.out) hb); have n1_ := Aside0.mk (blk_below (g := gb160) (o := .cells #[.int .u64 t155, .int .u64 t156, .int .i64 t157, .string t158] 25 (0, 0)) (by (with_reducible repeat (first | refine blk_drewN ?_ _ | refine blk_drew ?_ | refine blk_alloc ?_ _)); refine blk_put (cs := #[.int .u64 t155, .int .u64 t156, .int .i64 t157, .string (⟨#[]⟩ : ByteArray)]) ?_ 3 _ rfl; (with_reducible repeat (first | refine blk_drewN ?_ _ | refine blk_drew ?_ | refine blk_alloc ?_ _)); refine blk_put (cs := #[.int .u64 t155, .int .u64 t156, .int .i64 0, .string (⟨#[]⟩ : ByteArray)]) ?_ 2 _ rfl; (with_reducible repeat (first | refine blk_drewN ?_ _ | refine blk_drew ?_ | refine blk_alloc ?_ _)); refine blk_put (cs := #[.int .u64 t155, .int .u64 0, .int .i64 0, .string (⟨#[]⟩ : ByteArray)]) ?_ 1 _ rfl; (with_reducible repeat (first | refine blk_drewN ?_ _ | refine blk_drew ?_ | refine blk_alloc ?_ _)); refine blk_put (cs := #[.int .u64 0, .int .u64 0, .int .i64 0, .string (⟨#[]⟩ : ByteArray)]) ?_ 0 _ rfl; (with_reducible repeat (first | refine blk_drewN ?_ _ | refine blk_drew ?_ | refine blk_alloc ?_ _)); exact BK160.out) hb); have n2_ := Aside0.mk (below_step (by repeat (first | (with_reducible first | exact HB.out | apply below_alloc | apply pw_below_drewN | apply below_drew1 | refine below_set ?_ GE154.out | refine below_set ?_ GE160.out) | exact HB.out)) hb); clear BK154; clear BK160; clear HB; have BK154 := n0_; have BK160 := n1_; have HB := n2_; clear n0_ n1_ n2_; (try clear hb); (try clear hb2); (try clear hk); (try clear hi)) | ((with_reducible refine gate_callee (f := 13) rfl ?_); refine goesL_ (some 31) rfl rfl Tryd.func13 (by kernel_rfl) rfl #[.agg #[.int .i64 t161, .int .u64 t162, .bool t163, .int .u64 t164, .int .u64 t165, .int .u64 t166, .bool t167, .int .u64 t168, .int .u64 t169]] rfl (by (try simp only [List.map_toArray, List.map_cons, List.map_nil]); first | done | rfl | (simp only [List.length_drop, List.length_take]; rfl)) ?_; (with_reducible refine Calls.mono (ether_LayArp.calls t161 t162 t163 t164 t165 t166 t167 t168 t169 t170 t171 _ A5.out ?hgl_) ?_); (case hgl_ => exact ether_Glob_below HGL.out (by repeat (first | (with_reducible first | exact HB.out | apply below_alloc | apply pw_below_drewN | apply below_drew1 | refine below_set ?_ GE154.out | refine below_set ?_ GE160.out) | exact HB.out))); rintro e w35 ⟨rfl, hb⟩; refine ⟨_, rfl, ?_⟩; have n0_ := Aside0.mk (blk_below (g := gb154) (o := .cells #[.int .u64 t149, .int .u64 t150, .int .i64 t151, .string t152] 25 (0, 0)) (by (with_reducible repeat (first | refine blk_drewN ?_ _ | refine blk_drew ?_ | refine blk_alloc ?_ _)); exact BK154.out) hb); have n1_ := Aside0.mk (blk_below (g := gb160) (o := .cells #[.int .u64 t155, .int .u64 t156, .int .i64 t157, .string t158] 25 (0, 0)) (by (with_reducible repeat (first | refine blk_drewN ?_ _ | refine blk_drew ?_ | refine blk_alloc ?_ _)); exact BK160.out) hb); have n2_ := Aside0.mk (below_step (by repeat (first | (with_reducible first | exact HB.out | apply below_alloc | apply pw_below_drewN | apply below_drew1 | refine below_set ?_ GE154.out | refine below_set ?_ GE160.out) | exact HB.out)) hb); clear BK154; clear BK160; clear HB; have BK154 := n0_; have BK160 := n1_; have HB := n2_; clear n0_ n1_ n2_; (try clear hb); (try clear hb2); (try clear hk); (try clear hi)) | ((with_reducible refine gate_callee (f := 17) rfl ?_); refine goesL_ (some 36) rfl rfl Tryd.func17 (by kernel_rfl) rfl #[.string t170] rfl (by (try simp only [List.map_toArray, List.map_cons, List.map_nil]); first | done | rfl | (simp only [List.length_drop, List.length_take]; rfl)) ?_; (with_reducible refine Calls.mono (ether_TakeArp.calls k t170 t172 t173 t174 t175 t176 t177 t178 t179 t180 t181 _ A6.out ?hgl_) ?_); (case hgl_ => exact ether_Glob_below HGL.out (by repeat (first | (with_reducible first | exact HB.out | apply below_alloc | apply pw_below_drewN | apply below_drew1 | refine below_set ?_ GE154.out | refine below_set ?_ GE160.out) | exact HB.out))); rintro e w36 ⟨rfl, hb⟩; refine ⟨_, rfl, ?_⟩; have n0_ := Aside0.mk (blk_below (g := gb154) (o := .cells #[.int .u64 t149, .int .u64 t150, .int .i64 t151, .string t152] 25 (0, 0)) (by (with_reducible repeat (first | refine blk_drewN ?_ _ | refine blk_drew ?_ | refine blk_alloc ?_ _)); exact BK154.out) hb); have n1_ := Aside0.mk (blk_below (g := gb160) (o := .cells #[.int .u64 t155, .int .u64 t156, .int .i64 t157, .string t158] 25 (0, 0)) (by (with_reducible repeat (first | refine blk_drewN ?_ _ | refine blk_drew ?_ | refine blk_alloc ?_ _)); exact BK160.out) hb); have n2_ := Aside0.mk (below_step (by repeat (first | (with_reducible first | exact HB.out | apply below_alloc | apply pw_below_drewN | apply below_drew1 | refine below_set ?_ GE154.out | refine below_set ?_ GE160.out) | exact HB.out)) hb); clear BK154; clear BK160; clear HB; have BK154 := n0_; have BK160 := n1_; have HB := n2_; clear n0_ n1_ n2_; (try clear hb); (try clear hb2); (try clear hk); (try clear hi)) | ((with_reducible refine gate_dst (N := 9) rfl ?_); (try (refine gate_guard (by rfl) ?_; dsimp only)); refine box_event ?hg (N := 9) ?hd (cs := #[.int .i64 0, .int .u64 0, .bool false, .int .u64 0, .int .u64 0, .int .u64 0, .bool false, .int .u64 0, .int .u64 0]) (t := 29) ?hr ?_; (case hd => rfl); (case hg => rfl); (case hr => first | (go_simp; done) | (go_simp; rfl)); intro gb182 hg w37 hbox hb; have n0_ := Aside0.mk (blk_below (g := gb154) (o := .cells #[.int .u64 t149, .int .u64 t150, .int .i64 t151, .string t152] 25 (0, 0)) (by (with_reducible repeat (first | refine blk_drewN ?_ _ | refine blk_drew ?_ | refine blk_alloc ?_ _)); exact BK154.out) hb); have n1_ := Aside0.mk (blk_below (g := gb160) (o := .cells #[.int .u64 t155, .int .u64 t156, .int .i64 t157, .string t158] 25 (0, 0)) (by (with_reducible repeat (first | refine blk_drewN ?_ _ | refine blk_drew ?_ | refine blk_alloc ?_ _)); exact BK160.out) hb); have n2_ := Aside0.mk (below_step (by repeat (first | (with_reducible first | exact HB.out | apply below_alloc | apply pw_below_drewN | apply below_drew1 | refine below_set ?_ GE154.out | refine below_set ?_ GE160.out) | exact HB.out)) hb); have n3_ := Aside0.mk (hbox); have n4_ := Aside0.mk ((by rw [hg]; exact (below_size (by repeat (first | (with_reducible first | exact HB.out | apply below_alloc | apply pw_below_drewN | apply below_drew1 | refine below_set ?_ GE154.out | refine below_set ?_ GE160.out) | exact HB.out))) : w.heap.size ≤ gb182)); have n5_ := Aside0.mk ((by rw [hg]; exact (below_size (by repeat (first | (with_reducible first | exact HB.out | apply below_alloc | apply pw_below_drewN | apply below_drew1 | refine below_set ?_ GE154.out | refine below_set ?_ GE160.out) | exact HB.out))) : w.heap.size ≤ gb182)); have n6_ := Aside0.mk ((by rw [hg]; exact Nat.ne_of_lt (blk_lt (g := gb154) (o := .cells #[.int .u64 t149, .int .u64 t150, .int .i64 t151, .string t152] 25 (0, 0)) (by (with_reducible repeat (first | refine blk_drewN ?_ _ | refine blk_drew ?_ | refine blk_alloc ?_ _)); exact BK154.out)) : gb154 ≠ gb182)); have n7_ := Aside0.mk ((by rw [hg]; exact Nat.ne_of_gt (blk_lt (g := gb154) (o := .cells #[.int .u64 t149, .int .u64 t150, .int .i64 t151, .string t152] 25 (0, 0)) (by (with_reducible repeat (first | refine blk_drewN ?_ _ | refine blk_drew ?_ | refine blk_alloc ?_ _)); exact BK154.out)) : gb182 ≠ gb154)); have n8_ := Aside0.mk ((by rw [hg]; exact Nat.ne_of_lt (blk_lt (g := gb160) (o := .cells #[.int .u64 t155, .int .u64 t156, .int .i64 t157, .string t158] 25 (0, 0)) (by (with_reducible repeat (first | refine blk_drewN ?_ _ | refine blk_drew ?_ | refine blk_alloc ?_ _)); exact BK160.out)) : gb160 ≠ gb182)); have n9_ := Aside0.mk ((by rw [hg]; exact Nat.ne_of_gt (blk_lt (g := gb160) (o := .cells #[.int .u64 t155, .int .u64 t156, .int .i64 t157, .string t158] 25 (0, 0)) (by (with_reducible repeat (first | refine blk_drewN ?_ _ | refine blk_drew ?_ | refine blk_alloc ?_ _)); exact BK160.out)) : gb182 ≠ gb160)); clear BK154; clear BK160; clear HB; have BK154 := n0_; have BK160 := n1_; have HB := n2_; have BK182 := n3_; have GW182 := n4_; have GE182 := n5_; have NB154_182 := n6_; have NB182_154 := n7_; have NB160_182 := n8_; have NB182_160 := n9_; clear n0_ n1_ n2_ n3_ n4_ n5_ n6_ n7_ n8_ n9_; clear hb hbox hg; have hnb38 := NB182_154.out; have hnc38 := NB154_182.out; have hnb39 := NB182_160.out; have hnc39 := NB160_182.out; obtain ⟨hcz40_0, hcz40_1, hcz40_2, hcz40_3, hcz40_4, hcz40_5, hcz40_6, hcz40_7, hcz40_8⟩ := MBlk.c9 BK182.out; obtain ⟨hfz40_0, hfz40_1, hfz40_2, hfz40_3, hfz40_4, hfz40_5, hfz40_6, hfz40_7, hfz40_8⟩ := MBlk.f9 BK182.out) | ((with_reducible refine gate_callee (f := 19) rfl ?_); refine goesL_ (some 40) rfl rfl Tryd.func19 (by kernel_rfl) rfl #[.string (⟨#[48, 49, 58, 48, 48, 58, 53, 69, 58, 48, 48, 58, 48, 48, 58, 102, 98]⟩ : ByteArray)] rfl (by (try simp only [List.map_toArray, List.map_cons, List.map_nil]); first | done | rfl | (simp only [List.length_drop, List.length_take]; rfl)) ?_; (with_reducible refine (ether_ParseMac.calls k (⟨#[48, 49, 58, 48, 48, 58, 53, 69, 58, 48, 48, 58, 48, 48, 58, 102, 98]⟩ : ByteArray) t183 t184 _ A7.out).mono ?_); rintro e w41 ⟨rfl, hb⟩; refine ⟨_, rfl, ?_⟩; have n0_ := Aside0.mk (blk_below (g := gb154) (o := .cells #[.int .u64 t149, .int .u64 t150, .int .i64 t151, .string t152] 25 (0, 0)) (by (with_reducible repeat (first | refine blk_drewN ?_ _ | refine blk_drew ?_ | refine blk_alloc ?_ _)); refine blk_far ?_ NB154_182.out _; (with_reducible repeat (first | refine blk_drewN ?_ _ | refine blk_drew ?_ | refine blk_alloc ?_ _)); refine blk_far ?_ NB154_182.out _; (with_reducible repeat (first | refine blk_drewN ?_ _ | refine blk_drew ?_ | refine blk_alloc ?_ _)); refine blk_far ?_ NB154_182.out _; (with_reducible repeat (first | refine blk_drewN ?_ _ | refine blk_drew ?_ | refine blk_alloc ?_ _)); refine blk_far ?_ NB154_182.out _; (with_reducible repeat (first | refine blk_drewN ?_ _ | refine blk_drew ?_ | refine blk_alloc ?_ _)); refine blk_far ?_ NB154_182.out _; (with_reducible repeat (first | refine blk_drewN ?_ _ | refine blk_drew ?_ | refine blk_alloc ?_ _)); refine blk_far ?_ NB154_182.out _; (with_reducible repeat (first | refine blk_drewN ?_ _ | refine blk_drew ?_ | refine blk_alloc ?_ _)); refine blk_far ?_ NB154_182.out _; (with_reducible repeat (first | refine blk_drewN ?_ _ | refine blk_drew ?_ | refine blk_alloc ?_ _)); refine blk_far ?_ NB154_182.out _; (with_reducible repeat (first | refine blk_drewN ?_ _ | refine blk_drew ?_ | refine blk_alloc ?_ _)); refine blk_far ?_ NB154_182.out _; (with_reducible repeat (first | refine blk_drewN ?_ _ | refine blk_drew ?_ | refine blk_alloc ?_ _)); exact BK154.out) hb); have n1_ := Aside0.mk (blk_below (g := gb160) (o := .cells #[.int .u64 t155, .int .u64 t156, .int .i64 t157, .string t158] 25 (0, 0)) (by (with_reducible repeat (first | refine blk_drewN ?_ _ | refine blk_drew ?_ | refine blk_alloc ?_ _)); refine blk_far ?_ NB160_182.out _; (with_reducible repeat (first | refine blk_drewN ?_ _ | refine blk_drew ?_ | refine blk_alloc ?_ _)); refine blk_far ?_ NB160_182.out _; (with_reducible repeat (first | refine blk_drewN ?_ _ | refine blk_drew ?_ | refine blk_alloc ?_ _)); refine blk_far ?_ NB160_182.out _; (with_reducible repeat (first | refine blk_drewN ?_ _ | refine blk_drew ?_ | refine blk_alloc ?_ _)); refine blk_far ?_ NB160_182.out _; (with_reducible repeat (first | refine blk_drewN ?_ _ | refine blk_drew ?_ | refine blk_alloc ?_ _)); refine blk_far ?_ NB160_182.out _; (with_reducible repeat (first | refine blk_drewN ?_ _ | refine blk_drew ?_ | refine blk_alloc ?_ _)); refine blk_far ?_ NB160_182.out _; (with_reducible repeat (first | refine blk_drewN ?_ _ | refine blk_drew ?_ | refine blk_alloc ?_ _)); refine blk_far ?_ NB160_182.out _; (with_reducible repeat (first | refine blk_drewN ?_ _ | refine blk_drew ?_ | refine blk_alloc ?_ _)); refine blk_far ?_ NB160_182.out _; (with_reducible repeat (first | refine blk_drewN ?_ _ | refine blk_drew ?_ | refine blk_alloc ?_ _)); refine blk_far ?_ NB160_182.out _; (with_reducible repeat (first | refine blk_drewN ?_ _ | refine blk_drew ?_ | refine blk_alloc ?_ _)); exact BK160.out) hb); have n2_ := Aside0.mk (blk_below (g := gb182) (o := .cells #[.int .i64 t172, .int .u64 t173, .bool t174, .int .u64 t175, .int .u64 t176, .int .u64 t177, .bool t178, .int .u64 t179, .int .u64 t180] 29 (0, 0)) (by (with_reducible repeat (first | refine blk_drewN ?_ _ | refine blk_drew ?_ | refine blk_alloc ?_ _)); refine blk_put (cs := #[.int .i64 t172, .int .u64 t173, .bool t174, .int .u64 t175, .int .u64 t176, .int .u64 t177, .bool t178, .int .u64 t179, .int .u64 0]) ?_ 8 _ rfl; (with_reducible repeat (first | refine blk_drewN ?_ _ | refine blk_drew ?_ | refine blk_alloc ?_ _)); refine blk_put (cs := #[.int .i64 t172, .int .u64 t173, .bool t174, .int .u64 t175, .int .u64 t176, .int .u64 t177, .bool t178, .int .u64 0, .int .u64 0]) ?_ 7 _ rfl; (with_reducible repeat (first | refine blk_drewN ?_ _ | refine blk_drew ?_ | refine blk_alloc ?_ _)); refine blk_put (cs := #[.int .i64 t172, .int .u64 t173, .bool t174, .int .u64 t175, .int .u64 t176, .int .u64 t177, .bool false, .int .u64 0, .int .u64 0]) ?_ 6 _ rfl; (with_reducible repeat (first | refine blk_drewN ?_ _ | refine blk_drew ?_ | refine blk_alloc ?_ _)); refine blk_put (cs := #[.int .i64 t172, .int .u64 t173, .bool t174, .int .u64 t175, .int .u64 t176, .int .u64 0, .bool false, .int .u64 0, .int .u64 0]) ?_ 5 _ rfl; (with_reducible repeat (first | refine blk_drewN ?_ _ | refine blk_drew ?_ | refine blk_alloc ?_ _)); refine blk_put (cs := #[.int .i64 t172, .int .u64 t173, .bool t174, .int .u64 t175, .int .u64 0, .int .u64 0, .bool false, .int .u64 0, .int .u64 0]) ?_ 4 _ rfl; (with_reducible repeat (first | refine blk_drewN ?_ _ | refine blk_drew ?_ | refine blk_alloc ?_ _)); refine blk_put (cs := #[.int .i64 t172, .int .u64 t173, .bool t174, .int .u64 0, .int .u64 0, .int .u64 0, .bool false, .int .u64 0, .int .u64 0]) ?_ 3 _ rfl; (with_reducible repeat (first | refine blk_drewN ?_ _ | refine blk_drew ?_ | refine blk_alloc ?_ _)); refine blk_put (cs := #[.int .i64 t172, .int .u64 t173, .bool false, .int .u64 0, .int .u64 0, .int .u64 0, .bool false, .int .u64 0, .int .u64 0]) ?_ 2 _ rfl; (with_reducible repeat (first | refine blk_drewN ?_ _ | refine blk_drew ?_ | refine blk_alloc ?_ _)); refine blk_put (cs := #[.int .i64 t172, .int .u64 0, .bool false, .int .u64 0, .int .u64 0, .int .u64 0, .bool false, .int .u64 0, .int .u64 0]) ?_ 1 _ rfl; (with_reducible repeat (first | refine blk_drewN ?_ _ | refine blk_drew ?_ | refine blk_alloc ?_ _)); refine blk_put (cs := #[.int .i64 0, .int .u64 0, .bool false, .int .u64 0, .int .u64 0, .int .u64 0, .bool false, .int .u64 0, .int .u64 0]) ?_ 0 _ rfl; (with_reducible repeat (first | refine blk_drewN ?_ _ | refine blk_drew ?_ | refine blk_alloc ?_ _)); exact BK182.out) hb); have n3_ := Aside0.mk (below_step (by repeat (first | (with_reducible first | exact HB.out | apply below_alloc | apply pw_below_drewN | apply below_drew1 | refine below_set ?_ GE154.out | refine below_set ?_ GE160.out | refine below_set ?_ GE182.out) | exact HB.out)) hb); clear BK154; clear BK160; clear BK182; clear HB; have BK154 := n0_; have BK160 := n1_; have BK182 := n2_; have HB := n3_; clear n0_ n1_ n2_ n3_; (try clear hb); (try clear hb2); (try clear hk); (try clear hi); obtain ⟨hcz42_0, hcz42_1, hcz42_2, hcz42_3⟩ := MBlk.c4 BK154.out; obtain ⟨hfz42_0, hfz42_1, hfz42_2, hfz42_3⟩ := MBlk.f4 BK154.out))
                have n0_ := Aside0.mk (blk_drew BK154.out)
                have n1_ := Aside0.mk (blk_drew BK160.out)
                have n2_ := Aside0.mk (blk_drew BK182.out)
                have n3_ := Aside0.mk (below_drew1 HB.out)
                clear BK154 BK160 BK182 HB
                have BK154 := n0_
                have BK160 := n1_
                have BK182 := n2_
                have HB := n3_
                clear n0_ n1_ n2_ n3_
                refine start_ (n := 29) (S := fun w' => w'.cell? ⟨gb182, 0, none⟩ = some (.int .i64 t172) ∧ w'.cell? ⟨gb182, 1, none⟩ = some (.int .u64 t173) ∧ w'.cell? ⟨gb182, 2, none⟩ = some (.bool t174) ∧ w'.cell? ⟨gb182, 3, none⟩ = some (.int .u64 t175) ∧ w'.cell? ⟨gb182, 4, none⟩ = some (.int .u64 t176) ∧ w'.cell? ⟨gb182, 5, none⟩ = some (.int .u64 t177) ∧ w'.cell? ⟨gb182, 6, none⟩ = some (.bool t178) ∧ w'.cell? ⟨gb182, 7, none⟩ = some (.int .u64 t179) ∧ w'.cell? ⟨gb182, 8, none⟩ = some (.int .u64 t180)) (ds := []) #[false, false, false, false, false, false, false, false, false, false, false, false, false, false, false, false, false, false, false, false, false, false, false, false, false, false, false, false, false] (by kernel_rfl) rfl rfl ⟨(blk_cell BK182.out 0).trans rfl, (blk_cell BK182.out 1).trans rfl, (blk_cell BK182.out 2).trans rfl, (blk_cell BK182.out 3).trans rfl, (blk_cell BK182.out 4).trans rfl, (blk_cell BK182.out 5).trans rfl, (blk_cell BK182.out 6).trans rfl, (blk_cell BK182.out 7).trans rfl, (blk_cell BK182.out 8).trans rfl⟩ (fun hHeld => ?_); refine with_tabW crosswaylaw05_awake.tab8 crosswaylaw05_awake.bits8 (fun HT_ HW_ => ?_)
                generalize w41.drew = w43 at BK154 BK160 BK182 HB hHeld ⊢
                refine pure_ (i := 0) (N := some 68) (v := ?_) (a' := ?_) #[true, false, false, false, false, false, false, false, false, false, false, false, false, false, false, false, false, false, false, false, false, false, false, false, false, false, false, false, false] rfl rfl (any_of HT_.out (by kernel_rfl)) (fun _ _ _ h => h) (Or.inl ⟨by rfl, ?_⟩) ?_ ?_
                rotate_left
                ·
                 intro w'
                 go_simp
                 with_reducible rfl
                rotate_left
                ·
                 simp only [Act.put, List.setIfInBounds_toArray, List.set_cons_zero, List.set_cons_succ, i64_w, i32_w]
                 rfl
                refine pure_ (i := 1) (N := some 69) (v := ?_) (a' := ?_) #[true, true, false, false, false, false, false, false, false, false, false, false, false, false, false, false, false, false, false, false, false, false, false, false, false, false, false, false, false] rfl rfl (any_of HT_.out (by kernel_rfl)) (fun _ _ _ h => h) (Or.inl ⟨by rfl, ?_⟩) ?_ ?_
                rotate_left
                ·
                 intro w'
                 go_simp
                 with_reducible rfl
                rotate_left
                ·
                 simp only [Act.put, List.setIfInBounds_toArray, List.set_cons_zero, List.set_cons_succ, i64_w, i32_w]
                 rfl
                refine pure_ (i := 2) (N := some 70) (v := ?_) (a' := ?_) #[true, true, true, false, false, false, false, false, false, false, false, false, false, false, false, false, false, false, false, false, false, false, false, false, false, false, false, false, false] rfl rfl (any_of HT_.out (by kernel_rfl)) (fun _ _ _ h => h) (Or.inl ⟨by rfl, ?_⟩) ?_ ?_
                rotate_left
                ·
                 intro w'
                 go_simp
                 with_reducible rfl
                rotate_left
                ·
                 simp only [Act.put, List.setIfInBounds_toArray, List.set_cons_zero, List.set_cons_succ, i64_w, i32_w]
                 rfl
                refine pure_ (i := 3) (N := some 71) (v := ?_) (a' := ?_) #[true, true, true, true, false, false, false, false, false, false, false, false, false, false, false, false, false, false, false, false, false, false, false, false, false, false, false, false, false] rfl rfl (any_of HT_.out (by kernel_rfl)) (fun _ _ _ h => h) (Or.inl ⟨by rfl, ?_⟩) ?_ ?_
                rotate_left
                ·
                 intro w'
                 go_simp
                 with_reducible rfl
                rotate_left
                ·
                 simp only [Act.put, List.setIfInBounds_toArray, List.set_cons_zero, List.set_cons_succ, i64_w, i32_w]
                 rfl
                refine pure_ (i := 4) (N := some 72) (v := ?_) (a' := ?_) #[true, true, true, true, true, false, false, false, false, false, false, false, false, false, false, false, false, false, false, false, false, false, false, false, false, false, false, false, false] rfl rfl (any_of HT_.out (by kernel_rfl)) (fun _ _ _ h => h) (Or.inl ⟨by rfl, ?_⟩) ?_ ?_
                rotate_left
                ·
                 intro w'
                 go_simp
                 with_reducible rfl
                rotate_left
                ·
                 simp only [Act.put, List.setIfInBounds_toArray, List.set_cons_zero, List.set_cons_succ, i64_w, i32_w]
                 rfl
                refine pure_ (i := 5) (N := some 73) (v := ?_) (a' := ?_) #[true, true, true, true, true, true, false, false, false, false, false, false, false, false, false, false, false, false, false, false, false, false, false, false, false, false, false, false, false] rfl rfl (any_of HT_.out (by kernel_rfl)) (fun _ _ _ h => h) (Or.inl ⟨by rfl, ?_⟩) ?_ ?_
                rotate_left
                ·
                 intro w'
                 go_simp
                 with_reducible rfl
                rotate_left
                ·
                 simp only [Act.put, List.setIfInBounds_toArray, List.set_cons_zero, List.set_cons_succ, i64_w, i32_w]
                 rfl
                refine pure_ (i := 6) (N := some 74) (v := ?_) (a' := ?_) #[true, true, true, true, true, true, true, false, false, false, false, false, false, false, false, false, false, false, false, false, false, false, false, false, false, false, false, false, false] rfl rfl (any_of HT_.out (by kernel_rfl)) (fun _ _ _ h => h) (Or.inl ⟨by rfl, ?_⟩) ?_ ?_
                rotate_left
                ·
                 intro w'
                 go_simp
                 with_reducible rfl
                rotate_left
                ·
                 simp only [Act.put, List.setIfInBounds_toArray, List.set_cons_zero, List.set_cons_succ, i64_w, i32_w]
                 rfl
                refine pure_ (i := 7) (N := some 75) (v := ?_) (a' := ?_) #[true, true, true, true, true, true, true, true, false, false, false, false, false, false, false, false, false, false, false, false, false, false, false, false, false, false, false, false, false] rfl rfl (any_of HT_.out (by kernel_rfl)) (fun _ _ _ h => h) (Or.inl ⟨by rfl, ?_⟩) ?_ ?_
                rotate_left
                ·
                 intro w'
                 go_simp
                 with_reducible rfl
                rotate_left
                ·
                 simp only [Act.put, List.setIfInBounds_toArray, List.set_cons_zero, List.set_cons_succ, i64_w, i32_w]
                 rfl
                refine pure_ (i := 8) (N := some 76) (v := ?_) (a' := ?_) #[true, true, true, true, true, true, true, true, true, false, false, false, false, false, false, false, false, false, false, false, false, false, false, false, false, false, false, false, false] rfl rfl (any_of HT_.out (by kernel_rfl)) (fun _ _ _ h => h) (Or.inl ⟨by rfl, ?_⟩) ?_ ?_
                rotate_left
                ·
                 intro w'
                 go_simp
                 with_reducible rfl
                rotate_left
                ·
                 simp only [Act.put, List.setIfInBounds_toArray, List.set_cons_zero, List.set_cons_succ, i64_w, i32_w]
                 rfl
                refine pure_ (i := 9) (N := some 77) (v := ?_) (a' := ?_) #[true, true, true, true, true, true, true, true, true, true, false, false, false, false, false, false, false, false, false, false, false, false, false, false, false, false, false, false, false] rfl rfl (any_of HT_.out (by kernel_rfl)) (fun _ _ _ h => h) (Or.inl ⟨by rfl, ?_⟩) ?_ ?_
                rotate_left
                ·
                 intro w'
                 go_simp
                 with_reducible rfl
                rotate_left
                ·
                 simp only [Act.put, List.setIfInBounds_toArray, List.set_cons_zero, List.set_cons_succ, i64_w, i32_w]
                 rfl
                refine pure_ (i := 10) (N := some 78) (v := ?_) (a' := ?_) #[true, true, true, true, true, true, true, true, true, true, true, false, false, false, false, false, false, false, false, false, false, false, false, false, false, false, false, false, false] rfl rfl (any_of HT_.out (by kernel_rfl)) (fun _ _ _ h => h) (Or.inl ⟨by rfl, ?_⟩) ?_ ?_
                rotate_left
                ·
                 intro w'
                 go_simp
                 with_reducible rfl
                rotate_left
                ·
                 simp only [Act.put, List.setIfInBounds_toArray, List.set_cons_zero, List.set_cons_succ, i64_w, i32_w]
                 rfl
                refine pure_ (i := 11) (N := some 79) (v := ?_) (a' := ?_) #[true, true, true, true, true, true, true, true, true, true, true, true, false, false, false, false, false, false, false, false, false, false, false, false, false, false, false, false, false] rfl rfl (any_of HT_.out (by kernel_rfl)) (fun _ _ _ h => h) (Or.inl ⟨by rfl, ?_⟩) ?_ ?_
                rotate_left
                ·
                 intro w'
                 go_simp
                 with_reducible rfl
                rotate_left
                ·
                 simp only [Act.put, List.setIfInBounds_toArray, List.set_cons_zero, List.set_cons_succ, i64_w, i32_w]
                 rfl
                refine take_ (i := 12) (N := some 80) (v := ?_) (a' := ?_) #[true, true, true, true, true, true, true, true, true, true, true, true, true, false, false, false, false, false, false, false, false, false, false, false, false, false, false, false, false] rfl rfl (take_ofW HT_.out HW_.out (by kernel_rfl)) (fun _ _ _ h => h) (Or.inl ⟨by rfl, ?_⟩) hHeld ?_ ?_
                rotate_left
                ·
                 rintro w' ⟨s0, s1, s2, s3, s4, s5, s6, s7, s8⟩
                 go_simp
                 with_reducible rfl
                rotate_left
                ·
                 simp only [Act.put, List.setIfInBounds_toArray, List.set_cons_zero, List.set_cons_succ, i64_w, i32_w]
                 rfl
                refine one_ (i := 13) (N := some 81) #[true, true, true, true, true, true, true, true, true, true, true, true, true, true, false, false, false, false, false, false, false, false, false, false, false, false, false, false, false] rfl rfl (one_of HT_.out (by kernel_rfl)) (by decide) (fun K hK => ?_)
                refine goes_ Tryd.func25 (by kernel_rfl) rfl #[] (by rfl) rfl rfl (by (try simp only [List.map_toArray, List.map_cons, List.map_nil]); first | done | rfl | (simp only [List.length_drop, List.length_take]; rfl)) ?_
                with_reducible refine (crosswaylaw05_ask.calls  t185 t186 t187 t188 t189 t190 t191 t192 t193 _ A18.out).mono ?_
                rintro e w44 ⟨rfl, hb⟩
                refine ⟨_, rfl, ?_⟩
                have n0_ := Aside0.mk (blk_below (g := gb154) (o := .cells #[.int .u64 t149, .int .u64 t150, .int .i64 t151, .string t152] 25 (0, 0)) (by (with_reducible repeat (first | refine blk_drewN ?_ _ | refine blk_drew ?_ | refine blk_alloc ?_ _)); exact BK154.out) hb)
                have n1_ := Aside0.mk (blk_below (g := gb160) (o := .cells #[.int .u64 t155, .int .u64 t156, .int .i64 t157, .string t158] 25 (0, 0)) (by (with_reducible repeat (first | refine blk_drewN ?_ _ | refine blk_drew ?_ | refine blk_alloc ?_ _)); exact BK160.out) hb)
                have n2_ := Aside0.mk (blk_below (g := gb182) (o := .cells #[.int .i64 t172, .int .u64 t173, .bool t174, .int .u64 t175, .int .u64 t176, .int .u64 t177, .bool t178, .int .u64 t179, .int .u64 t180] 29 (0, 0)) (by (with_reducible repeat (first | refine blk_drewN ?_ _ | refine blk_drew ?_ | refine blk_alloc ?_ _)); exact BK182.out) hb)
                have n3_ := Aside0.mk (below_step (by repeat (first | (with_reducible first | exact HB.out | apply below_alloc | apply pw_below_drewN | apply below_drew1 | refine below_set ?_ GE154.out | refine below_set ?_ GE160.out | refine below_set ?_ GE182.out) | exact HB.out)) hb)
                clear BK154 BK160 BK182 HB
                have BK154 := n0_
                have BK160 := n1_
                have BK182 := n2_
                have HB := n3_
                clear n0_ n1_ n2_ n3_
                (try clear hb)
                (try clear hb2)
                (try clear hk)
                (try clear hi)
                refine hK.out _ _ ⟨(blk_cell BK182.out 0).trans rfl, (blk_cell BK182.out 1).trans rfl, (blk_cell BK182.out 2).trans rfl, (blk_cell BK182.out 3).trans rfl, (blk_cell BK182.out 4).trans rfl, (blk_cell BK182.out 5).trans rfl, (blk_cell BK182.out 6).trans rfl, (blk_cell BK182.out 7).trans rfl, (blk_cell BK182.out 8).trans rfl⟩ (fun hHeld => ?_)
                clear hK K
                refine norm_ (a' := ?_) ?_ ?_
                rotate_left
                ·
                 show Act.put _ (some 81) _ = _
                 simp only [Act.put, List.setIfInBounds_toArray, List.set_cons_zero, List.set_cons_succ, i64_w, i32_w]
                 rfl
                refine pure_ (i := 14) (N := some 82) (v := ?_) (a' := ?_) #[true, true, true, true, true, true, true, true, true, true, true, true, true, true, true, false, false, false, false, false, false, false, false, false, false, false, false, false, false] rfl rfl (any_of HT_.out (by kernel_rfl)) (fun _ _ _ h => h) (Or.inl ⟨by rfl, ?_⟩) ?_ ?_
                rotate_left
                ·
                 intro w'
                 go_simp
                 with_reducible rfl
                rotate_left
                ·
                 simp only [Act.put, List.setIfInBounds_toArray, List.set_cons_zero, List.set_cons_succ, i64_w, i32_w]
                 rfl
                refine pure_ (i := 15) (N := some 83) (v := ?_) (a' := ?_) #[true, true, true, true, true, true, true, true, true, true, true, true, true, true, true, true, false, false, false, false, false, false, false, false, false, false, false, false, false] rfl rfl (any_of HT_.out (by kernel_rfl)) (fun _ _ _ h => h) (Or.inl ⟨by rfl, ?_⟩) ?_ ?_
                rotate_left
                ·
                 intro w'
                 go_simp
                 with_reducible rfl
                rotate_left
                ·
                 simp only [Act.put, List.setIfInBounds_toArray, List.set_cons_zero, List.set_cons_succ, i64_w, i32_w]
                 rfl
                refine pure_ (i := 16) (N := some 84) (v := ?_) (a' := ?_) #[true, true, true, true, true, true, true, true, true, true, true, true, true, true, true, true, true, false, false, false, false, false, false, false, false, false, false, false, false] rfl rfl (any_of HT_.out (by kernel_rfl)) (fun _ _ _ h => h) (Or.inl ⟨by rfl, ?_⟩) ?_ ?_
                rotate_left
                ·
                 intro w'
                 go_simp
                 with_reducible rfl
                rotate_left
                ·
                 simp only [Act.put, List.setIfInBounds_toArray, List.set_cons_zero, List.set_cons_succ, i64_w, i32_w]
                 rfl
                refine pure_ (i := 17) (N := some 85) (v := ?_) (a' := ?_) #[true, true, true, true, true, true, true, true, true, true, true, true, true, true, true, true, true, true, false, false, false, false, false, false, false, false, false, false, false] rfl rfl (any_of HT_.out (by kernel_rfl)) (fun _ _ _ h => h) (Or.inl ⟨by rfl, ?_⟩) ?_ ?_
                rotate_left
                ·
                 intro w'
                 go_simp
                 with_reducible rfl
                rotate_left
                ·
                 simp only [Act.put, List.setIfInBounds_toArray, List.set_cons_zero, List.set_cons_succ, i64_w, i32_w]
                 rfl
                refine pure_ (i := 18) (N := some 86) (v := ?_) (a' := ?_) #[true, true, true, true, true, true, true, true, true, true, true, true, true, true, true, true, true, true, true, false, false, false, false, false, false, false, false, false, false] rfl rfl (any_of HT_.out (by kernel_rfl)) (fun _ _ _ h => h) (Or.inl ⟨by rfl, ?_⟩) ?_ ?_
                rotate_left
                ·
                 intro w'
                 go_simp
                 with_reducible rfl
                rotate_left
                ·
                 simp only [Act.put, List.setIfInBounds_toArray, List.set_cons_zero, List.set_cons_succ, i64_w, i32_w]
                 rfl
                refine pure_ (i := 19) (N := some 87) (v := ?_) (a' := ?_) #[true, true, true, true, true, true, true, true, true, true, true, true, true, true, true, true, true, true, true, true, false, false, false, false, false, false, false, false, false] rfl rfl (any_of HT_.out (by kernel_rfl)) (fun _ _ _ h => h) (Or.inl ⟨by rfl, ?_⟩) ?_ ?_
                rotate_left
                ·
                 intro w'
                 go_simp
                 with_reducible rfl
                rotate_left
                ·
                 simp only [Act.put, List.setIfInBounds_toArray, List.set_cons_zero, List.set_cons_succ, i64_w, i32_w]
                 rfl
                refine pure_ (i := 20) (N := some 88) (v := ?_) (a' := ?_) #[true, true, true, true, true, true, true, true, true, true, true, true, true, true, true, true, true, true, true, true, true, false, false, false, false, false, false, false, false] rfl rfl (any_of HT_.out (by kernel_rfl)) (fun _ _ _ h => h) (Or.inl ⟨by rfl, ?_⟩) ?_ ?_
                rotate_left
                ·
                 intro w'
                 go_simp
                 with_reducible rfl
                rotate_left
                ·
                 simp only [Act.put, List.setIfInBounds_toArray, List.set_cons_zero, List.set_cons_succ, i64_w, i32_w]
                 rfl
                refine pure_ (i := 21) (N := some 89) (v := ?_) (a' := ?_) #[true, true, true, true, true, true, true, true, true, true, true, true, true, true, true, true, true, true, true, true, true, true, false, false, false, false, false, false, false] rfl rfl (any_of HT_.out (by kernel_rfl)) (fun _ _ _ h => h) (Or.inl ⟨by rfl, ?_⟩) ?_ ?_
                rotate_left
                ·
                 intro w'
                 go_simp
                 with_reducible rfl
                rotate_left
                ·
                 simp only [Act.put, List.setIfInBounds_toArray, List.set_cons_zero, List.set_cons_succ, i64_w, i32_w]
                 rfl
                refine pure_ (i := 22) (N := some 90) (v := ?_) (a' := ?_) #[true, true, true, true, true, true, true, true, true, true, true, true, true, true, true, true, true, true, true, true, true, true, true, false, false, false, false, false, false] rfl rfl (any_of HT_.out (by kernel_rfl)) (fun _ _ _ h => h) (Or.inl ⟨by rfl, ?_⟩) ?_ ?_
                rotate_left
                ·
                 intro w'
                 go_simp
                 with_reducible rfl
                rotate_left
                ·
                 simp only [Act.put, List.setIfInBounds_toArray, List.set_cons_zero, List.set_cons_succ, i64_w, i32_w]
                 rfl
                refine pure_ (i := 23) (N := some 91) (v := ?_) (a' := ?_) #[true, true, true, true, true, true, true, true, true, true, true, true, true, true, true, true, true, true, true, true, true, true, true, true, false, false, false, false, false] rfl rfl (any_of HT_.out (by kernel_rfl)) (fun _ _ _ h => h) (Or.inl ⟨by rfl, ?_⟩) ?_ ?_
                rotate_left
                ·
                 intro w'
                 go_simp
                 with_reducible rfl
                rotate_left
                ·
                 simp only [Act.put, List.setIfInBounds_toArray, List.set_cons_zero, List.set_cons_succ, i64_w, i32_w]
                 rfl
                refine pure_ (i := 24) (N := some 92) (v := ?_) (a' := ?_) #[true, true, true, true, true, true, true, true, true, true, true, true, true, true, true, true, true, true, true, true, true, true, true, true, true, false, false, false, false] rfl rfl (any_of HT_.out (by kernel_rfl)) (fun _ _ _ h => h) (Or.inl ⟨by rfl, ?_⟩) ?_ ?_
                rotate_left
                ·
                 intro w'
                 go_simp
                 with_reducible rfl
                rotate_left
                ·
                 simp only [Act.put, List.setIfInBounds_toArray, List.set_cons_zero, List.set_cons_succ, i64_w, i32_w]
                 rfl
                refine one_ (i := 25) (N := some 93) #[true, true, true, true, true, true, true, true, true, true, true, true, true, true, true, true, true, true, true, true, true, true, true, true, true, true, false, false, false] rfl rfl (one_of HT_.out (by kernel_rfl)) (by decide) (fun K hK => ?_)
                refine goes_ Tryd.func21 (by kernel_rfl) rfl #[.int .u64 5] (by rfl) rfl rfl (by (try simp only [List.map_toArray, List.map_cons, List.map_nil]); first | done | rfl | (simp only [List.length_drop, List.length_take]; rfl)) ?_
                with_reducible refine (ether_PrintMac.calls k 5 t194 _ A22.out).mono ?_
                rintro e w45 ⟨rfl, hb⟩
                refine ⟨_, rfl, ?_⟩
                have n0_ := Aside0.mk (blk_below (g := gb154) (o := .cells #[.int .u64 t149, .int .u64 t150, .int .i64 t151, .string t152] 25 (0, 0)) (by (with_reducible repeat (first | refine blk_drewN ?_ _ | refine blk_drew ?_ | refine blk_alloc ?_ _)); exact BK154.out) hb)
                have n1_ := Aside0.mk (blk_below (g := gb160) (o := .cells #[.int .u64 t155, .int .u64 t156, .int .i64 t157, .string t158] 25 (0, 0)) (by (with_reducible repeat (first | refine blk_drewN ?_ _ | refine blk_drew ?_ | refine blk_alloc ?_ _)); exact BK160.out) hb)
                have n2_ := Aside0.mk (blk_below (g := gb182) (o := .cells #[.int .i64 t172, .int .u64 t173, .bool t174, .int .u64 t175, .int .u64 t176, .int .u64 t177, .bool t178, .int .u64 t179, .int .u64 t180] 29 (0, 0)) (by (with_reducible repeat (first | refine blk_drewN ?_ _ | refine blk_drew ?_ | refine blk_alloc ?_ _)); exact BK182.out) hb)
                have n3_ := Aside0.mk (below_step (by repeat (first | (with_reducible first | exact HB.out | apply below_alloc | apply pw_below_drewN | apply below_drew1 | refine below_set ?_ GE154.out | refine below_set ?_ GE160.out | refine below_set ?_ GE182.out) | exact HB.out)) hb)
                clear BK154 BK160 BK182 HB
                have BK154 := n0_
                have BK160 := n1_
                have BK182 := n2_
                have HB := n3_
                clear n0_ n1_ n2_ n3_
                (try clear hb)
                (try clear hb2)
                (try clear hk)
                (try clear hi)
                refine hK.out _ _ ⟨(blk_cell BK182.out 0).trans rfl, (blk_cell BK182.out 1).trans rfl, (blk_cell BK182.out 2).trans rfl, (blk_cell BK182.out 3).trans rfl, (blk_cell BK182.out 4).trans rfl, (blk_cell BK182.out 5).trans rfl, (blk_cell BK182.out 6).trans rfl, (blk_cell BK182.out 7).trans rfl, (blk_cell BK182.out 8).trans rfl⟩ (fun hHeld => ?_)
                clear hK K
                refine norm_ (a' := ?_) ?_ ?_
                rotate_left
                ·
                 show Act.put _ (some 93) _ = _
                 simp only [Act.put, List.setIfInBounds_toArray, List.set_cons_zero, List.set_cons_succ, i64_w, i32_w]
                 rfl
                refine pure_ (i := 26) (N := some 94) (v := ?_) (a' := ?_) #[true, true, true, true, true, true, true, true, true, true, true, true, true, true, true, true, true, true, true, true, true, true, true, true, true, true, true, false, false] rfl rfl (any_of HT_.out (by kernel_rfl)) (fun _ _ _ h => h) (Or.inl ⟨by rfl, ?_⟩) ?_ ?_
                rotate_left
                ·
                 intro w'
                 go_simp
                 with_reducible rfl
                rotate_left
                ·
                 simp only [Act.put, List.setIfInBounds_toArray, List.set_cons_zero, List.set_cons_succ, i64_w, i32_w]
                 rfl
                refine pure_ (i := 27) (N := some 95) (v := ?_) (a' := ?_) #[true, true, true, true, true, true, true, true, true, true, true, true, true, true, true, true, true, true, true, true, true, true, true, true, true, true, true, true, false] rfl rfl (any_of HT_.out (by kernel_rfl)) (fun _ _ _ h => h) (Or.inl ⟨by rfl, ?_⟩) ?_ ?_
                rotate_left
                ·
                 intro w'
                 go_simp
                 with_reducible rfl
                rotate_left
                ·
                 simp only [Act.put, List.setIfInBounds_toArray, List.set_cons_zero, List.set_cons_succ, i64_w, i32_w]
                 rfl
                refine pure_ (i := 28) (N := some 14) (v := ?_) (a' := ?_) #[true, true, true, true, true, true, true, true, true, true, true, true, true, true, true, true, true, true, true, true, true, true, true, true, true, true, true, true, true] rfl rfl (any_of HT_.out (by kernel_rfl)) (fun _ _ _ h => h) (Or.inl ⟨by rfl, ?_⟩) ?_ ?_
                rotate_left
                ·
                 intro w'
                 go_simp
                 with_reducible rfl
                rotate_left
                ·
                 simp only [Act.put, List.setIfInBounds_toArray, List.set_cons_zero, List.set_cons_succ, i64_w, i32_w]
                 rfl
                refine done_ (done_of HT_.out (by kernel_rfl)) ?_
                try go_wp2_with (first | (go_at_call 23; (with_reducible refine (ether_Group.calls k false 0 3758096635 t195 _ A25.out).mono ?_); rintro e w46 ⟨rfl, hb⟩; have n0_ := Aside0.mk (blk_below (g := gb154) (o := .cells #[.int .u64 t149, .int .u64 t150, .int .i64 t151, .string t152] 25 (0, 0)) (by (with_reducible repeat (first | refine blk_drewN ?_ _ | refine blk_drew ?_ | refine blk_alloc ?_ _)); exact BK154.out) hb); have n1_ := Aside0.mk (blk_below (g := gb160) (o := .cells #[.int .u64 t155, .int .u64 t156, .int .i64 t157, .string t158] 25 (0, 0)) (by (with_reducible repeat (first | refine blk_drewN ?_ _ | refine blk_drew ?_ | refine blk_alloc ?_ _)); exact BK160.out) hb); have n2_ := Aside0.mk (blk_below (g := gb182) (o := .cells #[.int .i64 t172, .int .u64 t173, .bool t174, .int .u64 t175, .int .u64 t176, .int .u64 t177, .bool t178, .int .u64 t179, .int .u64 t180] 29 (0, 0)) (by (with_reducible repeat (first | refine blk_drewN ?_ _ | refine blk_drew ?_ | refine blk_alloc ?_ _)); exact BK182.out) hb); have n3_ := Aside0.mk (below_step (by repeat (first | (with_reducible first | exact HB.out | apply below_alloc | apply pw_below_drewN | apply below_drew1 | refine below_set ?_ GE154.out | refine below_set ?_ GE160.out | refine below_set ?_ GE182.out) | exact HB.out)) hb); clear BK154; clear BK160; clear BK182; clear HB; have BK154 := n0_; have BK160 := n1_; have BK182 := n2_; have HB := n3_; clear n0_ n1_ n2_ n3_; (try clear hb); (try clear hb2); (try clear hk); (try clear hi)))
                go_ret
                exact ⟨by first | rfl | (simp [errW_none, errW_some] <;> rfl) | (simp [*, errW_none, errW_some] <;> rfl), by repeat (first | (with_reducible first | exact HB.out | apply below_alloc | apply pw_below_drewN | apply below_drew1 | refine below_set ?_ GE154.out | refine below_set ?_ GE160.out | refine below_set ?_ GE182.out) | exact HB.out)⟩
               ·
                rw [if_neg c24] at H
                have c24b0 : (t194.toList == ([48, 48, 58, 48, 48, 58, 48, 48, 58, 48, 48, 58, 48, 48, 58, 48, 53] : List UInt8)) = false := beq_eq_false_iff_ne.mpr c24
                have c24b1 : (t194.toList != ([48, 48, 58, 48, 48, 58, 48, 48, 58, 48, 48, 58, 48, 48, 58, 48, 53] : List UInt8)) = true := bne_iff_ne.mpr c24
                exact absurd ((Option.some.inj H).trans HRT.out) (by decide)
              ·
               rw [if_neg c23] at H
               have c23b0 : (t159 == 41) = false := beq_eq_false_iff_ne.mpr c23
               have c23b1 : (t159 != 41) = true := bne_iff_ne.mpr c23
               exact absurd ((Option.some.inj H).trans HRT.out) (by decide)
             ·
              rw [if_neg c21] at H
              have c21b0 : (t183 == 1101088686331) = false := beq_eq_false_iff_ne.mpr c21
              have c21b1 : (t183 != 1101088686331) = true := bne_iff_ne.mpr c21
              by_cases c47 : t159 = 41
              ·
               rw [if_pos c47] at H
               have c47b0 : (t159 == 41) = true := beq_iff_eq.mpr c47
               have c47b1 : (t159 != 41) = false := bne_eq_false_iff_eq.mpr c47
               clear c47
               exact absurd ((Option.some.inj H).trans HRT.out) (by decide)
              ·
               rw [if_neg c47] at H
               have c47b0 : (t159 == 41) = false := beq_eq_false_iff_ne.mpr c47
               have c47b1 : (t159 != 41) = true := bne_iff_ne.mpr c47
               exact absurd ((Option.some.inj H).trans HRT.out) (by decide)
            ·
             rw [if_neg c20] at H
             have c20b0 : (t184 == 0) = false := beq_eq_false_iff_ne.mpr c20
             have c20b1 : (t184 != 0) = true := bne_iff_ne.mpr c20
             by_cases c48 : t159 = 41
             ·
              rw [if_pos c48] at H
              have c48b0 : (t159 == 41) = true := beq_iff_eq.mpr c48
              have c48b1 : (t159 != 41) = false := bne_eq_false_iff_eq.mpr c48
              clear c48
              exact absurd ((Option.some.inj H).trans HRT.out) (by decide)
             ·
              rw [if_neg c48] at H
              have c48b0 : (t159 == 41) = false := beq_eq_false_iff_ne.mpr c48
              have c48b1 : (t159 != 41) = true := bne_iff_ne.mpr c48
              exact absurd ((Option.some.inj H).trans HRT.out) (by decide)
           ·
            rw [if_neg c19] at H
            have c19b0 : (t172 == t185 && (t173 == t186 && ((t174 == t187 && (t175 == t188 && (t176 == t189))) && (t177 == t190 && ((t178 == t191 && (t179 == t192 && (t180 == t193)))))))) = false := by simpa using c19
            (try (have c19b1 : decide (t172 = t185 && (t173 == t186 && ((t174 == t187 && (t175 == t188 && (t176 == t189))) && (t177 == t190 && ((t178 == t191 && (t179 == t192 && (t180 == t193)))))))) = false := by simpa using c19))
            (try (have c19b2 : (t172 == t185 && (t173 == t186 && ((t174 == t187 && (t175 == t188 && (t176 == t189))) && (t177 == t190 && ((t178 == t191 && (t179 == t192 && (t180 == t193)))))))) = false := by simpa using c19))
            (try (have c19b3 : ¬ (t172 = t185 && (t173 == t186 && ((t174 == t187 && (t175 == t188 && (t176 == t189))) && (t177 == t190 && ((t178 == t191 && (t179 == t192 && (t180 == t193)))))))) := by simpa using c19))
            clear c19
            by_cases c49 : t159 = 41
            ·
             rw [if_pos c49] at H
             have c49b0 : (t159 == 41) = true := beq_iff_eq.mpr c49
             have c49b1 : (t159 != 41) = false := bne_eq_false_iff_eq.mpr c49
             clear c49
             exact absurd ((Option.some.inj H).trans HRT.out) (by decide)
            ·
             rw [if_neg c49] at H
             have c49b0 : (t159 == 41) = false := beq_eq_false_iff_ne.mpr c49
             have c49b1 : (t159 != 41) = true := bne_iff_ne.mpr c49
             exact absurd ((Option.some.inj H).trans HRT.out) (by decide)
          ·
           rw [if_neg c17] at H
           have c17b0 : (t181 == 0) = false := beq_eq_false_iff_ne.mpr c17
           have c17b1 : (t181 != 0) = true := bne_iff_ne.mpr c17
           by_cases c50 : t159 = 41
           ·
            rw [if_pos c50] at H
            have c50b0 : (t159 == 41) = true := beq_iff_eq.mpr c50
            have c50b1 : (t159 != 41) = false := bne_eq_false_iff_eq.mpr c50
            clear c50
            exact absurd ((Option.some.inj H).trans HRT.out) (by decide)
           ·
            rw [if_neg c50] at H
            have c50b0 : (t159 == 41) = false := beq_eq_false_iff_ne.mpr c50
            have c50b1 : (t159 != 41) = true := bne_iff_ne.mpr c50
            exact absurd ((Option.some.inj H).trans HRT.out) (by decide)
         ·
          rw [if_neg c16] at H
          have c16b0 : ((t170.size : Int) == 28) = false := beq_eq_false_iff_ne.mpr c16
          have c16b1 : ((t170.size : Int) != 28) = true := bne_iff_ne.mpr c16
          by_cases c51 : t159 = 41
          ·
           rw [if_pos c51] at H
           have c51b0 : (t159 == 41) = true := beq_iff_eq.mpr c51
           have c51b1 : (t159 != 41) = false := bne_eq_false_iff_eq.mpr c51
           clear c51
           exact absurd ((Option.some.inj H).trans HRT.out) (by decide)
          ·
           rw [if_neg c51] at H
           have c51b0 : (t159 == 41) = false := beq_eq_false_iff_ne.mpr c51
           have c51b1 : (t159 != 41) = true := bne_iff_ne.mpr c51
           exact absurd ((Option.some.inj H).trans HRT.out) (by decide)
        ·
         rw [if_neg c15] at H
         have c15b0 : (t171 == 0) = false := beq_eq_false_iff_ne.mpr c15
         have c15b1 : (t171 != 0) = true := bne_iff_ne.mpr c15
         by_cases c52 : t159 = 41
         ·
          rw [if_pos c52] at H
          have c52b0 : (t159 == 41) = true := beq_iff_eq.mpr c52
          have c52b1 : (t159 != 41) = false := bne_eq_false_iff_eq.mpr c52
          clear c52
          exact absurd ((Option.some.inj H).trans HRT.out) (by decide)
         ·
          rw [if_neg c52] at H
          have c52b0 : (t159 == 41) = false := beq_eq_false_iff_ne.mpr c52
          have c52b1 : (t159 != 41) = true := bne_iff_ne.mpr c52
          exact absurd ((Option.some.inj H).trans HRT.out) (by decide)
       ·
        rw [if_neg c14] at H
        have c14b0 : (t150 == 2) = false := beq_eq_false_iff_ne.mpr c14
        have c14b1 : (t150 != 2) = true := bne_iff_ne.mpr c14
        by_cases c53 : t171 = 0
        ·
         rw [if_pos c53] at H
         have c53b0 : (t171 == 0) = true := beq_iff_eq.mpr c53
         have c53b1 : (t171 != 0) = false := bne_eq_false_iff_eq.mpr c53
         clear c53
         by_cases c54 : (t170.size : Int) = 28
         ·
          rw [if_pos c54] at H
          have c54b0 : ((t170.size : Int) == 28) = true := beq_iff_eq.mpr c54
          have c54b1 : ((t170.size : Int) != 28) = false := bne_eq_false_iff_eq.mpr c54
          clear c54
          by_cases c55 : t181 = 0
          ·
           rw [if_pos c55] at H
           have c55b0 : (t181 == 0) = true := beq_iff_eq.mpr c55
           have c55b1 : (t181 != 0) = false := bne_eq_false_iff_eq.mpr c55
           clear c55
           replace H := Option.bind_eq_some_iff.mp H
           obtain ⟨⟨t196, t197, t198, t199, t200, t201, t202, t203, t204⟩, A560, H⟩ := H
           replace H : (if (t172 == t196 && (t173 == t197 && ((t174 == t198 && (t175 == t199 && (t176 == t200))) && (t177 == t201 && ((t178 == t202 && (t179 == t203 && (t180 == t204)))))))) = true then (if t184 = 0 then (if t183 = 1101088686331 then ((ether_PrintMac.f k 5).bind fun t205 => (some false)) else (some false)) else (some false)) else (some false)) = some r := H
           have A56 := Aside0.mk A560
           clear A560
           by_cases c57 : (t172 == t196 && (t173 == t197 && ((t174 == t198 && (t175 == t199 && (t176 == t200))) && (t177 == t201 && ((t178 == t202 && (t179 == t203 && (t180 == t204)))))))) = true
           ·
            rw [if_pos c57] at H
            have c57b0 : (t172 == t196 && (t173 == t197 && ((t174 == t198 && (t175 == t199 && (t176 == t200))) && (t177 == t201 && ((t178 == t202 && (t179 == t203 && (t180 == t204)))))))) = true := c57
            (try (have c57b1 : decide (t172 = t196 && (t173 == t197 && ((t174 == t198 && (t175 == t199 && (t176 == t200))) && (t177 == t201 && ((t178 == t202 && (t179 == t203 && (t180 == t204)))))))) = true := by simpa using c57))
            (try (have c57b2 : (t172 == t196 && (t173 == t197 && ((t174 == t198 && (t175 == t199 && (t176 == t200))) && (t177 == t201 && ((t178 == t202 && (t179 == t203 && (t180 == t204)))))))) = true := by simpa using c57))
            clear c57
            by_cases c58 : t184 = 0
            ·
             rw [if_pos c58] at H
             have c58b0 : (t184 == 0) = true := beq_iff_eq.mpr c58
             have c58b1 : (t184 != 0) = false := bne_eq_false_iff_eq.mpr c58
             clear c58
             by_cases c59 : t183 = 1101088686331
             ·
              rw [if_pos c59] at H
              have c59b0 : (t183 == 1101088686331) = true := beq_iff_eq.mpr c59
              have c59b1 : (t183 != 1101088686331) = false := bne_eq_false_iff_eq.mpr c59
              clear c59
              replace H := Option.bind_eq_some_iff.mp H
              obtain ⟨t205, A600, H⟩ := H
              have A60 := Aside0.mk A600
              clear A600
              exact absurd ((Option.some.inj H).trans HRT.out) (by decide)
             ·
              rw [if_neg c59] at H
              have c59b0 : (t183 == 1101088686331) = false := beq_eq_false_iff_ne.mpr c59
              have c59b1 : (t183 != 1101088686331) = true := bne_iff_ne.mpr c59
              exact absurd ((Option.some.inj H).trans HRT.out) (by decide)
            ·
             rw [if_neg c58] at H
             have c58b0 : (t184 == 0) = false := beq_eq_false_iff_ne.mpr c58
             have c58b1 : (t184 != 0) = true := bne_iff_ne.mpr c58
             exact absurd ((Option.some.inj H).trans HRT.out) (by decide)
           ·
            rw [if_neg c57] at H
            have c57b0 : (t172 == t196 && (t173 == t197 && ((t174 == t198 && (t175 == t199 && (t176 == t200))) && (t177 == t201 && ((t178 == t202 && (t179 == t203 && (t180 == t204)))))))) = false := by simpa using c57
            (try (have c57b1 : decide (t172 = t196 && (t173 == t197 && ((t174 == t198 && (t175 == t199 && (t176 == t200))) && (t177 == t201 && ((t178 == t202 && (t179 == t203 && (t180 == t204)))))))) = false := by simpa using c57))
            (try (have c57b2 : (t172 == t196 && (t173 == t197 && ((t174 == t198 && (t175 == t199 && (t176 == t200))) && (t177 == t201 && ((t178 == t202 && (t179 == t203 && (t180 == t204)))))))) = false := by simpa using c57))
            (try (have c57b3 : ¬ (t172 = t196 && (t173 == t197 && ((t174 == t198 && (t175 == t199 && (t176 == t200))) && (t177 == t201 && ((t178 == t202 && (t179 == t203 && (t180 == t204)))))))) := by simpa using c57))
            clear c57
            exact absurd ((Option.some.inj H).trans HRT.out) (by decide)
          ·
           rw [if_neg c55] at H
           have c55b0 : (t181 == 0) = false := beq_eq_false_iff_ne.mpr c55
           have c55b1 : (t181 != 0) = true := bne_iff_ne.mpr c55
           exact absurd ((Option.some.inj H).trans HRT.out) (by decide)
         ·
          rw [if_neg c54] at H
          have c54b0 : ((t170.size : Int) == 28) = false := beq_eq_false_iff_ne.mpr c54
          have c54b1 : ((t170.size : Int) != 28) = true := bne_iff_ne.mpr c54
          exact absurd ((Option.some.inj H).trans HRT.out) (by decide)
        ·
         rw [if_neg c53] at H
         have c53b0 : (t171 == 0) = false := beq_eq_false_iff_ne.mpr c53
         have c53b1 : (t171 != 0) = true := bne_iff_ne.mpr c53
         exact absurd ((Option.some.inj H).trans HRT.out) (by decide)
      ·
       rw [if_neg c13] at H
       have c13b0 : (t153 == 0) = false := beq_eq_false_iff_ne.mpr c13
       have c13b1 : (t153 != 0) = true := bne_iff_ne.mpr c13
       by_cases c61 : t171 = 0
       ·
        rw [if_pos c61] at H
        have c61b0 : (t171 == 0) = true := beq_iff_eq.mpr c61
        have c61b1 : (t171 != 0) = false := bne_eq_false_iff_eq.mpr c61
        clear c61
        by_cases c62 : (t170.size : Int) = 28
        ·
         rw [if_pos c62] at H
         have c62b0 : ((t170.size : Int) == 28) = true := beq_iff_eq.mpr c62
         have c62b1 : ((t170.size : Int) != 28) = false := bne_eq_false_iff_eq.mpr c62
         clear c62
         by_cases c63 : t181 = 0
         ·
          rw [if_pos c63] at H
          have c63b0 : (t181 == 0) = true := beq_iff_eq.mpr c63
          have c63b1 : (t181 != 0) = false := bne_eq_false_iff_eq.mpr c63
          clear c63
          replace H := Option.bind_eq_some_iff.mp H
          obtain ⟨⟨t206, t207, t208, t209, t210, t211, t212, t213, t214⟩, A640, H⟩ := H
          replace H : (if (t172 == t206 && (t173 == t207 && ((t174 == t208 && (t175 == t209 && (t176 == t210))) && (t177 == t211 && ((t178 == t212 && (t179 == t213 && (t180 == t214)))))))) = true then (if t184 = 0 then (if t183 = 1101088686331 then ((ether_PrintMac.f k 5).bind fun t215 => (some false)) else (some false)) else (some false)) else (some false)) = some r := H
          have A64 := Aside0.mk A640
          clear A640
          by_cases c65 : (t172 == t206 && (t173 == t207 && ((t174 == t208 && (t175 == t209 && (t176 == t210))) && (t177 == t211 && ((t178 == t212 && (t179 == t213 && (t180 == t214)))))))) = true
          ·
           rw [if_pos c65] at H
           have c65b0 : (t172 == t206 && (t173 == t207 && ((t174 == t208 && (t175 == t209 && (t176 == t210))) && (t177 == t211 && ((t178 == t212 && (t179 == t213 && (t180 == t214)))))))) = true := c65
           (try (have c65b1 : decide (t172 = t206 && (t173 == t207 && ((t174 == t208 && (t175 == t209 && (t176 == t210))) && (t177 == t211 && ((t178 == t212 && (t179 == t213 && (t180 == t214)))))))) = true := by simpa using c65))
           (try (have c65b2 : (t172 == t206 && (t173 == t207 && ((t174 == t208 && (t175 == t209 && (t176 == t210))) && (t177 == t211 && ((t178 == t212 && (t179 == t213 && (t180 == t214)))))))) = true := by simpa using c65))
           clear c65
           by_cases c66 : t184 = 0
           ·
            rw [if_pos c66] at H
            have c66b0 : (t184 == 0) = true := beq_iff_eq.mpr c66
            have c66b1 : (t184 != 0) = false := bne_eq_false_iff_eq.mpr c66
            clear c66
            by_cases c67 : t183 = 1101088686331
            ·
             rw [if_pos c67] at H
             have c67b0 : (t183 == 1101088686331) = true := beq_iff_eq.mpr c67
             have c67b1 : (t183 != 1101088686331) = false := bne_eq_false_iff_eq.mpr c67
             clear c67
             replace H := Option.bind_eq_some_iff.mp H
             obtain ⟨t215, A680, H⟩ := H
             have A68 := Aside0.mk A680
             clear A680
             exact absurd ((Option.some.inj H).trans HRT.out) (by decide)
            ·
             rw [if_neg c67] at H
             have c67b0 : (t183 == 1101088686331) = false := beq_eq_false_iff_ne.mpr c67
             have c67b1 : (t183 != 1101088686331) = true := bne_iff_ne.mpr c67
             exact absurd ((Option.some.inj H).trans HRT.out) (by decide)
           ·
            rw [if_neg c66] at H
            have c66b0 : (t184 == 0) = false := beq_eq_false_iff_ne.mpr c66
            have c66b1 : (t184 != 0) = true := bne_iff_ne.mpr c66
            exact absurd ((Option.some.inj H).trans HRT.out) (by decide)
          ·
           rw [if_neg c65] at H
           have c65b0 : (t172 == t206 && (t173 == t207 && ((t174 == t208 && (t175 == t209 && (t176 == t210))) && (t177 == t211 && ((t178 == t212 && (t179 == t213 && (t180 == t214)))))))) = false := by simpa using c65
           (try (have c65b1 : decide (t172 = t206 && (t173 == t207 && ((t174 == t208 && (t175 == t209 && (t176 == t210))) && (t177 == t211 && ((t178 == t212 && (t179 == t213 && (t180 == t214)))))))) = false := by simpa using c65))
           (try (have c65b2 : (t172 == t206 && (t173 == t207 && ((t174 == t208 && (t175 == t209 && (t176 == t210))) && (t177 == t211 && ((t178 == t212 && (t179 == t213 && (t180 == t214)))))))) = false := by simpa using c65))
           (try (have c65b3 : ¬ (t172 = t206 && (t173 == t207 && ((t174 == t208 && (t175 == t209 && (t176 == t210))) && (t177 == t211 && ((t178 == t212 && (t179 == t213 && (t180 == t214)))))))) := by simpa using c65))
           clear c65
           exact absurd ((Option.some.inj H).trans HRT.out) (by decide)
         ·
          rw [if_neg c63] at H
          have c63b0 : (t181 == 0) = false := beq_eq_false_iff_ne.mpr c63
          have c63b1 : (t181 != 0) = true := bne_iff_ne.mpr c63
          exact absurd ((Option.some.inj H).trans HRT.out) (by decide)
        ·
         rw [if_neg c62] at H
         have c62b0 : ((t170.size : Int) == 28) = false := beq_eq_false_iff_ne.mpr c62
         have c62b1 : ((t170.size : Int) != 28) = true := bne_iff_ne.mpr c62
         exact absurd ((Option.some.inj H).trans HRT.out) (by decide)
       ·
        rw [if_neg c61] at H
        have c61b0 : (t171 == 0) = false := beq_eq_false_iff_ne.mpr c61
        have c61b1 : (t171 != 0) = true := bne_iff_ne.mpr c61
        exact absurd ((Option.some.inj H).trans HRT.out) (by decide)
     ·
      rw [if_neg c12] at H
      have c12b0 : ((t147.extract 0 16).toList == ([0, 0, 0, 0, 0, 1, 0, 0, 0, 0, 0, 2, 8, 0, 97, 98] : List UInt8)) = false := beq_eq_false_iff_ne.mpr c12
      have c12b1 : ((t147.extract 0 16).toList != ([0, 0, 0, 0, 0, 1, 0, 0, 0, 0, 0, 2, 8, 0, 97, 98] : List UInt8)) = true := bne_iff_ne.mpr c12
      by_cases c69 : t171 = 0
      ·
       rw [if_pos c69] at H
       have c69b0 : (t171 == 0) = true := beq_iff_eq.mpr c69
       have c69b1 : (t171 != 0) = false := bne_eq_false_iff_eq.mpr c69
       clear c69
       by_cases c70 : (t170.size : Int) = 28
       ·
        rw [if_pos c70] at H
        have c70b0 : ((t170.size : Int) == 28) = true := beq_iff_eq.mpr c70
        have c70b1 : ((t170.size : Int) != 28) = false := bne_eq_false_iff_eq.mpr c70
        clear c70
        by_cases c71 : t181 = 0
        ·
         rw [if_pos c71] at H
         have c71b0 : (t181 == 0) = true := beq_iff_eq.mpr c71
         have c71b1 : (t181 != 0) = false := bne_eq_false_iff_eq.mpr c71
         clear c71
         replace H := Option.bind_eq_some_iff.mp H
         obtain ⟨⟨t216, t217, t218, t219, t220, t221, t222, t223, t224⟩, A720, H⟩ := H
         replace H : (if (t172 == t216 && (t173 == t217 && ((t174 == t218 && (t175 == t219 && (t176 == t220))) && (t177 == t221 && ((t178 == t222 && (t179 == t223 && (t180 == t224)))))))) = true then (if t184 = 0 then (if t183 = 1101088686331 then ((ether_PrintMac.f k 5).bind fun t225 => (some false)) else (some false)) else (some false)) else (some false)) = some r := H
         have A72 := Aside0.mk A720
         clear A720
         by_cases c73 : (t172 == t216 && (t173 == t217 && ((t174 == t218 && (t175 == t219 && (t176 == t220))) && (t177 == t221 && ((t178 == t222 && (t179 == t223 && (t180 == t224)))))))) = true
         ·
          rw [if_pos c73] at H
          have c73b0 : (t172 == t216 && (t173 == t217 && ((t174 == t218 && (t175 == t219 && (t176 == t220))) && (t177 == t221 && ((t178 == t222 && (t179 == t223 && (t180 == t224)))))))) = true := c73
          (try (have c73b1 : decide (t172 = t216 && (t173 == t217 && ((t174 == t218 && (t175 == t219 && (t176 == t220))) && (t177 == t221 && ((t178 == t222 && (t179 == t223 && (t180 == t224)))))))) = true := by simpa using c73))
          (try (have c73b2 : (t172 == t216 && (t173 == t217 && ((t174 == t218 && (t175 == t219 && (t176 == t220))) && (t177 == t221 && ((t178 == t222 && (t179 == t223 && (t180 == t224)))))))) = true := by simpa using c73))
          clear c73
          by_cases c74 : t184 = 0
          ·
           rw [if_pos c74] at H
           have c74b0 : (t184 == 0) = true := beq_iff_eq.mpr c74
           have c74b1 : (t184 != 0) = false := bne_eq_false_iff_eq.mpr c74
           clear c74
           by_cases c75 : t183 = 1101088686331
           ·
            rw [if_pos c75] at H
            have c75b0 : (t183 == 1101088686331) = true := beq_iff_eq.mpr c75
            have c75b1 : (t183 != 1101088686331) = false := bne_eq_false_iff_eq.mpr c75
            clear c75
            replace H := Option.bind_eq_some_iff.mp H
            obtain ⟨t225, A760, H⟩ := H
            have A76 := Aside0.mk A760
            clear A760
            exact absurd ((Option.some.inj H).trans HRT.out) (by decide)
           ·
            rw [if_neg c75] at H
            have c75b0 : (t183 == 1101088686331) = false := beq_eq_false_iff_ne.mpr c75
            have c75b1 : (t183 != 1101088686331) = true := bne_iff_ne.mpr c75
            exact absurd ((Option.some.inj H).trans HRT.out) (by decide)
          ·
           rw [if_neg c74] at H
           have c74b0 : (t184 == 0) = false := beq_eq_false_iff_ne.mpr c74
           have c74b1 : (t184 != 0) = true := bne_iff_ne.mpr c74
           exact absurd ((Option.some.inj H).trans HRT.out) (by decide)
         ·
          rw [if_neg c73] at H
          have c73b0 : (t172 == t216 && (t173 == t217 && ((t174 == t218 && (t175 == t219 && (t176 == t220))) && (t177 == t221 && ((t178 == t222 && (t179 == t223 && (t180 == t224)))))))) = false := by simpa using c73
          (try (have c73b1 : decide (t172 = t216 && (t173 == t217 && ((t174 == t218 && (t175 == t219 && (t176 == t220))) && (t177 == t221 && ((t178 == t222 && (t179 == t223 && (t180 == t224)))))))) = false := by simpa using c73))
          (try (have c73b2 : (t172 == t216 && (t173 == t217 && ((t174 == t218 && (t175 == t219 && (t176 == t220))) && (t177 == t221 && ((t178 == t222 && (t179 == t223 && (t180 == t224)))))))) = false := by simpa using c73))
          (try (have c73b3 : ¬ (t172 = t216 && (t173 == t217 && ((t174 == t218 && (t175 == t219 && (t176 == t220))) && (t177 == t221 && ((t178 == t222 && (t179 == t223 && (t180 == t224)))))))) := by simpa using c73))
          clear c73
          exact absurd ((Option.some.inj H).trans HRT.out) (by decide)
        ·
         rw [if_neg c71] at H
         have c71b0 : (t181 == 0) = false := beq_eq_false_iff_ne.mpr c71
         have c71b1 : (t181 != 0) = true := bne_iff_ne.mpr c71
         exact absurd ((Option.some.inj H).trans HRT.out) (by decide)
       ·
        rw [if_neg c70] at H
        have c70b0 : ((t170.size : Int) == 28) = false := beq_eq_false_iff_ne.mpr c70
        have c70b1 : ((t170.size : Int) != 28) = true := bne_iff_ne.mpr c70
        exact absurd ((Option.some.inj H).trans HRT.out) (by decide)
      ·
       rw [if_neg c69] at H
       have c69b0 : (t171 == 0) = false := beq_eq_false_iff_ne.mpr c69
       have c69b1 : (t171 != 0) = true := bne_iff_ne.mpr c69
       exact absurd ((Option.some.inj H).trans HRT.out) (by decide)
    ·
     rw [if_neg c11] at H
     exact absurd H (by simp)
   ·
    rw [if_neg c10] at H
    exact absurd H (by simp)
  ·
   rw [if_neg c9] at H
   have c9b0 : ((t147.size : Int) == 60) = false := beq_eq_false_iff_ne.mpr c9
   have c9b1 : ((t147.size : Int) != 60) = true := bne_iff_ne.mpr c9
   by_cases c77 : t171 = 0
   ·
    rw [if_pos c77] at H
    have c77b0 : (t171 == 0) = true := beq_iff_eq.mpr c77
    have c77b1 : (t171 != 0) = false := bne_eq_false_iff_eq.mpr c77
    clear c77
    by_cases c78 : (t170.size : Int) = 28
    ·
     rw [if_pos c78] at H
     have c78b0 : ((t170.size : Int) == 28) = true := beq_iff_eq.mpr c78
     have c78b1 : ((t170.size : Int) != 28) = false := bne_eq_false_iff_eq.mpr c78
     clear c78
     by_cases c79 : t181 = 0
     ·
      rw [if_pos c79] at H
      have c79b0 : (t181 == 0) = true := beq_iff_eq.mpr c79
      have c79b1 : (t181 != 0) = false := bne_eq_false_iff_eq.mpr c79
      clear c79
      replace H := Option.bind_eq_some_iff.mp H
      obtain ⟨⟨t226, t227, t228, t229, t230, t231, t232, t233, t234⟩, A800, H⟩ := H
      replace H : (if (t172 == t226 && (t173 == t227 && ((t174 == t228 && (t175 == t229 && (t176 == t230))) && (t177 == t231 && ((t178 == t232 && (t179 == t233 && (t180 == t234)))))))) = true then (if t184 = 0 then (if t183 = 1101088686331 then ((ether_PrintMac.f k 5).bind fun t235 => (some false)) else (some false)) else (some false)) else (some false)) = some r := H
      have A80 := Aside0.mk A800
      clear A800
      by_cases c81 : (t172 == t226 && (t173 == t227 && ((t174 == t228 && (t175 == t229 && (t176 == t230))) && (t177 == t231 && ((t178 == t232 && (t179 == t233 && (t180 == t234)))))))) = true
      ·
       rw [if_pos c81] at H
       have c81b0 : (t172 == t226 && (t173 == t227 && ((t174 == t228 && (t175 == t229 && (t176 == t230))) && (t177 == t231 && ((t178 == t232 && (t179 == t233 && (t180 == t234)))))))) = true := c81
       (try (have c81b1 : decide (t172 = t226 && (t173 == t227 && ((t174 == t228 && (t175 == t229 && (t176 == t230))) && (t177 == t231 && ((t178 == t232 && (t179 == t233 && (t180 == t234)))))))) = true := by simpa using c81))
       (try (have c81b2 : (t172 == t226 && (t173 == t227 && ((t174 == t228 && (t175 == t229 && (t176 == t230))) && (t177 == t231 && ((t178 == t232 && (t179 == t233 && (t180 == t234)))))))) = true := by simpa using c81))
       clear c81
       by_cases c82 : t184 = 0
       ·
        rw [if_pos c82] at H
        have c82b0 : (t184 == 0) = true := beq_iff_eq.mpr c82
        have c82b1 : (t184 != 0) = false := bne_eq_false_iff_eq.mpr c82
        clear c82
        by_cases c83 : t183 = 1101088686331
        ·
         rw [if_pos c83] at H
         have c83b0 : (t183 == 1101088686331) = true := beq_iff_eq.mpr c83
         have c83b1 : (t183 != 1101088686331) = false := bne_eq_false_iff_eq.mpr c83
         clear c83
         replace H := Option.bind_eq_some_iff.mp H
         obtain ⟨t235, A840, H⟩ := H
         have A84 := Aside0.mk A840
         clear A840
         exact absurd ((Option.some.inj H).trans HRT.out) (by decide)
        ·
         rw [if_neg c83] at H
         have c83b0 : (t183 == 1101088686331) = false := beq_eq_false_iff_ne.mpr c83
         have c83b1 : (t183 != 1101088686331) = true := bne_iff_ne.mpr c83
         exact absurd ((Option.some.inj H).trans HRT.out) (by decide)
       ·
        rw [if_neg c82] at H
        have c82b0 : (t184 == 0) = false := beq_eq_false_iff_ne.mpr c82
        have c82b1 : (t184 != 0) = true := bne_iff_ne.mpr c82
        exact absurd ((Option.some.inj H).trans HRT.out) (by decide)
      ·
       rw [if_neg c81] at H
       have c81b0 : (t172 == t226 && (t173 == t227 && ((t174 == t228 && (t175 == t229 && (t176 == t230))) && (t177 == t231 && ((t178 == t232 && (t179 == t233 && (t180 == t234)))))))) = false := by simpa using c81
       (try (have c81b1 : decide (t172 = t226 && (t173 == t227 && ((t174 == t228 && (t175 == t229 && (t176 == t230))) && (t177 == t231 && ((t178 == t232 && (t179 == t233 && (t180 == t234)))))))) = false := by simpa using c81))
       (try (have c81b2 : (t172 == t226 && (t173 == t227 && ((t174 == t228 && (t175 == t229 && (t176 == t230))) && (t177 == t231 && ((t178 == t232 && (t179 == t233 && (t180 == t234)))))))) = false := by simpa using c81))
       (try (have c81b3 : ¬ (t172 = t226 && (t173 == t227 && ((t174 == t228 && (t175 == t229 && (t176 == t230))) && (t177 == t231 && ((t178 == t232 && (t179 == t233 && (t180 == t234)))))))) := by simpa using c81))
       clear c81
       exact absurd ((Option.some.inj H).trans HRT.out) (by decide)
     ·
      rw [if_neg c79] at H
      have c79b0 : (t181 == 0) = false := beq_eq_false_iff_ne.mpr c79
      have c79b1 : (t181 != 0) = true := bne_iff_ne.mpr c79
      exact absurd ((Option.some.inj H).trans HRT.out) (by decide)
    ·
     rw [if_neg c78] at H
     have c78b0 : ((t170.size : Int) == 28) = false := beq_eq_false_iff_ne.mpr c78
     have c78b1 : ((t170.size : Int) != 28) = true := bne_iff_ne.mpr c78
     exact absurd ((Option.some.inj H).trans HRT.out) (by decide)
   ·
    rw [if_neg c77] at H
    have c77b0 : (t171 == 0) = false := beq_eq_false_iff_ne.mpr c77
    have c77b1 : (t171 != 0) = true := bne_iff_ne.mpr c77
    exact absurd ((Option.some.inj H).trans HRT.out) (by decide)
 ·
  rw [if_neg c8] at H
  have c8b0 : (t148 == 0) = false := beq_eq_false_iff_ne.mpr c8
  have c8b1 : (t148 != 0) = true := bne_iff_ne.mpr c8
  by_cases c85 : t171 = 0
  ·
   rw [if_pos c85] at H
   have c85b0 : (t171 == 0) = true := beq_iff_eq.mpr c85
   have c85b1 : (t171 != 0) = false := bne_eq_false_iff_eq.mpr c85
   clear c85
   by_cases c86 : (t170.size : Int) = 28
   ·
    rw [if_pos c86] at H
    have c86b0 : ((t170.size : Int) == 28) = true := beq_iff_eq.mpr c86
    have c86b1 : ((t170.size : Int) != 28) = false := bne_eq_false_iff_eq.mpr c86
    clear c86
    by_cases c87 : t181 = 0
    ·
     rw [if_pos c87] at H
     have c87b0 : (t181 == 0) = true := beq_iff_eq.mpr c87
     have c87b1 : (t181 != 0) = false := bne_eq_false_iff_eq.mpr c87
     clear c87
     replace H := Option.bind_eq_some_iff.mp H
     obtain ⟨⟨t236, t237, t238, t239, t240, t241, t242, t243, t244⟩, A880, H⟩ := H
     replace H : (if (t172 == t236 && (t173 == t237 && ((t174 == t238 && (t175 == t239 && (t176 == t240))) && (t177 == t241 && ((t178 == t242 && (t179 == t243 && (t180 == t244)))))))) = true then (if t184 = 0 then (if t183 = 1101088686331 then ((ether_PrintMac.f k 5).bind fun t245 => (some false)) else (some false)) else (some false)) else (some false)) = some r := H
     have A88 := Aside0.mk A880
     clear A880
     by_cases c89 : (t172 == t236 && (t173 == t237 && ((t174 == t238 && (t175 == t239 && (t176 == t240))) && (t177 == t241 && ((t178 == t242 && (t179 == t243 && (t180 == t244)))))))) = true
     ·
      rw [if_pos c89] at H
      have c89b0 : (t172 == t236 && (t173 == t237 && ((t174 == t238 && (t175 == t239 && (t176 == t240))) && (t177 == t241 && ((t178 == t242 && (t179 == t243 && (t180 == t244)))))))) = true := c89
      (try (have c89b1 : decide (t172 = t236 && (t173 == t237 && ((t174 == t238 && (t175 == t239 && (t176 == t240))) && (t177 == t241 && ((t178 == t242 && (t179 == t243 && (t180 == t244)))))))) = true := by simpa using c89))
      (try (have c89b2 : (t172 == t236 && (t173 == t237 && ((t174 == t238 && (t175 == t239 && (t176 == t240))) && (t177 == t241 && ((t178 == t242 && (t179 == t243 && (t180 == t244)))))))) = true := by simpa using c89))
      clear c89
      by_cases c90 : t184 = 0
      ·
       rw [if_pos c90] at H
       have c90b0 : (t184 == 0) = true := beq_iff_eq.mpr c90
       have c90b1 : (t184 != 0) = false := bne_eq_false_iff_eq.mpr c90
       clear c90
       by_cases c91 : t183 = 1101088686331
       ·
        rw [if_pos c91] at H
        have c91b0 : (t183 == 1101088686331) = true := beq_iff_eq.mpr c91
        have c91b1 : (t183 != 1101088686331) = false := bne_eq_false_iff_eq.mpr c91
        clear c91
        replace H := Option.bind_eq_some_iff.mp H
        obtain ⟨t245, A920, H⟩ := H
        have A92 := Aside0.mk A920
        clear A920
        exact absurd ((Option.some.inj H).trans HRT.out) (by decide)
       ·
        rw [if_neg c91] at H
        have c91b0 : (t183 == 1101088686331) = false := beq_eq_false_iff_ne.mpr c91
        have c91b1 : (t183 != 1101088686331) = true := bne_iff_ne.mpr c91
        exact absurd ((Option.some.inj H).trans HRT.out) (by decide)
      ·
       rw [if_neg c90] at H
       have c90b0 : (t184 == 0) = false := beq_eq_false_iff_ne.mpr c90
       have c90b1 : (t184 != 0) = true := bne_iff_ne.mpr c90
       exact absurd ((Option.some.inj H).trans HRT.out) (by decide)
     ·
      rw [if_neg c89] at H
      have c89b0 : (t172 == t236 && (t173 == t237 && ((t174 == t238 && (t175 == t239 && (t176 == t240))) && (t177 == t241 && ((t178 == t242 && (t179 == t243 && (t180 == t244)))))))) = false := by simpa using c89
      (try (have c89b1 : decide (t172 = t236 && (t173 == t237 && ((t174 == t238 && (t175 == t239 && (t176 == t240))) && (t177 == t241 && ((t178 == t242 && (t179 == t243 && (t180 == t244)))))))) = false := by simpa using c89))
      (try (have c89b2 : (t172 == t236 && (t173 == t237 && ((t174 == t238 && (t175 == t239 && (t176 == t240))) && (t177 == t241 && ((t178 == t242 && (t179 == t243 && (t180 == t244)))))))) = false := by simpa using c89))
      (try (have c89b3 : ¬ (t172 = t236 && (t173 == t237 && ((t174 == t238 && (t175 == t239 && (t176 == t240))) && (t177 == t241 && ((t178 == t242 && (t179 == t243 && (t180 == t244)))))))) := by simpa using c89))
      clear c89
      exact absurd ((Option.some.inj H).trans HRT.out) (by decide)
    ·
     rw [if_neg c87] at H
     have c87b0 : (t181 == 0) = false := beq_eq_false_iff_ne.mpr c87
     have c87b1 : (t181 != 0) = true := bne_iff_ne.mpr c87
     exact absurd ((Option.some.inj H).trans HRT.out) (by decide)
   ·
    rw [if_neg c86] at H
    have c86b0 : ((t170.size : Int) == 28) = false := beq_eq_false_iff_ne.mpr c86
    have c86b1 : ((t170.size : Int) != 28) = true := bne_iff_ne.mpr c86
    exact absurd ((Option.some.inj H).trans HRT.out) (by decide)
  ·
   rw [if_neg c85] at H
   have c85b0 : (t171 == 0) = false := beq_eq_false_iff_ne.mpr c85
   have c85b1 : (t171 != 0) = true := bne_iff_ne.mpr c85
   exact absurd ((Option.some.inj H).trans HRT.out) (by decide)
def crosswaylaw05_awake.f (k : Nat) : Option Bool := (crosswaylaw05_awake.f0 k).bind fun b => if b = true then some true else none
theorem crosswaylaw05_awake.mono : ∀ k, LeO (crosswaylaw05_awake.f k) (crosswaylaw05_awake.f (k + 1)) := fun k => LeO.bind (crosswaylaw05_awake.mono0 k) (fun _ => LeO.refl _)
theorem crosswaylaw05_awake.calls (k : Nat) (r : Bool) (w : World) (h : crosswaylaw05_awake.f k = some r) (hg : ether_Glob w) :
  Calls Tryd.prog 10 #[] w fun e w' => e = .returned (.bool r) ∧ Below w.heap.size w w' := by
 have HGL := Aside0.mk hg
 clear hg
 unfold crosswaylaw05_awake.f at h
 obtain ⟨b, hb, h⟩ := Option.bind_eq_some_iff.1 h
 cases b with
 | false => exact absurd h (by simp)
 | true =>
  rw [if_pos rfl] at h
  obtain rfl := Option.some.inj h
  exact crosswaylaw05_awake.calls0 k true w hb rfl HGL.out

end Go.Proofs.YthajbaheejdoaaaDoor.PBase
