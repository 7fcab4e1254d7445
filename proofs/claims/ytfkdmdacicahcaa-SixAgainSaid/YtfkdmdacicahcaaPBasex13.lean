/- Functions of the program as Lean functions, each with a proof that a call comes to what it says. Conditions: those of each theorem. Laid by a program of this session. -/
import Derived.Test.YtfkdmdacicahcaaPBasex0
import Derived.Test.YtfkdmdacicahcaaPBasex1
import Derived.Test.YtfkdmdacicahcaaPBasex3
import Derived.Test.YtfkdmdacicahcaaPBasex4
import Derived.Test.YtfkdmdacicahcaaPBasex5
import Derived.Test.YtfkdmdacicahcaaPBasex6
namespace Go.Proofs.Ytfkdmdacicahcaa.PBase
open Go.RowKit Go.Proofs.Ytfkdmdacicahcaa Go.Proofs.YtfkdmdacicahcaaW.PrintWords Go.Proofs.YtfkdmdacicahcaaW.PrintLast Go.Proofs.YtfkdmdacicahcaaW.PrintMore
attribute [local go_sem] max2_int min2_int max_two min_two max_three min_three max_four min_four   -- for this text's walks alone
set_option linter.unusedVariables false
set_option linter.unusedSimpArgs false

attribute [local go_sem high] eqA26
/-! ### crosswaylaw07_SixAgain: function 7 -/
def crosswaylaw07_SixAgain.j0 : Nat → Bool → ByteArray → ByteArray → Int → Bool → Int → Int → Int → Int → Bool → Int → Int → Bool → Int → Int → ByteArray → Option (Bool)
 | 0, _, _, _, _, _, _, _, _, _, _, _, _, _, _, _, _ => none
 | k + 1, x3, x6, x8, x9, x52, x356000, x356001, x356002, x356003, x356004, x356005, x356006, x356007, x356008, x356009, x356010 => if x52 = true then (some false) else (if x356003 < 2 then (if x3 = true then (if x8.toList = ([] : List UInt8) then (some (x9 == 63)) else (some false)) else (some false)) else ((ip6_Take.f k x8).bind fun bt360 => (if x3 = true then (if x9 = 0 then (if bt360.2.2.2.2.2.2.2.2.2.2.2 = 0 then (if (bt360.1 == x356000 && (bt360.2.1 == x356001 && (bt360.2.2.1 == x356002 && (bt360.2.2.2.1 == (wrap64 (x356003 - 1)) && ((bt360.2.2.2.2.1 == x356004 && (bt360.2.2.2.2.2.1 == x356005 && (bt360.2.2.2.2.2.2.1 == x356006))) && ((bt360.2.2.2.2.2.2.2.1 == x356007 && (bt360.2.2.2.2.2.2.2.2.1 == x356008 && (bt360.2.2.2.2.2.2.2.2.2.1 == x356009))) && (bt360.2.2.2.2.2.2.2.2.2.2.1.toList == x356010.toList))))))) = true then (some ((x8.size : Int) == (x6.size : Int))) else (some false)) else (some false)) else (some false)) else (some false))))
def crosswaylaw07_SixAgain.f (k : Nat) (a0 : ByteArray) : Option (Bool) := (crosswaylaw07_awake.f k).bind fun t342 => ((ip6_Take.f k a0).bind fun bt343 => (if bt343.2.2.2.2.2.2.2.2.2.2.2 = 0 then ((ip6_Lay.f bt343.1 bt343.2.1 bt343.2.2.1 bt343.2.2.2.1 bt343.2.2.2.2.1 bt343.2.2.2.2.2.1 bt343.2.2.2.2.2.2.1 bt343.2.2.2.2.2.2.2.1 bt343.2.2.2.2.2.2.2.2.1 bt343.2.2.2.2.2.2.2.2.2.1 bt343.2.2.2.2.2.2.2.2.2.2.1).bind fun bt356 => ((ip6_Hop.f k a0).bind fun bt358 => (if bt356.2 = 0 then (if (bt356.1.size : Int) > (a0.size : Int) then (crosswaylaw07_SixAgain.j0 k t342 bt356.1 bt358.1 bt358.2 true bt343.1 bt343.2.1 bt343.2.2.1 bt343.2.2.2.1 bt343.2.2.2.2.1 bt343.2.2.2.2.2.1 bt343.2.2.2.2.2.2.1 bt343.2.2.2.2.2.2.2.1 bt343.2.2.2.2.2.2.2.2.1 bt343.2.2.2.2.2.2.2.2.2.1 bt343.2.2.2.2.2.2.2.2.2.2.1) else (if 0 ≤ (bt356.1.size : Int) then (if (bt356.1.size : Int) ≤ (a0.size : Int) then (crosswaylaw07_SixAgain.j0 k t342 bt356.1 bt358.1 bt358.2 ((a0.extract 0 ((bt356.1.size : Int) : Int).toNat).toList != bt356.1.toList) bt343.1 bt343.2.1 bt343.2.2.1 bt343.2.2.2.1 bt343.2.2.2.2.1 bt343.2.2.2.2.2.1 bt343.2.2.2.2.2.2.1 bt343.2.2.2.2.2.2.2.1 bt343.2.2.2.2.2.2.2.2.1 bt343.2.2.2.2.2.2.2.2.2.1 bt343.2.2.2.2.2.2.2.2.2.2.1) else (none)) else (none))) else (crosswaylaw07_SixAgain.j0 k t342 bt356.1 bt358.1 bt358.2 true bt343.1 bt343.2.1 bt343.2.2.1 bt343.2.2.2.1 bt343.2.2.2.2.1 bt343.2.2.2.2.2.1 bt343.2.2.2.2.2.2.1 bt343.2.2.2.2.2.2.2.1 bt343.2.2.2.2.2.2.2.2.1 bt343.2.2.2.2.2.2.2.2.2.1 bt343.2.2.2.2.2.2.2.2.2.2.1)))) else (if t342 = true then (some (bt343.1 == 0 && (bt343.2.1 == 0 && (bt343.2.2.1 == 0 && (bt343.2.2.2.1 == 0 && ((!bt343.2.2.2.2.1 && (bt343.2.2.2.2.2.1 == 0 && (bt343.2.2.2.2.2.2.1 == 0))) && ((!bt343.2.2.2.2.2.2.2.1 && (bt343.2.2.2.2.2.2.2.2.1 == 0 && (bt343.2.2.2.2.2.2.2.2.2.1 == 0))) && (bt343.2.2.2.2.2.2.2.2.2.2.1.toList == ([] : List UInt8))))))))) else (some false))))
theorem crosswaylaw07_SixAgain.mono_l : ∀ k, (∀ y0 y1 y2 y3 y4 y5 y6 y7 y8 y9 y10 y11 y12 y13 y14 y15, LeO (crosswaylaw07_SixAgain.j0 k y0 y1 y2 y3 y4 y5 y6 y7 y8 y9 y10 y11 y12 y13 y14 y15) (crosswaylaw07_SixAgain.j0 (k + 1) y0 y1 y2 y3 y4 y5 y6 y7 y8 y9 y10 y11 y12 y13 y14 y15))
 | 0 => fun _ _ _ _ _ _ _ _ _ _ _ _ _ _ _ _ r h => by simp [crosswaylaw07_SixAgain.j0] at h
 | k + 1 => by
  have ih0 := crosswaylaw07_SixAgain.mono_l k
  ·
   intro y0 y1 y2 y3 y4 y5 y6 y7 y8 y9 y10 y11 y12 y13 y14 y15
   unfold crosswaylaw07_SixAgain.j0
   repeat' first
   | (with_reducible exact ih0 _ _ _ _ _ _ _ _ _ _ _ _ _ _ _ _)
   | (with_reducible exact crosswaylaw07_awake.mono _)
   | (with_reducible exact ip6_Hop.mono _ _)
   | (with_reducible exact ip6_Take.mono _ _)
   | (with_reducible exact LeO.refl _)
   | (with_reducible exact LeO.none _)
   | (with_reducible refine LeO.ite ?_ ?_)
   | (with_reducible refine LeO.bind ?_ (fun _ => ?_))
   | exact ih0 _ _ _ _ _ _ _ _ _ _ _ _ _ _ _ _
   | exact crosswaylaw07_awake.mono _
   | exact ip6_Hop.mono _ _
   | exact ip6_Take.mono _ _
   | exact LeO.none _
   | refine LeO.ite ?_ ?_
   | refine LeO.bind ?_ (fun _ => ?_)
theorem crosswaylaw07_SixAgain.mono : ∀ a0 k, LeO (crosswaylaw07_SixAgain.f k a0) (crosswaylaw07_SixAgain.f (k + 1) a0) := by
 intro a0 k
 have ih0 := crosswaylaw07_SixAgain.mono_l k
 unfold crosswaylaw07_SixAgain.f
 repeat' first
   | (with_reducible exact ih0 _ _ _ _ _ _ _ _ _ _ _ _ _ _ _ _)
   | (with_reducible exact crosswaylaw07_awake.mono _)
   | (with_reducible exact ip6_Hop.mono _ _)
   | (with_reducible exact ip6_Take.mono _ _)
   | (with_reducible exact LeO.refl _)
   | (with_reducible exact LeO.none _)
   | (with_reducible refine LeO.ite ?_ ?_)
   | (with_reducible refine LeO.bind ?_ (fun _ => ?_))
   | exact ih0 _ _ _ _ _ _ _ _ _ _ _ _ _ _ _ _
   | exact crosswaylaw07_awake.mono _
   | exact ip6_Hop.mono _ _
   | exact ip6_Take.mono _ _
   | exact LeO.none _
   | refine LeO.ite ?_ ?_
   | refine LeO.bind ?_ (fun _ => ?_)
set_option maxHeartbeats 8000000 in
set_option maxRecDepth 100000 in
theorem crosswaylaw07_SixAgain.calls (k : Nat) (a0 : ByteArray) (r : Bool) (w : World) (h : crosswaylaw07_SixAgain.f k a0 = some r) :
  Calls Try.prog 7 #[.string a0] w fun e w' => e = .returned (.bool r) ∧ Below w.heap.size w w' := by
 have hu26 := Try.underlying26
 have HB := Aside0.mk (Below.refl w.heap.size w)
 have H : ((crosswaylaw07_awake.f k).bind fun t342 => ((ip6_Take.f k a0).bind fun bt343 => (if bt343.2.2.2.2.2.2.2.2.2.2.2 = 0 then ((ip6_Lay.f bt343.1 bt343.2.1 bt343.2.2.1 bt343.2.2.2.1 bt343.2.2.2.2.1 bt343.2.2.2.2.2.1 bt343.2.2.2.2.2.2.1 bt343.2.2.2.2.2.2.2.1 bt343.2.2.2.2.2.2.2.2.1 bt343.2.2.2.2.2.2.2.2.2.1 bt343.2.2.2.2.2.2.2.2.2.2.1).bind fun bt356 => ((ip6_Hop.f k a0).bind fun bt358 => (if bt356.2 = 0 then (if (bt356.1.size : Int) > (a0.size : Int) then (crosswaylaw07_SixAgain.j0 k t342 bt356.1 bt358.1 bt358.2 true bt343.1 bt343.2.1 bt343.2.2.1 bt343.2.2.2.1 bt343.2.2.2.2.1 bt343.2.2.2.2.2.1 bt343.2.2.2.2.2.2.1 bt343.2.2.2.2.2.2.2.1 bt343.2.2.2.2.2.2.2.2.1 bt343.2.2.2.2.2.2.2.2.2.1 bt343.2.2.2.2.2.2.2.2.2.2.1) else (if 0 ≤ (bt356.1.size : Int) then (if (bt356.1.size : Int) ≤ (a0.size : Int) then (crosswaylaw07_SixAgain.j0 k t342 bt356.1 bt358.1 bt358.2 ((a0.extract 0 ((bt356.1.size : Int) : Int).toNat).toList != bt356.1.toList) bt343.1 bt343.2.1 bt343.2.2.1 bt343.2.2.2.1 bt343.2.2.2.2.1 bt343.2.2.2.2.2.1 bt343.2.2.2.2.2.2.1 bt343.2.2.2.2.2.2.2.1 bt343.2.2.2.2.2.2.2.2.1 bt343.2.2.2.2.2.2.2.2.2.1 bt343.2.2.2.2.2.2.2.2.2.2.1) else (none)) else (none))) else (crosswaylaw07_SixAgain.j0 k t342 bt356.1 bt358.1 bt358.2 true bt343.1 bt343.2.1 bt343.2.2.1 bt343.2.2.2.1 bt343.2.2.2.2.1 bt343.2.2.2.2.2.1 bt343.2.2.2.2.2.2.1 bt343.2.2.2.2.2.2.2.1 bt343.2.2.2.2.2.2.2.2.1 bt343.2.2.2.2.2.2.2.2.2.1 bt343.2.2.2.2.2.2.2.2.2.2.1)))) else (if t342 = true then (some (bt343.1 == 0 && (bt343.2.1 == 0 && (bt343.2.2.1 == 0 && (bt343.2.2.2.1 == 0 && ((!bt343.2.2.2.2.1 && (bt343.2.2.2.2.2.1 == 0 && (bt343.2.2.2.2.2.2.1 == 0))) && ((!bt343.2.2.2.2.2.2.2.1 && (bt343.2.2.2.2.2.2.2.2.1 == 0 && (bt343.2.2.2.2.2.2.2.2.2.1 == 0))) && (bt343.2.2.2.2.2.2.2.2.2.2.1.toList == ([] : List UInt8))))))))) else (some false))))) = some r := h
 clear h
 replace H := Option.bind_eq_some_iff.mp H
 obtain ⟨t342, A20, H⟩ := H
 replace H : ((ip6_Take.f k a0).bind fun bt343 => (if bt343.2.2.2.2.2.2.2.2.2.2.2 = 0 then ((ip6_Lay.f bt343.1 bt343.2.1 bt343.2.2.1 bt343.2.2.2.1 bt343.2.2.2.2.1 bt343.2.2.2.2.2.1 bt343.2.2.2.2.2.2.1 bt343.2.2.2.2.2.2.2.1 bt343.2.2.2.2.2.2.2.2.1 bt343.2.2.2.2.2.2.2.2.2.1 bt343.2.2.2.2.2.2.2.2.2.2.1).bind fun bt356 => ((ip6_Hop.f k a0).bind fun bt358 => (if bt356.2 = 0 then (if (bt356.1.size : Int) > (a0.size : Int) then (crosswaylaw07_SixAgain.j0 k t342 bt356.1 bt358.1 bt358.2 true bt343.1 bt343.2.1 bt343.2.2.1 bt343.2.2.2.1 bt343.2.2.2.2.1 bt343.2.2.2.2.2.1 bt343.2.2.2.2.2.2.1 bt343.2.2.2.2.2.2.2.1 bt343.2.2.2.2.2.2.2.2.1 bt343.2.2.2.2.2.2.2.2.2.1 bt343.2.2.2.2.2.2.2.2.2.2.1) else (if 0 ≤ (bt356.1.size : Int) then (if (bt356.1.size : Int) ≤ (a0.size : Int) then (crosswaylaw07_SixAgain.j0 k t342 bt356.1 bt358.1 bt358.2 ((a0.extract 0 ((bt356.1.size : Int) : Int).toNat).toList != bt356.1.toList) bt343.1 bt343.2.1 bt343.2.2.1 bt343.2.2.2.1 bt343.2.2.2.2.1 bt343.2.2.2.2.2.1 bt343.2.2.2.2.2.2.1 bt343.2.2.2.2.2.2.2.1 bt343.2.2.2.2.2.2.2.2.1 bt343.2.2.2.2.2.2.2.2.2.1 bt343.2.2.2.2.2.2.2.2.2.2.1) else (none)) else (none))) else (crosswaylaw07_SixAgain.j0 k t342 bt356.1 bt358.1 bt358.2 true bt343.1 bt343.2.1 bt343.2.2.1 bt343.2.2.2.1 bt343.2.2.2.2.1 bt343.2.2.2.2.2.1 bt343.2.2.2.2.2.2.1 bt343.2.2.2.2.2.2.2.1 bt343.2.2.2.2.2.2.2.2.1 bt343.2.2.2.2.2.2.2.2.2.1 bt343.2.2.2.2.2.2.2.2.2.2.1)))) else (if t342 = true then (some (bt343.1 == 0 && (bt343.2.1 == 0 && (bt343.2.2.1 == 0 && (bt343.2.2.2.1 == 0 && ((!bt343.2.2.2.2.1 && (bt343.2.2.2.2.2.1 == 0 && (bt343.2.2.2.2.2.2.1 == 0))) && ((!bt343.2.2.2.2.2.2.2.1 && (bt343.2.2.2.2.2.2.2.2.1 == 0 && (bt343.2.2.2.2.2.2.2.2.2.1 == 0))) && (bt343.2.2.2.2.2.2.2.2.2.2.1.toList == ([] : List UInt8))))))))) else (some false)))) = some r := H
 have A2 := Aside0.mk A20
 clear A20
 replace H := Option.bind_eq_some_iff.mp H
 obtain ⟨⟨t343, t344, t345, t346, t347, t348, t349, t350, t351, t352, t353, t354⟩, A30, H⟩ := H
 replace H : (if t354 = 0 then ((ip6_Lay.f t343 t344 t345 t346 t347 t348 t349 t350 t351 t352 t353).bind fun bt356 => ((ip6_Hop.f k a0).bind fun bt358 => (if bt356.2 = 0 then (if (bt356.1.size : Int) > (a0.size : Int) then (crosswaylaw07_SixAgain.j0 k t342 bt356.1 bt358.1 bt358.2 true t343 t344 t345 t346 t347 t348 t349 t350 t351 t352 t353) else (if 0 ≤ (bt356.1.size : Int) then (if (bt356.1.size : Int) ≤ (a0.size : Int) then (crosswaylaw07_SixAgain.j0 k t342 bt356.1 bt358.1 bt358.2 ((a0.extract 0 ((bt356.1.size : Int) : Int).toNat).toList != bt356.1.toList) t343 t344 t345 t346 t347 t348 t349 t350 t351 t352 t353) else (none)) else (none))) else (crosswaylaw07_SixAgain.j0 k t342 bt356.1 bt358.1 bt358.2 true t343 t344 t345 t346 t347 t348 t349 t350 t351 t352 t353)))) else (if t342 = true then (some (t343 == 0 && (t344 == 0 && (t345 == 0 && (t346 == 0 && ((!t347 && (t348 == 0 && (t349 == 0))) && ((!t350 && (t351 == 0 && (t352 == 0))) && (t353.toList == ([] : List UInt8))))))))) else (some false))) = some r := H
 have A3 := Aside0.mk A30
 clear A30
 by_cases c4 : t354 = 0
 ·
  rw [if_pos c4] at H
  have c4b0 : (t354 == 0) = true := beq_iff_eq.mpr c4
  have c4b1 : (t354 != 0) = false := bne_eq_false_iff_eq.mpr c4
  clear c4
  replace H := Option.bind_eq_some_iff.mp H
  obtain ⟨⟨t356, t357⟩, A50, H⟩ := H
  replace H : ((ip6_Hop.f k a0).bind fun bt358 => (if t357 = 0 then (if (t356.size : Int) > (a0.size : Int) then (crosswaylaw07_SixAgain.j0 k t342 t356 bt358.1 bt358.2 true t343 t344 t345 t346 t347 t348 t349 t350 t351 t352 t353) else (if 0 ≤ (t356.size : Int) then (if (t356.size : Int) ≤ (a0.size : Int) then (crosswaylaw07_SixAgain.j0 k t342 t356 bt358.1 bt358.2 ((a0.extract 0 ((t356.size : Int) : Int).toNat).toList != t356.toList) t343 t344 t345 t346 t347 t348 t349 t350 t351 t352 t353) else (none)) else (none))) else (crosswaylaw07_SixAgain.j0 k t342 t356 bt358.1 bt358.2 true t343 t344 t345 t346 t347 t348 t349 t350 t351 t352 t353))) = some r := H
  have A5 := Aside0.mk A50
  clear A50
  replace H := Option.bind_eq_some_iff.mp H
  obtain ⟨⟨t358, t359⟩, A60, H⟩ := H
  replace H : (if t357 = 0 then (if (t356.size : Int) > (a0.size : Int) then (crosswaylaw07_SixAgain.j0 k t342 t356 t358 t359 true t343 t344 t345 t346 t347 t348 t349 t350 t351 t352 t353) else (if 0 ≤ (t356.size : Int) then (if (t356.size : Int) ≤ (a0.size : Int) then (crosswaylaw07_SixAgain.j0 k t342 t356 t358 t359 ((a0.extract 0 ((t356.size : Int) : Int).toNat).toList != t356.toList) t343 t344 t345 t346 t347 t348 t349 t350 t351 t352 t353) else (none)) else (none))) else (crosswaylaw07_SixAgain.j0 k t342 t356 t358 t359 true t343 t344 t345 t346 t347 t348 t349 t350 t351 t352 t353)) = some r := H
  have A6 := Aside0.mk A60
  clear A60
  have HC7 := Aside0.mk H
  clear H
  go_enter Try.func7, Try.ntmps7
  go_upto_region 7 with (first | ((with_reducible refine gate_callee (f := 9) rfl ?_); refine goesL_ (some 12) rfl rfl Try.func9 (by kernel_rfl) rfl #[] rfl (by (try simp only [List.map_toArray, List.map_cons, List.map_nil]); first | done | rfl | (simp only [List.length_drop, List.length_take]; rfl)) ?_; (with_reducible refine (crosswaylaw07_awake.calls k  t342 _ A2.out).mono ?_); rintro e w8 ⟨rfl, hb⟩; refine ⟨_, rfl, ?_⟩; have n0_ := Aside0.mk (below_step (by repeat (first | (with_reducible first | exact HB.out | apply below_alloc | apply pw_below_drewN | apply below_drew1) | exact HB.out)) hb); clear HB; have HB := n0_; clear n0_; (try clear hb); (try clear hb2); (try clear hk); (try clear hi)) | ((with_reducible refine gate_callee (f := 12) rfl ?_); refine goesL_ (some 15) rfl rfl Try.func12 (by kernel_rfl) rfl #[.string a0] rfl (by (try simp only [List.map_toArray, List.map_cons, List.map_nil]); first | done | rfl | (simp only [List.length_drop, List.length_take]; rfl)) ?_; (with_reducible refine (ip6_Take.calls k a0 t343 t344 t345 t346 t347 t348 t349 t350 t351 t352 t353 t354 _ A3.out).mono ?_); rintro e w9 ⟨rfl, hb⟩; refine ⟨_, rfl, ?_⟩; have n0_ := Aside0.mk (below_step (by repeat (first | (with_reducible first | exact HB.out | apply below_alloc | apply pw_below_drewN | apply below_drew1) | exact HB.out)) hb); clear HB; have HB := n0_; clear n0_; (try clear hb); (try clear hb2); (try clear hk); (try clear hi)) | ((with_reducible refine gate_dst (N := 4) rfl ?_); (try (refine gate_guard (by rfl) ?_; dsimp only)); refine box_event ?hg (N := 4) ?hd (cs := #[.int .i64 0, .int .i64 0, .int .i64 0, .int .i64 0, .bool false, .int .u64 0, .int .u64 0, .bool false, .int .u64 0, .int .u64 0, .string (⟨#[]⟩ : ByteArray)]) (t := 26) ?hr ?_; (case hd => rfl); (case hg => rfl); (case hr => first | (go_simp; done) | (go_simp; rfl)); intro gb355 hg w10 hbox hb; have n0_ := Aside0.mk (below_step (by repeat (first | (with_reducible first | exact HB.out | apply below_alloc | apply pw_below_drewN | apply below_drew1) | exact HB.out)) hb); have n1_ := Aside0.mk (hbox); have n2_ := Aside0.mk ((by rw [hg]; exact (below_size (by repeat (first | (with_reducible first | exact HB.out | apply below_alloc | apply pw_below_drewN | apply below_drew1) | exact HB.out))) : w.heap.size ≤ gb355)); have n3_ := Aside0.mk ((by rw [hg]; exact (below_size (by repeat (first | (with_reducible first | exact HB.out | apply below_alloc | apply pw_below_drewN | apply below_drew1) | exact HB.out))) : w.heap.size ≤ gb355)); clear HB; have HB := n0_; have BK355 := n1_; have GW355 := n2_; have GE355 := n3_; clear n0_ n1_ n2_ n3_; clear hb hbox hg; have hcz11_0 : w10.cell? ⟨gb355, 0, none⟩ = some (.int .i64 0) := (blk_cell BK355.out 0).trans rfl; have hcz11_1 : w10.cell? ⟨gb355, 1, none⟩ = some (.int .i64 0) := (blk_cell BK355.out 1).trans rfl; have hcz11_2 : w10.cell? ⟨gb355, 2, none⟩ = some (.int .i64 0) := (blk_cell BK355.out 2).trans rfl; have hcz11_3 : w10.cell? ⟨gb355, 3, none⟩ = some (.int .i64 0) := (blk_cell BK355.out 3).trans rfl; have hcz11_4 : w10.cell? ⟨gb355, 4, none⟩ = some (.bool false) := (blk_cell BK355.out 4).trans rfl; have hcz11_5 : w10.cell? ⟨gb355, 5, none⟩ = some (.int .u64 0) := (blk_cell BK355.out 5).trans rfl; have hcz11_6 : w10.cell? ⟨gb355, 6, none⟩ = some (.int .u64 0) := (blk_cell BK355.out 6).trans rfl; have hcz11_7 : w10.cell? ⟨gb355, 7, none⟩ = some (.bool false) := (blk_cell BK355.out 7).trans rfl; have hcz11_8 : w10.cell? ⟨gb355, 8, none⟩ = some (.int .u64 0) := (blk_cell BK355.out 8).trans rfl; have hcz11_9 : w10.cell? ⟨gb355, 9, none⟩ = some (.int .u64 0) := (blk_cell BK355.out 9).trans rfl; have hcz11_10 : w10.cell? ⟨gb355, 10, none⟩ = some (.string (⟨#[]⟩ : ByteArray)) := (blk_cell BK355.out 10).trans rfl; have hfz11_0 := blk_frozen BK355.out 0; have hfz11_1 := blk_frozen BK355.out 1; have hfz11_2 := blk_frozen BK355.out 2; have hfz11_3 := blk_frozen BK355.out 3; have hfz11_4 := blk_frozen BK355.out 4; have hfz11_5 := blk_frozen BK355.out 5; have hfz11_6 := blk_frozen BK355.out 6; have hfz11_7 := blk_frozen BK355.out 7; have hfz11_8 := blk_frozen BK355.out 8; have hfz11_9 := blk_frozen BK355.out 9; have hfz11_10 := blk_frozen BK355.out 10) | ((with_reducible refine gate_callee (f := 10) rfl ?_); refine goesL_ (some 28) rfl rfl Try.func10 (by kernel_rfl) rfl #[.agg #[.int .i64 t343, .int .i64 t344, .int .i64 t345, .int .i64 t346, .bool t347, .int .u64 t348, .int .u64 t349, .bool t350, .int .u64 t351, .int .u64 t352, .string t353]] rfl (by (try simp only [List.map_toArray, List.map_cons, List.map_nil]); first | done | rfl | (simp only [List.length_drop, List.length_take]; rfl)) ?_; (with_reducible refine (ip6_Lay.calls t343 t344 t345 t346 t347 t348 t349 t350 t351 t352 t353 t356 t357 _ A5.out).mono ?_); rintro e w12 ⟨rfl, hb⟩; refine ⟨_, rfl, ?_⟩; have n0_ := Aside0.mk (blk_below (g := gb355) (o := .cells #[.int .i64 t343, .int .i64 t344, .int .i64 t345, .int .i64 t346, .bool t347, .int .u64 t348, .int .u64 t349, .bool t350, .int .u64 t351, .int .u64 t352, .string t353] 26 (0, 0)) (by (with_reducible repeat (first | refine blk_drewN ?_ _ | refine blk_drew ?_ | refine blk_alloc ?_ _)); refine blk_put (cs := #[.int .i64 t343, .int .i64 t344, .int .i64 t345, .int .i64 t346, .bool t347, .int .u64 t348, .int .u64 t349, .bool t350, .int .u64 t351, .int .u64 t352, .string (⟨#[]⟩ : ByteArray)]) ?_ 10 _ rfl; (with_reducible repeat (first | refine blk_drewN ?_ _ | refine blk_drew ?_ | refine blk_alloc ?_ _)); refine blk_put (cs := #[.int .i64 t343, .int .i64 t344, .int .i64 t345, .int .i64 t346, .bool t347, .int .u64 t348, .int .u64 t349, .bool t350, .int .u64 t351, .int .u64 0, .string (⟨#[]⟩ : ByteArray)]) ?_ 9 _ rfl; (with_reducible repeat (first | refine blk_drewN ?_ _ | refine blk_drew ?_ | refine blk_alloc ?_ _)); refine blk_put (cs := #[.int .i64 t343, .int .i64 t344, .int .i64 t345, .int .i64 t346, .bool t347, .int .u64 t348, .int .u64 t349, .bool t350, .int .u64 0, .int .u64 0, .string (⟨#[]⟩ : ByteArray)]) ?_ 8 _ rfl; (with_reducible repeat (first | refine blk_drewN ?_ _ | refine blk_drew ?_ | refine blk_alloc ?_ _)); refine blk_put (cs := #[.int .i64 t343, .int .i64 t344, .int .i64 t345, .int .i64 t346, .bool t347, .int .u64 t348, .int .u64 t349, .bool false, .int .u64 0, .int .u64 0, .string (⟨#[]⟩ : ByteArray)]) ?_ 7 _ rfl; (with_reducible repeat (first | refine blk_drewN ?_ _ | refine blk_drew ?_ | refine blk_alloc ?_ _)); refine blk_put (cs := #[.int .i64 t343, .int .i64 t344, .int .i64 t345, .int .i64 t346, .bool t347, .int .u64 t348, .int .u64 0, .bool false, .int .u64 0, .int .u64 0, .string (⟨#[]⟩ : ByteArray)]) ?_ 6 _ rfl; (with_reducible repeat (first | refine blk_drewN ?_ _ | refine blk_drew ?_ | refine blk_alloc ?_ _)); refine blk_put (cs := #[.int .i64 t343, .int .i64 t344, .int .i64 t345, .int .i64 t346, .bool t347, .int .u64 0, .int .u64 0, .bool false, .int .u64 0, .int .u64 0, .string (⟨#[]⟩ : ByteArray)]) ?_ 5 _ rfl; (with_reducible repeat (first | refine blk_drewN ?_ _ | refine blk_drew ?_ | refine blk_alloc ?_ _)); refine blk_put (cs := #[.int .i64 t343, .int .i64 t344, .int .i64 t345, .int .i64 t346, .bool false, .int .u64 0, .int .u64 0, .bool false, .int .u64 0, .int .u64 0, .string (⟨#[]⟩ : ByteArray)]) ?_ 4 _ rfl; (with_reducible repeat (first | refine blk_drewN ?_ _ | refine blk_drew ?_ | refine blk_alloc ?_ _)); refine blk_put (cs := #[.int .i64 t343, .int .i64 t344, .int .i64 t345, .int .i64 0, .bool false, .int .u64 0, .int .u64 0, .bool false, .int .u64 0, .int .u64 0, .string (⟨#[]⟩ : ByteArray)]) ?_ 3 _ rfl; (with_reducible repeat (first | refine blk_drewN ?_ _ | refine blk_drew ?_ | refine blk_alloc ?_ _)); refine blk_put (cs := #[.int .i64 t343, .int .i64 t344, .int .i64 0, .int .i64 0, .bool false, .int .u64 0, .int .u64 0, .bool false, .int .u64 0, .int .u64 0, .string (⟨#[]⟩ : ByteArray)]) ?_ 2 _ rfl; (with_reducible repeat (first | refine blk_drewN ?_ _ | refine blk_drew ?_ | refine blk_alloc ?_ _)); refine blk_put (cs := #[.int .i64 t343, .int .i64 0, .int .i64 0, .int .i64 0, .bool false, .int .u64 0, .int .u64 0, .bool false, .int .u64 0, .int .u64 0, .string (⟨#[]⟩ : ByteArray)]) ?_ 1 _ rfl; (with_reducible repeat (first | refine blk_drewN ?_ _ | refine blk_drew ?_ | refine blk_alloc ?_ _)); refine blk_put (cs := #[.int .i64 0, .int .i64 0, .int .i64 0, .int .i64 0, .bool false, .int .u64 0, .int .u64 0, .bool false, .int .u64 0, .int .u64 0, .string (⟨#[]⟩ : ByteArray)]) ?_ 0 _ rfl; (with_reducible repeat (first | refine blk_drewN ?_ _ | refine blk_drew ?_ | refine blk_alloc ?_ _)); exact BK355.out) hb); have n1_ := Aside0.mk (below_step (by repeat (first | (with_reducible first | exact HB.out | apply below_alloc | apply pw_below_drewN | apply below_drew1 | refine below_set ?_ GE355.out) | exact HB.out)) hb); clear BK355; clear HB; have BK355 := n0_; have HB := n1_; clear n0_ n1_; (try clear hb); (try clear hb2); (try clear hk); (try clear hi)) | ((with_reducible refine gate_callee (f := 14) rfl ?_); refine goesL_ (some 33) rfl rfl Try.func14 (by kernel_rfl) rfl #[.string a0] rfl (by (try simp only [List.map_toArray, List.map_cons, List.map_nil]); first | done | rfl | (simp only [List.length_drop, List.length_take]; rfl)) ?_; (with_reducible refine (ip6_Hop.calls k a0 t358 t359 _ A6.out).mono ?_); rintro e w13 ⟨rfl, hb⟩; refine ⟨_, rfl, ?_⟩; have n0_ := Aside0.mk (blk_below (g := gb355) (o := .cells #[.int .i64 t343, .int .i64 t344, .int .i64 t345, .int .i64 t346, .bool t347, .int .u64 t348, .int .u64 t349, .bool t350, .int .u64 t351, .int .u64 t352, .string t353] 26 (0, 0)) (by (with_reducible repeat (first | refine blk_drewN ?_ _ | refine blk_drew ?_ | refine blk_alloc ?_ _)); exact BK355.out) hb); have n1_ := Aside0.mk (below_step (by repeat (first | (with_reducible first | exact HB.out | apply below_alloc | apply pw_below_drewN | apply below_drew1 | refine below_set ?_ GE355.out) | exact HB.out)) hb); clear BK355; clear HB; have BK355 := n0_; have HB := n1_; clear n0_ n1_; (try clear hb); (try clear hb2); (try clear hk); (try clear hi)))
  (try simp only [Act.put, List.setIfInBounds_toArray, List.set_cons_zero, List.set_cons_succ])
  go_cut [52] (fun v52 wc => ∃ (kq : Nat) (x52_6 : Bool), v52 = .bool x52_6 ∧ Aside0 (crosswaylaw07_SixAgain.j0 kq t342 t356 t358 t359 x52_6 t343 t344 t345 t346 t347 t348 t349 t350 t351 t352 t353 = some r) ∧ Aside0 (kq ≤ k) ∧ Aside0 (wc.heap[gb355]? = some (.cells #[.int .i64 t343, .int .i64 t344, .int .i64 t345, .int .i64 t346, .bool t347, .int .u64 t348, .int .u64 t349, .bool t350, .int .u64 t351, .int .u64 t352, .string t353] 26 (0, 0))) ∧ Aside0 (Below w.heap.size w wc))
  case first =>
   have H := HC7.out
   clear HC7
   by_cases c14 : t357 = 0
   ·
    rw [if_pos c14] at H
    have c14b0 : (t357 == 0) = true := beq_iff_eq.mpr c14
    have c14b1 : (t357 != 0) = false := bne_eq_false_iff_eq.mpr c14
    clear c14
    (first | rw [c14b0] | (simp only [i64_w, i32_w]; rw [c14b0]) | skip)
    by_cases c15 : (t356.size : Int) > (a0.size : Int)
    ·
     rw [if_pos c15] at H
     have c15b0 : decide ((a0.size : Int) < (t356.size : Int)) = true := decide_eq_true c15
     have c15b1 : decide (a0.size < t356.size) = true := decide_eq_true (Int.ofNat_lt.mp c15)
     clear c15
     have H' := Aside0.mk H
     clear H
     go_wp2
     go_meet
     case rel => exact ⟨_, (true), (by first | rfl | (simp; done) | (simp [*]; done)), H', ⟨by first | omega | exact Nat.le_refl _⟩, ⟨by (with_reducible repeat (first | refine blk_drewN ?_ _ | refine blk_drew ?_ | refine blk_alloc ?_ _)); exact BK355.out⟩, ⟨by repeat (first | (with_reducible first | exact HB.out | apply below_alloc | apply pw_below_drewN | apply below_drew1 | refine below_set ?_ GE355.out) | exact HB.out)⟩⟩
    ·
     rw [if_neg c15] at H
     have c15b0 : decide ((a0.size : Int) < (t356.size : Int)) = false := decide_eq_false c15
     have c15b1 : decide (a0.size < t356.size) = false := decide_eq_false (fun h => c15 (Int.ofNat_lt.mpr h))
     clear c15
     by_cases c16 : 0 ≤ (t356.size : Int)
     ·
      rw [if_pos c16] at H
      have c16b0 := eq_true c16
      have c16b1 : decide (0 ≤ (t356.size : Int)) = true := decide_eq_true c16
      clear c16
      by_cases c17 : (t356.size : Int) ≤ (a0.size : Int)
      ·
       rw [if_pos c17] at H
       have c17b0 := eq_true c17
       have c17b1 : decide ((t356.size : Int) ≤ (a0.size : Int)) = true := decide_eq_true c17
       clear c17
       have H' := Aside0.mk H
       clear H
       go_wp2
       go_meet
       case rel => exact ⟨_, (((a0.extract 0 ((t356.size : Int) : Int).toNat).toList != t356.toList)), (by first | rfl | (simp; done) | (simp [*]; done)), H', ⟨by first | omega | exact Nat.le_refl _⟩, ⟨by (with_reducible repeat (first | refine blk_drewN ?_ _ | refine blk_drew ?_ | refine blk_alloc ?_ _)); exact BK355.out⟩, ⟨by repeat (first | (with_reducible first | exact HB.out | apply below_alloc | apply pw_below_drewN | apply below_drew1 | refine below_set ?_ GE355.out) | exact HB.out)⟩⟩
      ·
       rw [if_neg c17] at H
       exact absurd H (by simp)
     ·
      rw [if_neg c16] at H
      exact absurd H (by simp)
   ·
    rw [if_neg c14] at H
    have c14b0 : (t357 == 0) = false := beq_eq_false_iff_ne.mpr c14
    have c14b1 : (t357 != 0) = true := bne_iff_ne.mpr c14
    (first | rw [c14b0] | (simp only [i64_w, i32_w]; rw [c14b0]) | skip)
    have H' := Aside0.mk H
    clear H
    go_wp2
    go_meet
    case rel => exact ⟨_, (true), (by first | rfl | (simp; done) | (simp [*]; done)), H', ⟨by first | omega | exact Nat.le_refl _⟩, ⟨by (with_reducible repeat (first | refine blk_drewN ?_ _ | refine blk_drew ?_ | refine blk_alloc ?_ _)); exact BK355.out⟩, ⟨by repeat (first | (with_reducible first | exact HB.out | apply below_alloc | apply pw_below_drewN | apply below_drew1 | refine below_set ?_ GE355.out) | exact HB.out)⟩⟩
  case rest =>
   clear HC7
   try clear c1
   try clear p2
   try clear c4
   try clear c4b0
   try clear c4b1
   try clear p6
   try clear c7
   try clear c9
   try clear c10
   try clear c12
   try clear c14
   try clear c14b0
   try clear c14b1
   try clear c15
   try clear c15b0
   try clear c15b1
   try clear c16
   try clear c16b0
   try clear c16b1
   try clear c17
   try clear c17b0
   try clear c17b1
   try clear hcz11_0
   try clear hcz11_1
   try clear hcz11_10
   try clear hcz11_2
   try clear hcz11_3
   try clear hcz11_4
   try clear hcz11_5
   try clear hcz11_6
   try clear hcz11_7
   try clear hcz11_8
   try clear hcz11_9
   try clear hfz11_0
   try clear hfz11_1
   try clear hfz11_10
   try clear hfz11_2
   try clear hfz11_3
   try clear hfz11_4
   try clear hfz11_5
   try clear hfz11_6
   try clear hfz11_7
   try clear hfz11_8
   try clear hfz11_9
   obtain ⟨kq, x52_6, rfl, HA, HJ6, BK355, HB⟩ := hcut
   cases kq with
   | zero => exact absurd HA.out (by simp [crosswaylaw07_SixAgain.j0])
   | succ kj6 =>
    have H := HA.out
    clear HA
    simp only [crosswaylaw07_SixAgain.j0] at H
    by_cases c18 : x52_6 = true
    ·
     subst c18
     have H1 : (some false) = some r := by rw [if_pos rfl] at H; exact H
     clear H
     have H := H1
     clear H1
     obtain rfl := Option.some.inj H
     go_wp2
     go_ret
     exact ⟨by first | rfl | (simp [errW_none, errW_some] <;> rfl) | (simp [*, errW_none, errW_some] <;> rfl), by repeat (first | (with_reducible first | exact HB.out | apply below_alloc | apply pw_below_drewN | apply below_drew1 | refine below_set ?_ GE355.out) | exact HB.out)⟩
    ·
     replace c18 := Bool.eq_false_iff.mpr c18
     subst c18
     have H1 : (if t346 < 2 then (if t342 = true then (if t358.toList = ([] : List UInt8) then (some (t359 == 63)) else (some false)) else (some false)) else ((ip6_Take.f kj6 t358).bind fun bt360 => (if t342 = true then (if t359 = 0 then (if bt360.2.2.2.2.2.2.2.2.2.2.2 = 0 then (if (bt360.1 == t343 && (bt360.2.1 == t344 && (bt360.2.2.1 == t345 && (bt360.2.2.2.1 == (wrap64 (t346 - 1)) && ((bt360.2.2.2.2.1 == t347 && (bt360.2.2.2.2.2.1 == t348 && (bt360.2.2.2.2.2.2.1 == t349))) && ((bt360.2.2.2.2.2.2.2.1 == t350 && (bt360.2.2.2.2.2.2.2.2.1 == t351 && (bt360.2.2.2.2.2.2.2.2.2.1 == t352))) && (bt360.2.2.2.2.2.2.2.2.2.2.1.toList == t353.toList))))))) = true then (some ((t358.size : Int) == (t356.size : Int))) else (some false)) else (some false)) else (some false)) else (some false)))) = some r := by rw [if_neg (show ¬ (false = true) by decide)] at H; exact H
     clear H
     have H := H1
     clear H1
     by_cases c19 : t346 < 2
     ·
      rw [if_pos c19] at H
      have c19b0 : decide (t346 < 2) = true := decide_eq_true c19
      clear c19
      by_cases c20 : t342 = true
      ·
       subst c20
       have H1 : (if t358.toList = ([] : List UInt8) then (some (t359 == 63)) else (some false)) = some r := by rw [if_pos rfl] at H; exact H
       clear H
       have H := H1
       clear H1
       by_cases c21 : t358.toList = ([] : List UInt8)
       ·
        rw [if_pos c21] at H
        have c21b0 : (t358.toList == ([] : List UInt8)) = true := beq_iff_eq.mpr c21
        have c21b1 : (t358.toList != ([] : List UInt8)) = false := bne_eq_false_iff_eq.mpr c21
        clear c21
        obtain rfl := Option.some.inj H
        have hcz22_0 : wc.cell? ⟨gb355, 0, none⟩ = some (.int .i64 t343) := (blk_cell BK355.out 0).trans rfl
        have hcz22_1 : wc.cell? ⟨gb355, 1, none⟩ = some (.int .i64 t344) := (blk_cell BK355.out 1).trans rfl
        have hcz22_2 : wc.cell? ⟨gb355, 2, none⟩ = some (.int .i64 t345) := (blk_cell BK355.out 2).trans rfl
        have hcz22_3 : wc.cell? ⟨gb355, 3, none⟩ = some (.int .i64 t346) := (blk_cell BK355.out 3).trans rfl
        have hcz22_4 : wc.cell? ⟨gb355, 4, none⟩ = some (.bool t347) := (blk_cell BK355.out 4).trans rfl
        have hcz22_5 : wc.cell? ⟨gb355, 5, none⟩ = some (.int .u64 t348) := (blk_cell BK355.out 5).trans rfl
        have hcz22_6 : wc.cell? ⟨gb355, 6, none⟩ = some (.int .u64 t349) := (blk_cell BK355.out 6).trans rfl
        have hcz22_7 : wc.cell? ⟨gb355, 7, none⟩ = some (.bool t350) := (blk_cell BK355.out 7).trans rfl
        have hcz22_8 : wc.cell? ⟨gb355, 8, none⟩ = some (.int .u64 t351) := (blk_cell BK355.out 8).trans rfl
        have hcz22_9 : wc.cell? ⟨gb355, 9, none⟩ = some (.int .u64 t352) := (blk_cell BK355.out 9).trans rfl
        have hcz22_10 : wc.cell? ⟨gb355, 10, none⟩ = some (.string t353) := (blk_cell BK355.out 10).trans rfl
        have hfz22_0 := blk_frozen BK355.out 0
        have hfz22_1 := blk_frozen BK355.out 1
        have hfz22_2 := blk_frozen BK355.out 2
        have hfz22_3 := blk_frozen BK355.out 3
        have hfz22_4 := blk_frozen BK355.out 4
        have hfz22_5 := blk_frozen BK355.out 5
        have hfz22_6 := blk_frozen BK355.out 6
        have hfz22_7 := blk_frozen BK355.out 7
        have hfz22_8 := blk_frozen BK355.out 8
        have hfz22_9 := blk_frozen BK355.out 9
        have hfz22_10 := blk_frozen BK355.out 10
        go_wp2
        go_ret
        exact ⟨by first | rfl | (simp [errW_none, errW_some] <;> rfl) | (simp [*, errW_none, errW_some] <;> rfl), by repeat (first | (with_reducible first | exact HB.out | apply below_alloc | apply pw_below_drewN | apply below_drew1 | refine below_set ?_ GE355.out) | exact HB.out)⟩
       ·
        rw [if_neg c21] at H
        have c21b0 : (t358.toList == ([] : List UInt8)) = false := beq_eq_false_iff_ne.mpr c21
        have c21b1 : (t358.toList != ([] : List UInt8)) = true := bne_iff_ne.mpr c21
        obtain rfl := Option.some.inj H
        have hcz23_0 : wc.cell? ⟨gb355, 0, none⟩ = some (.int .i64 t343) := (blk_cell BK355.out 0).trans rfl
        have hcz23_1 : wc.cell? ⟨gb355, 1, none⟩ = some (.int .i64 t344) := (blk_cell BK355.out 1).trans rfl
        have hcz23_2 : wc.cell? ⟨gb355, 2, none⟩ = some (.int .i64 t345) := (blk_cell BK355.out 2).trans rfl
        have hcz23_3 : wc.cell? ⟨gb355, 3, none⟩ = some (.int .i64 t346) := (blk_cell BK355.out 3).trans rfl
        have hcz23_4 : wc.cell? ⟨gb355, 4, none⟩ = some (.bool t347) := (blk_cell BK355.out 4).trans rfl
        have hcz23_5 : wc.cell? ⟨gb355, 5, none⟩ = some (.int .u64 t348) := (blk_cell BK355.out 5).trans rfl
        have hcz23_6 : wc.cell? ⟨gb355, 6, none⟩ = some (.int .u64 t349) := (blk_cell BK355.out 6).trans rfl
        have hcz23_7 : wc.cell? ⟨gb355, 7, none⟩ = some (.bool t350) := (blk_cell BK355.out 7).trans rfl
        have hcz23_8 : wc.cell? ⟨gb355, 8, none⟩ = some (.int .u64 t351) := (blk_cell BK355.out 8).trans rfl
        have hcz23_9 : wc.cell? ⟨gb355, 9, none⟩ = some (.int .u64 t352) := (blk_cell BK355.out 9).trans rfl
        have hcz23_10 : wc.cell? ⟨gb355, 10, none⟩ = some (.string t353) := (blk_cell BK355.out 10).trans rfl
        have hfz23_0 := blk_frozen BK355.out 0
        have hfz23_1 := blk_frozen BK355.out 1
        have hfz23_2 := blk_frozen BK355.out 2
        have hfz23_3 := blk_frozen BK355.out 3
        have hfz23_4 := blk_frozen BK355.out 4
        have hfz23_5 := blk_frozen BK355.out 5
        have hfz23_6 := blk_frozen BK355.out 6
        have hfz23_7 := blk_frozen BK355.out 7
        have hfz23_8 := blk_frozen BK355.out 8
        have hfz23_9 := blk_frozen BK355.out 9
        have hfz23_10 := blk_frozen BK355.out 10
        go_wp2
        go_ret
        exact ⟨by first | rfl | (simp [errW_none, errW_some] <;> rfl) | (simp [*, errW_none, errW_some] <;> rfl), by repeat (first | (with_reducible first | exact HB.out | apply below_alloc | apply pw_below_drewN | apply below_drew1 | refine below_set ?_ GE355.out) | exact HB.out)⟩
      ·
       replace c20 := Bool.eq_false_iff.mpr c20
       subst c20
       have H1 : (some false) = some r := by rw [if_neg (show ¬ (false = true) by decide)] at H; exact H
       clear H
       have H := H1
       clear H1
       obtain rfl := Option.some.inj H
       have hcz24_0 : wc.cell? ⟨gb355, 0, none⟩ = some (.int .i64 t343) := (blk_cell BK355.out 0).trans rfl
       have hcz24_1 : wc.cell? ⟨gb355, 1, none⟩ = some (.int .i64 t344) := (blk_cell BK355.out 1).trans rfl
       have hcz24_2 : wc.cell? ⟨gb355, 2, none⟩ = some (.int .i64 t345) := (blk_cell BK355.out 2).trans rfl
       have hcz24_3 : wc.cell? ⟨gb355, 3, none⟩ = some (.int .i64 t346) := (blk_cell BK355.out 3).trans rfl
       have hcz24_4 : wc.cell? ⟨gb355, 4, none⟩ = some (.bool t347) := (blk_cell BK355.out 4).trans rfl
       have hcz24_5 : wc.cell? ⟨gb355, 5, none⟩ = some (.int .u64 t348) := (blk_cell BK355.out 5).trans rfl
       have hcz24_6 : wc.cell? ⟨gb355, 6, none⟩ = some (.int .u64 t349) := (blk_cell BK355.out 6).trans rfl
       have hcz24_7 : wc.cell? ⟨gb355, 7, none⟩ = some (.bool t350) := (blk_cell BK355.out 7).trans rfl
       have hcz24_8 : wc.cell? ⟨gb355, 8, none⟩ = some (.int .u64 t351) := (blk_cell BK355.out 8).trans rfl
       have hcz24_9 : wc.cell? ⟨gb355, 9, none⟩ = some (.int .u64 t352) := (blk_cell BK355.out 9).trans rfl
       have hcz24_10 : wc.cell? ⟨gb355, 10, none⟩ = some (.string t353) := (blk_cell BK355.out 10).trans rfl
       have hfz24_0 := blk_frozen BK355.out 0
       have hfz24_1 := blk_frozen BK355.out 1
       have hfz24_2 := blk_frozen BK355.out 2
       have hfz24_3 := blk_frozen BK355.out 3
       have hfz24_4 := blk_frozen BK355.out 4
       have hfz24_5 := blk_frozen BK355.out 5
       have hfz24_6 := blk_frozen BK355.out 6
       have hfz24_7 := blk_frozen BK355.out 7
       have hfz24_8 := blk_frozen BK355.out 8
       have hfz24_9 := blk_frozen BK355.out 9
       have hfz24_10 := blk_frozen BK355.out 10
       go_wp2
       go_ret
       exact ⟨by first | rfl | (simp [errW_none, errW_some] <;> rfl) | (simp [*, errW_none, errW_some] <;> rfl), by repeat (first | (with_reducible first | exact HB.out | apply below_alloc | apply pw_below_drewN | apply below_drew1 | refine below_set ?_ GE355.out) | exact HB.out)⟩
     ·
      rw [if_neg c19] at H
      have c19b0 : decide (t346 < 2) = false := decide_eq_false c19
      clear c19
      replace H := Option.bind_eq_some_iff.mp H
      obtain ⟨⟨t360, t361, t362, t363, t364, t365, t366, t367, t368, t369, t370, t371⟩, A250, H⟩ := H
      replace H : (if t342 = true then (if t359 = 0 then (if t371 = 0 then (if (t360 == t343 && (t361 == t344 && (t362 == t345 && (t363 == (wrap64 (t346 - 1)) && ((t364 == t347 && (t365 == t348 && (t366 == t349))) && ((t367 == t350 && (t368 == t351 && (t369 == t352))) && (t370.toList == t353.toList))))))) = true then (some ((t358.size : Int) == (t356.size : Int))) else (some false)) else (some false)) else (some false)) else (some false)) = some r := H
      have A25 := Aside0.mk A250
      clear A250
      by_cases c26 : t342 = true
      ·
       subst c26
       have H1 : (if t359 = 0 then (if t371 = 0 then (if (t360 == t343 && (t361 == t344 && (t362 == t345 && (t363 == (wrap64 (t346 - 1)) && ((t364 == t347 && (t365 == t348 && (t366 == t349))) && ((t367 == t350 && (t368 == t351 && (t369 == t352))) && (t370.toList == t353.toList))))))) = true then (some ((t358.size : Int) == (t356.size : Int))) else (some false)) else (some false)) else (some false)) = some r := by rw [if_pos rfl] at H; exact H
       clear H
       have H := H1
       clear H1
       by_cases c27 : t359 = 0
       ·
        rw [if_pos c27] at H
        have c27b0 : (t359 == 0) = true := beq_iff_eq.mpr c27
        have c27b1 : (t359 != 0) = false := bne_eq_false_iff_eq.mpr c27
        clear c27
        by_cases c28 : t371 = 0
        ·
         rw [if_pos c28] at H
         have c28b0 : (t371 == 0) = true := beq_iff_eq.mpr c28
         have c28b1 : (t371 != 0) = false := bne_eq_false_iff_eq.mpr c28
         clear c28
         by_cases c29 : (t360 == t343 && (t361 == t344 && (t362 == t345 && (t363 == (wrap64 (t346 - 1)) && ((t364 == t347 && (t365 == t348 && (t366 == t349))) && ((t367 == t350 && (t368 == t351 && (t369 == t352))) && (t370.toList == t353.toList))))))) = true
         ·
          rw [if_pos c29] at H
          have c29b0 : (t360 == t343 && (t361 == t344 && (t362 == t345 && (t363 == (wrap64 (t346 - 1)) && ((t364 == t347 && (t365 == t348 && (t366 == t349))) && ((t367 == t350 && (t368 == t351 && (t369 == t352))) && (t370.toList == t353.toList))))))) = true := c29
          (try (have c29b1 : decide (t360 = t343 && (t361 == t344 && (t362 == t345 && (t363 == (wrap64 (t346 - 1)) && ((t364 == t347 && (t365 == t348 && (t366 == t349))) && ((t367 == t350 && (t368 == t351 && (t369 == t352))) && (t370.toList == t353.toList))))))) = true := by simpa using c29))
          (try (have c29b2 : (t360 == t343 && (t361 == t344 && (t362 == t345 && (t363 == (wrap64 (t346 - 1)) && ((t364 == t347 && (t365 == t348 && (t366 == t349))) && ((t367 == t350 && (t368 == t351 && (t369 == t352))) && (t370.toList == t353.toList))))))) = true := by simpa using c29))
          clear c29
          obtain rfl := Option.some.inj H
          have hcz30_0 : wc.cell? ⟨gb355, 0, none⟩ = some (.int .i64 t343) := (blk_cell BK355.out 0).trans rfl
          have hcz30_1 : wc.cell? ⟨gb355, 1, none⟩ = some (.int .i64 t344) := (blk_cell BK355.out 1).trans rfl
          have hcz30_2 : wc.cell? ⟨gb355, 2, none⟩ = some (.int .i64 t345) := (blk_cell BK355.out 2).trans rfl
          have hcz30_3 : wc.cell? ⟨gb355, 3, none⟩ = some (.int .i64 t346) := (blk_cell BK355.out 3).trans rfl
          have hcz30_4 : wc.cell? ⟨gb355, 4, none⟩ = some (.bool t347) := (blk_cell BK355.out 4).trans rfl
          have hcz30_5 : wc.cell? ⟨gb355, 5, none⟩ = some (.int .u64 t348) := (blk_cell BK355.out 5).trans rfl
          have hcz30_6 : wc.cell? ⟨gb355, 6, none⟩ = some (.int .u64 t349) := (blk_cell BK355.out 6).trans rfl
          have hcz30_7 : wc.cell? ⟨gb355, 7, none⟩ = some (.bool t350) := (blk_cell BK355.out 7).trans rfl
          have hcz30_8 : wc.cell? ⟨gb355, 8, none⟩ = some (.int .u64 t351) := (blk_cell BK355.out 8).trans rfl
          have hcz30_9 : wc.cell? ⟨gb355, 9, none⟩ = some (.int .u64 t352) := (blk_cell BK355.out 9).trans rfl
          have hcz30_10 : wc.cell? ⟨gb355, 10, none⟩ = some (.string t353) := (blk_cell BK355.out 10).trans rfl
          have hfz30_0 := blk_frozen BK355.out 0
          have hfz30_1 := blk_frozen BK355.out 1
          have hfz30_2 := blk_frozen BK355.out 2
          have hfz30_3 := blk_frozen BK355.out 3
          have hfz30_4 := blk_frozen BK355.out 4
          have hfz30_5 := blk_frozen BK355.out 5
          have hfz30_6 := blk_frozen BK355.out 6
          have hfz30_7 := blk_frozen BK355.out 7
          have hfz30_8 := blk_frozen BK355.out 8
          have hfz30_9 := blk_frozen BK355.out 9
          have hfz30_10 := blk_frozen BK355.out 10
          go_wp2_with (first | ((with_reducible refine gate_callee (f := 12) rfl ?_); refine goesL_ (some 67) rfl rfl Try.func12 (by kernel_rfl) rfl #[.string t358] rfl (by (try simp only [List.map_toArray, List.map_cons, List.map_nil]); first | done | rfl | (simp only [List.length_drop, List.length_take]; rfl)) ?_; (with_reducible refine (ip6_Take.calls kj6 t358 t360 t361 t362 t363 t364 t365 t366 t367 t368 t369 t370 t371 _ A25.out).mono ?_); rintro e w31 ⟨rfl, hb⟩; refine ⟨_, rfl, ?_⟩; have n0_ := Aside0.mk (blk_below (g := gb355) (o := .cells #[.int .i64 t343, .int .i64 t344, .int .i64 t345, .int .i64 t346, .bool t347, .int .u64 t348, .int .u64 t349, .bool t350, .int .u64 t351, .int .u64 t352, .string t353] 26 (0, 0)) (by (with_reducible repeat (first | refine blk_drewN ?_ _ | refine blk_drew ?_ | refine blk_alloc ?_ _)); exact BK355.out) hb); have n1_ := Aside0.mk (below_step (by repeat (first | (with_reducible first | exact HB.out | apply below_alloc | apply pw_below_drewN | apply below_drew1 | refine below_set ?_ GE355.out) | exact HB.out)) hb); clear BK355; clear HB; have BK355 := n0_; have HB := n1_; clear n0_ n1_; (try clear hb); (try clear hb2); (try clear hk); (try clear hi)) | ((with_reducible refine gate_dst (N := 10) rfl ?_); (try (refine gate_guard (by rfl) ?_; dsimp only)); refine box_event ?hg (N := 10) ?hd (cs := #[.int .i64 0, .int .i64 0, .int .i64 0, .int .i64 0, .bool false, .int .u64 0, .int .u64 0, .bool false, .int .u64 0, .int .u64 0, .string (⟨#[]⟩ : ByteArray)]) (t := 26) ?hr ?_; (case hd => rfl); (case hg => rfl); (case hr => first | (go_simp; done) | (go_simp; rfl)); intro gb372 hg w32 hbox hb; have n0_ := Aside0.mk (blk_below (g := gb355) (o := .cells #[.int .i64 t343, .int .i64 t344, .int .i64 t345, .int .i64 t346, .bool t347, .int .u64 t348, .int .u64 t349, .bool t350, .int .u64 t351, .int .u64 t352, .string t353] 26 (0, 0)) (by (with_reducible repeat (first | refine blk_drewN ?_ _ | refine blk_drew ?_ | refine blk_alloc ?_ _)); exact BK355.out) hb); have n1_ := Aside0.mk (below_step (by repeat (first | (with_reducible first | exact HB.out | apply below_alloc | apply pw_below_drewN | apply below_drew1 | refine below_set ?_ GE355.out) | exact HB.out)) hb); have n2_ := Aside0.mk (hbox); have n3_ := Aside0.mk ((by rw [hg]; exact (below_size (by repeat (first | (with_reducible first | exact HB.out | apply below_alloc | apply pw_below_drewN | apply below_drew1 | refine below_set ?_ GE355.out) | exact HB.out))) : w.heap.size ≤ gb372)); have n4_ := Aside0.mk ((by rw [hg]; exact (below_size (by repeat (first | (with_reducible first | exact HB.out | apply below_alloc | apply pw_below_drewN | apply below_drew1 | refine below_set ?_ GE355.out) | exact HB.out))) : w.heap.size ≤ gb372)); have n5_ := Aside0.mk ((by rw [hg]; exact Nat.ne_of_lt (blk_lt (g := gb355) (o := .cells #[.int .i64 t343, .int .i64 t344, .int .i64 t345, .int .i64 t346, .bool t347, .int .u64 t348, .int .u64 t349, .bool t350, .int .u64 t351, .int .u64 t352, .string t353] 26 (0, 0)) (by (with_reducible repeat (first | refine blk_drewN ?_ _ | refine blk_drew ?_ | refine blk_alloc ?_ _)); exact BK355.out)) : gb355 ≠ gb372)); have n6_ := Aside0.mk ((by rw [hg]; exact Nat.ne_of_gt (blk_lt (g := gb355) (o := .cells #[.int .i64 t343, .int .i64 t344, .int .i64 t345, .int .i64 t346, .bool t347, .int .u64 t348, .int .u64 t349, .bool t350, .int .u64 t351, .int .u64 t352, .string t353] 26 (0, 0)) (by (with_reducible repeat (first | refine blk_drewN ?_ _ | refine blk_drew ?_ | refine blk_alloc ?_ _)); exact BK355.out)) : gb372 ≠ gb355)); clear BK355; clear HB; have BK355 := n0_; have HB := n1_; have BK372 := n2_; have GW372 := n3_; have GE372 := n4_; have NB355_372 := n5_; have NB372_355 := n6_; clear n0_ n1_ n2_ n3_ n4_ n5_ n6_; clear hb hbox hg; have hnb33 := NB372_355.out; have hnc33 := NB355_372.out; have hcz34_0 : w32.cell? ⟨gb372, 0, none⟩ = some (.int .i64 0) := (blk_cell BK372.out 0).trans rfl; have hcz34_1 : w32.cell? ⟨gb372, 1, none⟩ = some (.int .i64 0) := (blk_cell BK372.out 1).trans rfl; have hcz34_2 : w32.cell? ⟨gb372, 2, none⟩ = some (.int .i64 0) := (blk_cell BK372.out 2).trans rfl; have hcz34_3 : w32.cell? ⟨gb372, 3, none⟩ = some (.int .i64 0) := (blk_cell BK372.out 3).trans rfl; have hcz34_4 : w32.cell? ⟨gb372, 4, none⟩ = some (.bool false) := (blk_cell BK372.out 4).trans rfl; have hcz34_5 : w32.cell? ⟨gb372, 5, none⟩ = some (.int .u64 0) := (blk_cell BK372.out 5).trans rfl; have hcz34_6 : w32.cell? ⟨gb372, 6, none⟩ = some (.int .u64 0) := (blk_cell BK372.out 6).trans rfl; have hcz34_7 : w32.cell? ⟨gb372, 7, none⟩ = some (.bool false) := (blk_cell BK372.out 7).trans rfl; have hcz34_8 : w32.cell? ⟨gb372, 8, none⟩ = some (.int .u64 0) := (blk_cell BK372.out 8).trans rfl; have hcz34_9 : w32.cell? ⟨gb372, 9, none⟩ = some (.int .u64 0) := (blk_cell BK372.out 9).trans rfl; have hcz34_10 : w32.cell? ⟨gb372, 10, none⟩ = some (.string (⟨#[]⟩ : ByteArray)) := (blk_cell BK372.out 10).trans rfl; have hfz34_0 := blk_frozen BK372.out 0; have hfz34_1 := blk_frozen BK372.out 1; have hfz34_2 := blk_frozen BK372.out 2; have hfz34_3 := blk_frozen BK372.out 3; have hfz34_4 := blk_frozen BK372.out 4; have hfz34_5 := blk_frozen BK372.out 5; have hfz34_6 := blk_frozen BK372.out 6; have hfz34_7 := blk_frozen BK372.out 7; have hfz34_8 := blk_frozen BK372.out 8; have hfz34_9 := blk_frozen BK372.out 9; have hfz34_10 := blk_frozen BK372.out 10; have hcz35_0 : w32.cell? ⟨gb355, 0, none⟩ = some (.int .i64 t343) := (blk_cell BK355.out 0).trans rfl; have hcz35_1 : w32.cell? ⟨gb355, 1, none⟩ = some (.int .i64 t344) := (blk_cell BK355.out 1).trans rfl; have hcz35_2 : w32.cell? ⟨gb355, 2, none⟩ = some (.int .i64 t345) := (blk_cell BK355.out 2).trans rfl; have hcz35_3 : w32.cell? ⟨gb355, 3, none⟩ = some (.int .i64 t346) := (blk_cell BK355.out 3).trans rfl; have hcz35_4 : w32.cell? ⟨gb355, 4, none⟩ = some (.bool t347) := (blk_cell BK355.out 4).trans rfl; have hcz35_5 : w32.cell? ⟨gb355, 5, none⟩ = some (.int .u64 t348) := (blk_cell BK355.out 5).trans rfl; have hcz35_6 : w32.cell? ⟨gb355, 6, none⟩ = some (.int .u64 t349) := (blk_cell BK355.out 6).trans rfl; have hcz35_7 : w32.cell? ⟨gb355, 7, none⟩ = some (.bool t350) := (blk_cell BK355.out 7).trans rfl; have hcz35_8 : w32.cell? ⟨gb355, 8, none⟩ = some (.int .u64 t351) := (blk_cell BK355.out 8).trans rfl; have hcz35_9 : w32.cell? ⟨gb355, 9, none⟩ = some (.int .u64 t352) := (blk_cell BK355.out 9).trans rfl; have hcz35_10 : w32.cell? ⟨gb355, 10, none⟩ = some (.string t353) := (blk_cell BK355.out 10).trans rfl; have hfz35_0 := blk_frozen BK355.out 0; have hfz35_1 := blk_frozen BK355.out 1; have hfz35_2 := blk_frozen BK355.out 2; have hfz35_3 := blk_frozen BK355.out 3; have hfz35_4 := blk_frozen BK355.out 4; have hfz35_5 := blk_frozen BK355.out 5; have hfz35_6 := blk_frozen BK355.out 6; have hfz35_7 := blk_frozen BK355.out 7; have hfz35_8 := blk_frozen BK355.out 8; have hfz35_9 := blk_frozen BK355.out 9; have hfz35_10 := blk_frozen BK355.out 10))
          go_ret
          exact ⟨by first | rfl | (simp [errW_none, errW_some] <;> rfl) | (simp [*, errW_none, errW_some] <;> rfl), by repeat (first | (with_reducible first | exact HB.out | apply below_alloc | apply pw_below_drewN | apply below_drew1 | refine below_set ?_ GE355.out | refine below_set ?_ GE372.out) | exact HB.out)⟩
         ·
          rw [if_neg c29] at H
          have c29b0 : (t360 == t343 && (t361 == t344 && (t362 == t345 && (t363 == (wrap64 (t346 - 1)) && ((t364 == t347 && (t365 == t348 && (t366 == t349))) && ((t367 == t350 && (t368 == t351 && (t369 == t352))) && (t370.toList == t353.toList))))))) = false := by simpa using c29
          (try (have c29b1 : decide (t360 = t343 && (t361 == t344 && (t362 == t345 && (t363 == (wrap64 (t346 - 1)) && ((t364 == t347 && (t365 == t348 && (t366 == t349))) && ((t367 == t350 && (t368 == t351 && (t369 == t352))) && (t370.toList == t353.toList))))))) = false := by simpa using c29))
          (try (have c29b2 : (t360 == t343 && (t361 == t344 && (t362 == t345 && (t363 == (wrap64 (t346 - 1)) && ((t364 == t347 && (t365 == t348 && (t366 == t349))) && ((t367 == t350 && (t368 == t351 && (t369 == t352))) && (t370.toList == t353.toList))))))) = false := by simpa using c29))
          (try (have c29b3 : ¬ (t360 = t343 && (t361 == t344 && (t362 == t345 && (t363 == (wrap64 (t346 - 1)) && ((t364 == t347 && (t365 == t348 && (t366 == t349))) && ((t367 == t350 && (t368 == t351 && (t369 == t352))) && (t370.toList == t353.toList))))))) := by simpa using c29))
          clear c29
          obtain rfl := Option.some.inj H
          have hcz36_0 : wc.cell? ⟨gb355, 0, none⟩ = some (.int .i64 t343) := (blk_cell BK355.out 0).trans rfl
          have hcz36_1 : wc.cell? ⟨gb355, 1, none⟩ = some (.int .i64 t344) := (blk_cell BK355.out 1).trans rfl
          have hcz36_2 : wc.cell? ⟨gb355, 2, none⟩ = some (.int .i64 t345) := (blk_cell BK355.out 2).trans rfl
          have hcz36_3 : wc.cell? ⟨gb355, 3, none⟩ = some (.int .i64 t346) := (blk_cell BK355.out 3).trans rfl
          have hcz36_4 : wc.cell? ⟨gb355, 4, none⟩ = some (.bool t347) := (blk_cell BK355.out 4).trans rfl
          have hcz36_5 : wc.cell? ⟨gb355, 5, none⟩ = some (.int .u64 t348) := (blk_cell BK355.out 5).trans rfl
          have hcz36_6 : wc.cell? ⟨gb355, 6, none⟩ = some (.int .u64 t349) := (blk_cell BK355.out 6).trans rfl
          have hcz36_7 : wc.cell? ⟨gb355, 7, none⟩ = some (.bool t350) := (blk_cell BK355.out 7).trans rfl
          have hcz36_8 : wc.cell? ⟨gb355, 8, none⟩ = some (.int .u64 t351) := (blk_cell BK355.out 8).trans rfl
          have hcz36_9 : wc.cell? ⟨gb355, 9, none⟩ = some (.int .u64 t352) := (blk_cell BK355.out 9).trans rfl
          have hcz36_10 : wc.cell? ⟨gb355, 10, none⟩ = some (.string t353) := (blk_cell BK355.out 10).trans rfl
          have hfz36_0 := blk_frozen BK355.out 0
          have hfz36_1 := blk_frozen BK355.out 1
          have hfz36_2 := blk_frozen BK355.out 2
          have hfz36_3 := blk_frozen BK355.out 3
          have hfz36_4 := blk_frozen BK355.out 4
          have hfz36_5 := blk_frozen BK355.out 5
          have hfz36_6 := blk_frozen BK355.out 6
          have hfz36_7 := blk_frozen BK355.out 7
          have hfz36_8 := blk_frozen BK355.out 8
          have hfz36_9 := blk_frozen BK355.out 9
          have hfz36_10 := blk_frozen BK355.out 10
          go_wp2_with (first | ((with_reducible refine gate_callee (f := 12) rfl ?_); refine goesL_ (some 67) rfl rfl Try.func12 (by kernel_rfl) rfl #[.string t358] rfl (by (try simp only [List.map_toArray, List.map_cons, List.map_nil]); first | done | rfl | (simp only [List.length_drop, List.length_take]; rfl)) ?_; (with_reducible refine (ip6_Take.calls kj6 t358 t360 t361 t362 t363 t364 t365 t366 t367 t368 t369 t370 t371 _ A25.out).mono ?_); rintro e w37 ⟨rfl, hb⟩; refine ⟨_, rfl, ?_⟩; have n0_ := Aside0.mk (blk_below (g := gb355) (o := .cells #[.int .i64 t343, .int .i64 t344, .int .i64 t345, .int .i64 t346, .bool t347, .int .u64 t348, .int .u64 t349, .bool t350, .int .u64 t351, .int .u64 t352, .string t353] 26 (0, 0)) (by (with_reducible repeat (first | refine blk_drewN ?_ _ | refine blk_drew ?_ | refine blk_alloc ?_ _)); exact BK355.out) hb); have n1_ := Aside0.mk (below_step (by repeat (first | (with_reducible first | exact HB.out | apply below_alloc | apply pw_below_drewN | apply below_drew1 | refine below_set ?_ GE355.out) | exact HB.out)) hb); clear BK355; clear HB; have BK355 := n0_; have HB := n1_; clear n0_ n1_; (try clear hb); (try clear hb2); (try clear hk); (try clear hi)) | ((with_reducible refine gate_dst (N := 10) rfl ?_); (try (refine gate_guard (by rfl) ?_; dsimp only)); refine box_event ?hg (N := 10) ?hd (cs := #[.int .i64 0, .int .i64 0, .int .i64 0, .int .i64 0, .bool false, .int .u64 0, .int .u64 0, .bool false, .int .u64 0, .int .u64 0, .string (⟨#[]⟩ : ByteArray)]) (t := 26) ?hr ?_; (case hd => rfl); (case hg => rfl); (case hr => first | (go_simp; done) | (go_simp; rfl)); intro gb372 hg w38 hbox hb; have n0_ := Aside0.mk (blk_below (g := gb355) (o := .cells #[.int .i64 t343, .int .i64 t344, .int .i64 t345, .int .i64 t346, .bool t347, .int .u64 t348, .int .u64 t349, .bool t350, .int .u64 t351, .int .u64 t352, .string t353] 26 (0, 0)) (by (with_reducible repeat (first | refine blk_drewN ?_ _ | refine blk_drew ?_ | refine blk_alloc ?_ _)); exact BK355.out) hb); have n1_ := Aside0.mk (below_step (by repeat (first | (with_reducible first | exact HB.out | apply below_alloc | apply pw_below_drewN | apply below_drew1 | refine below_set ?_ GE355.out) | exact HB.out)) hb); have n2_ := Aside0.mk (hbox); have n3_ := Aside0.mk ((by rw [hg]; exact (below_size (by repeat (first | (with_reducible first | exact HB.out | apply below_alloc | apply pw_below_drewN | apply below_drew1 | refine below_set ?_ GE355.out) | exact HB.out))) : w.heap.size ≤ gb372)); have n4_ := Aside0.mk ((by rw [hg]; exact (below_size (by repeat (first | (with_reducible first | exact HB.out | apply below_alloc | apply pw_below_drewN | apply below_drew1 | refine below_set ?_ GE355.out) | exact HB.out))) : w.heap.size ≤ gb372)); have n5_ := Aside0.mk ((by rw [hg]; exact Nat.ne_of_lt (blk_lt (g := gb355) (o := .cells #[.int .i64 t343, .int .i64 t344, .int .i64 t345, .int .i64 t346, .bool t347, .int .u64 t348, .int .u64 t349, .bool t350, .int .u64 t351, .int .u64 t352, .string t353] 26 (0, 0)) (by (with_reducible repeat (first | refine blk_drewN ?_ _ | refine blk_drew ?_ | refine blk_alloc ?_ _)); exact BK355.out)) : gb355 ≠ gb372)); have n6_ := Aside0.mk ((by rw [hg]; exact Nat.ne_of_gt (blk_lt (g := gb355) (o := .cells #[.int .i64 t343, .int .i64 t344, .int .i64 t345, .int .i64 t346, .bool t347, .int .u64 t348, .int .u64 t349, .bool t350, .int .u64 t351, .int .u64 t352, .string t353] 26 (0, 0)) (by (with_reducible repeat (first | refine blk_drewN ?_ _ | refine blk_drew ?_ | refine blk_alloc ?_ _)); exact BK355.out)) : gb372 ≠ gb355)); clear BK355; clear HB; have BK355 := n0_; have HB := n1_; have BK372 := n2_; have GW372 := n3_; have GE372 := n4_; have NB355_372 := n5_; have NB372_355 := n6_; clear n0_ n1_ n2_ n3_ n4_ n5_ n6_; clear hb hbox hg; have hnb39 := NB372_355.out; have hnc39 := NB355_372.out; have hcz40_0 : w38.cell? ⟨gb372, 0, none⟩ = some (.int .i64 0) := (blk_cell BK372.out 0).trans rfl; have hcz40_1 : w38.cell? ⟨gb372, 1, none⟩ = some (.int .i64 0) := (blk_cell BK372.out 1).trans rfl; have hcz40_2 : w38.cell? ⟨gb372, 2, none⟩ = some (.int .i64 0) := (blk_cell BK372.out 2).trans rfl; have hcz40_3 : w38.cell? ⟨gb372, 3, none⟩ = some (.int .i64 0) := (blk_cell BK372.out 3).trans rfl; have hcz40_4 : w38.cell? ⟨gb372, 4, none⟩ = some (.bool false) := (blk_cell BK372.out 4).trans rfl; have hcz40_5 : w38.cell? ⟨gb372, 5, none⟩ = some (.int .u64 0) := (blk_cell BK372.out 5).trans rfl; have hcz40_6 : w38.cell? ⟨gb372, 6, none⟩ = some (.int .u64 0) := (blk_cell BK372.out 6).trans rfl; have hcz40_7 : w38.cell? ⟨gb372, 7, none⟩ = some (.bool false) := (blk_cell BK372.out 7).trans rfl; have hcz40_8 : w38.cell? ⟨gb372, 8, none⟩ = some (.int .u64 0) := (blk_cell BK372.out 8).trans rfl; have hcz40_9 : w38.cell? ⟨gb372, 9, none⟩ = some (.int .u64 0) := (blk_cell BK372.out 9).trans rfl; have hcz40_10 : w38.cell? ⟨gb372, 10, none⟩ = some (.string (⟨#[]⟩ : ByteArray)) := (blk_cell BK372.out 10).trans rfl; have hfz40_0 := blk_frozen BK372.out 0; have hfz40_1 := blk_frozen BK372.out 1; have hfz40_2 := blk_frozen BK372.out 2; have hfz40_3 := blk_frozen BK372.out 3; have hfz40_4 := blk_frozen BK372.out 4; have hfz40_5 := blk_frozen BK372.out 5; have hfz40_6 := blk_frozen BK372.out 6; have hfz40_7 := blk_frozen BK372.out 7; have hfz40_8 := blk_frozen BK372.out 8; have hfz40_9 := blk_frozen BK372.out 9; have hfz40_10 := blk_frozen BK372.out 10; have hcz41_0 : w38.cell? ⟨gb355, 0, none⟩ = some (.int .i64 t343) := (blk_cell BK355.out 0).trans rfl; have hcz41_1 : w38.cell? ⟨gb355, 1, none⟩ = some (.int .i64 t344) := (blk_cell BK355.out 1).trans rfl; have hcz41_2 : w38.cell? ⟨gb355, 2, none⟩ = some (.int .i64 t345) := (blk_cell BK355.out 2).trans rfl; have hcz41_3 : w38.cell? ⟨gb355, 3, none⟩ = some (.int .i64 t346) := (blk_cell BK355.out 3).trans rfl; have hcz41_4 : w38.cell? ⟨gb355, 4, none⟩ = some (.bool t347) := (blk_cell BK355.out 4).trans rfl; have hcz41_5 : w38.cell? ⟨gb355, 5, none⟩ = some (.int .u64 t348) := (blk_cell BK355.out 5).trans rfl; have hcz41_6 : w38.cell? ⟨gb355, 6, none⟩ = some (.int .u64 t349) := (blk_cell BK355.out 6).trans rfl; have hcz41_7 : w38.cell? ⟨gb355, 7, none⟩ = some (.bool t350) := (blk_cell BK355.out 7).trans rfl; have hcz41_8 : w38.cell? ⟨gb355, 8, none⟩ = some (.int .u64 t351) := (blk_cell BK355.out 8).trans rfl; have hcz41_9 : w38.cell? ⟨gb355, 9, none⟩ = some (.int .u64 t352) := (blk_cell BK355.out 9).trans rfl; have hcz41_10 : w38.cell? ⟨gb355, 10, none⟩ = some (.string t353) := (blk_cell BK355.out 10).trans rfl; have hfz41_0 := blk_frozen BK355.out 0; have hfz41_1 := blk_frozen BK355.out 1; have hfz41_2 := blk_frozen BK355.out 2; have hfz41_3 := blk_frozen BK355.out 3; have hfz41_4 := blk_frozen BK355.out 4; have hfz41_5 := blk_frozen BK355.out 5; have hfz41_6 := blk_frozen BK355.out 6; have hfz41_7 := blk_frozen BK355.out 7; have hfz41_8 := blk_frozen BK355.out 8; have hfz41_9 := blk_frozen BK355.out 9; have hfz41_10 := blk_frozen BK355.out 10))
          go_ret
          exact ⟨by first | rfl | (simp [errW_none, errW_some] <;> rfl) | (simp [*, errW_none, errW_some] <;> rfl), by repeat (first | (with_reducible first | exact HB.out | apply below_alloc | apply pw_below_drewN | apply below_drew1 | refine below_set ?_ GE355.out | refine below_set ?_ GE372.out) | exact HB.out)⟩
        ·
         rw [if_neg c28] at H
         have c28b0 : (t371 == 0) = false := beq_eq_false_iff_ne.mpr c28
         have c28b1 : (t371 != 0) = true := bne_iff_ne.mpr c28
         obtain rfl := Option.some.inj H
         have hcz42_0 : wc.cell? ⟨gb355, 0, none⟩ = some (.int .i64 t343) := (blk_cell BK355.out 0).trans rfl
         have hcz42_1 : wc.cell? ⟨gb355, 1, none⟩ = some (.int .i64 t344) := (blk_cell BK355.out 1).trans rfl
         have hcz42_2 : wc.cell? ⟨gb355, 2, none⟩ = some (.int .i64 t345) := (blk_cell BK355.out 2).trans rfl
         have hcz42_3 : wc.cell? ⟨gb355, 3, none⟩ = some (.int .i64 t346) := (blk_cell BK355.out 3).trans rfl
         have hcz42_4 : wc.cell? ⟨gb355, 4, none⟩ = some (.bool t347) := (blk_cell BK355.out 4).trans rfl
         have hcz42_5 : wc.cell? ⟨gb355, 5, none⟩ = some (.int .u64 t348) := (blk_cell BK355.out 5).trans rfl
         have hcz42_6 : wc.cell? ⟨gb355, 6, none⟩ = some (.int .u64 t349) := (blk_cell BK355.out 6).trans rfl
         have hcz42_7 : wc.cell? ⟨gb355, 7, none⟩ = some (.bool t350) := (blk_cell BK355.out 7).trans rfl
         have hcz42_8 : wc.cell? ⟨gb355, 8, none⟩ = some (.int .u64 t351) := (blk_cell BK355.out 8).trans rfl
         have hcz42_9 : wc.cell? ⟨gb355, 9, none⟩ = some (.int .u64 t352) := (blk_cell BK355.out 9).trans rfl
         have hcz42_10 : wc.cell? ⟨gb355, 10, none⟩ = some (.string t353) := (blk_cell BK355.out 10).trans rfl
         have hfz42_0 := blk_frozen BK355.out 0
         have hfz42_1 := blk_frozen BK355.out 1
         have hfz42_2 := blk_frozen BK355.out 2
         have hfz42_3 := blk_frozen BK355.out 3
         have hfz42_4 := blk_frozen BK355.out 4
         have hfz42_5 := blk_frozen BK355.out 5
         have hfz42_6 := blk_frozen BK355.out 6
         have hfz42_7 := blk_frozen BK355.out 7
         have hfz42_8 := blk_frozen BK355.out 8
         have hfz42_9 := blk_frozen BK355.out 9
         have hfz42_10 := blk_frozen BK355.out 10
         go_wp2_with (first | ((with_reducible refine gate_callee (f := 12) rfl ?_); refine goesL_ (some 67) rfl rfl Try.func12 (by kernel_rfl) rfl #[.string t358] rfl (by (try simp only [List.map_toArray, List.map_cons, List.map_nil]); first | done | rfl | (simp only [List.length_drop, List.length_take]; rfl)) ?_; (with_reducible refine (ip6_Take.calls kj6 t358 t360 t361 t362 t363 t364 t365 t366 t367 t368 t369 t370 t371 _ A25.out).mono ?_); rintro e w43 ⟨rfl, hb⟩; refine ⟨_, rfl, ?_⟩; have n0_ := Aside0.mk (blk_below (g := gb355) (o := .cells #[.int .i64 t343, .int .i64 t344, .int .i64 t345, .int .i64 t346, .bool t347, .int .u64 t348, .int .u64 t349, .bool t350, .int .u64 t351, .int .u64 t352, .string t353] 26 (0, 0)) (by (with_reducible repeat (first | refine blk_drewN ?_ _ | refine blk_drew ?_ | refine blk_alloc ?_ _)); exact BK355.out) hb); have n1_ := Aside0.mk (below_step (by repeat (first | (with_reducible first | exact HB.out | apply below_alloc | apply pw_below_drewN | apply below_drew1 | refine below_set ?_ GE355.out) | exact HB.out)) hb); clear BK355; clear HB; have BK355 := n0_; have HB := n1_; clear n0_ n1_; (try clear hb); (try clear hb2); (try clear hk); (try clear hi)) | ((with_reducible refine gate_dst (N := 10) rfl ?_); (try (refine gate_guard (by rfl) ?_; dsimp only)); refine box_event ?hg (N := 10) ?hd (cs := #[.int .i64 0, .int .i64 0, .int .i64 0, .int .i64 0, .bool false, .int .u64 0, .int .u64 0, .bool false, .int .u64 0, .int .u64 0, .string (⟨#[]⟩ : ByteArray)]) (t := 26) ?hr ?_; (case hd => rfl); (case hg => rfl); (case hr => first | (go_simp; done) | (go_simp; rfl)); intro gb372 hg w44 hbox hb; have n0_ := Aside0.mk (blk_below (g := gb355) (o := .cells #[.int .i64 t343, .int .i64 t344, .int .i64 t345, .int .i64 t346, .bool t347, .int .u64 t348, .int .u64 t349, .bool t350, .int .u64 t351, .int .u64 t352, .string t353] 26 (0, 0)) (by (with_reducible repeat (first | refine blk_drewN ?_ _ | refine blk_drew ?_ | refine blk_alloc ?_ _)); exact BK355.out) hb); have n1_ := Aside0.mk (below_step (by repeat (first | (with_reducible first | exact HB.out | apply below_alloc | apply pw_below_drewN | apply below_drew1 | refine below_set ?_ GE355.out) | exact HB.out)) hb); have n2_ := Aside0.mk (hbox); have n3_ := Aside0.mk ((by rw [hg]; exact (below_size (by repeat (first | (with_reducible first | exact HB.out | apply below_alloc | apply pw_below_drewN | apply below_drew1 | refine below_set ?_ GE355.out) | exact HB.out))) : w.heap.size ≤ gb372)); have n4_ := Aside0.mk ((by rw [hg]; exact (below_size (by repeat (first | (with_reducible first | exact HB.out | apply below_alloc | apply pw_below_drewN | apply below_drew1 | refine below_set ?_ GE355.out) | exact HB.out))) : w.heap.size ≤ gb372)); have n5_ := Aside0.mk ((by rw [hg]; exact Nat.ne_of_lt (blk_lt (g := gb355) (o := .cells #[.int .i64 t343, .int .i64 t344, .int .i64 t345, .int .i64 t346, .bool t347, .int .u64 t348, .int .u64 t349, .bool t350, .int .u64 t351, .int .u64 t352, .string t353] 26 (0, 0)) (by (with_reducible repeat (first | refine blk_drewN ?_ _ | refine blk_drew ?_ | refine blk_alloc ?_ _)); exact BK355.out)) : gb355 ≠ gb372)); have n6_ := Aside0.mk ((by rw [hg]; exact Nat.ne_of_gt (blk_lt (g := gb355) (o := .cells #[.int .i64 t343, .int .i64 t344, .int .i64 t345, .int .i64 t346, .bool t347, .int .u64 t348, .int .u64 t349, .bool t350, .int .u64 t351, .int .u64 t352, .string t353] 26 (0, 0)) (by (with_reducible repeat (first | refine blk_drewN ?_ _ | refine blk_drew ?_ | refine blk_alloc ?_ _)); exact BK355.out)) : gb372 ≠ gb355)); clear BK355; clear HB; have BK355 := n0_; have HB := n1_; have BK372 := n2_; have GW372 := n3_; have GE372 := n4_; have NB355_372 := n5_; have NB372_355 := n6_; clear n0_ n1_ n2_ n3_ n4_ n5_ n6_; clear hb hbox hg; have hnb45 := NB372_355.out; have hnc45 := NB355_372.out; have hcz46_0 : w44.cell? ⟨gb372, 0, none⟩ = some (.int .i64 0) := (blk_cell BK372.out 0).trans rfl; have hcz46_1 : w44.cell? ⟨gb372, 1, none⟩ = some (.int .i64 0) := (blk_cell BK372.out 1).trans rfl; have hcz46_2 : w44.cell? ⟨gb372, 2, none⟩ = some (.int .i64 0) := (blk_cell BK372.out 2).trans rfl; have hcz46_3 : w44.cell? ⟨gb372, 3, none⟩ = some (.int .i64 0) := (blk_cell BK372.out 3).trans rfl; have hcz46_4 : w44.cell? ⟨gb372, 4, none⟩ = some (.bool false) := (blk_cell BK372.out 4).trans rfl; have hcz46_5 : w44.cell? ⟨gb372, 5, none⟩ = some (.int .u64 0) := (blk_cell BK372.out 5).trans rfl; have hcz46_6 : w44.cell? ⟨gb372, 6, none⟩ = some (.int .u64 0) := (blk_cell BK372.out 6).trans rfl; have hcz46_7 : w44.cell? ⟨gb372, 7, none⟩ = some (.bool false) := (blk_cell BK372.out 7).trans rfl; have hcz46_8 : w44.cell? ⟨gb372, 8, none⟩ = some (.int .u64 0) := (blk_cell BK372.out 8).trans rfl; have hcz46_9 : w44.cell? ⟨gb372, 9, none⟩ = some (.int .u64 0) := (blk_cell BK372.out 9).trans rfl; have hcz46_10 : w44.cell? ⟨gb372, 10, none⟩ = some (.string (⟨#[]⟩ : ByteArray)) := (blk_cell BK372.out 10).trans rfl; have hfz46_0 := blk_frozen BK372.out 0; have hfz46_1 := blk_frozen BK372.out 1; have hfz46_2 := blk_frozen BK372.out 2; have hfz46_3 := blk_frozen BK372.out 3; have hfz46_4 := blk_frozen BK372.out 4; have hfz46_5 := blk_frozen BK372.out 5; have hfz46_6 := blk_frozen BK372.out 6; have hfz46_7 := blk_frozen BK372.out 7; have hfz46_8 := blk_frozen BK372.out 8; have hfz46_9 := blk_frozen BK372.out 9; have hfz46_10 := blk_frozen BK372.out 10; have hcz47_0 : w44.cell? ⟨gb355, 0, none⟩ = some (.int .i64 t343) := (blk_cell BK355.out 0).trans rfl; have hcz47_1 : w44.cell? ⟨gb355, 1, none⟩ = some (.int .i64 t344) := (blk_cell BK355.out 1).trans rfl; have hcz47_2 : w44.cell? ⟨gb355, 2, none⟩ = some (.int .i64 t345) := (blk_cell BK355.out 2).trans rfl; have hcz47_3 : w44.cell? ⟨gb355, 3, none⟩ = some (.int .i64 t346) := (blk_cell BK355.out 3).trans rfl; have hcz47_4 : w44.cell? ⟨gb355, 4, none⟩ = some (.bool t347) := (blk_cell BK355.out 4).trans rfl; have hcz47_5 : w44.cell? ⟨gb355, 5, none⟩ = some (.int .u64 t348) := (blk_cell BK355.out 5).trans rfl; have hcz47_6 : w44.cell? ⟨gb355, 6, none⟩ = some (.int .u64 t349) := (blk_cell BK355.out 6).trans rfl; have hcz47_7 : w44.cell? ⟨gb355, 7, none⟩ = some (.bool t350) := (blk_cell BK355.out 7).trans rfl; have hcz47_8 : w44.cell? ⟨gb355, 8, none⟩ = some (.int .u64 t351) := (blk_cell BK355.out 8).trans rfl; have hcz47_9 : w44.cell? ⟨gb355, 9, none⟩ = some (.int .u64 t352) := (blk_cell BK355.out 9).trans rfl; have hcz47_10 : w44.cell? ⟨gb355, 10, none⟩ = some (.string t353) := (blk_cell BK355.out 10).trans rfl; have hfz47_0 := blk_frozen BK355.out 0; have hfz47_1 := blk_frozen BK355.out 1; have hfz47_2 := blk_frozen BK355.out 2; have hfz47_3 := blk_frozen BK355.out 3; have hfz47_4 := blk_frozen BK355.out 4; have hfz47_5 := blk_frozen BK355.out 5; have hfz47_6 := blk_frozen BK355.out 6; have hfz47_7 := blk_frozen BK355.out 7; have hfz47_8 := blk_frozen BK355.out 8; have hfz47_9 := blk_frozen BK355.out 9; have hfz47_10 := blk_frozen BK355.out 10))
         go_ret
         exact ⟨by first | rfl | (simp [errW_none, errW_some] <;> rfl) | (simp [*, errW_none, errW_some] <;> rfl), by repeat (first | (with_reducible first | exact HB.out | apply below_alloc | apply pw_below_drewN | apply below_drew1 | refine below_set ?_ GE355.out | refine below_set ?_ GE372.out) | exact HB.out)⟩
       ·
        rw [if_neg c27] at H
        have c27b0 : (t359 == 0) = false := beq_eq_false_iff_ne.mpr c27
        have c27b1 : (t359 != 0) = true := bne_iff_ne.mpr c27
        obtain rfl := Option.some.inj H
        have hcz48_0 : wc.cell? ⟨gb355, 0, none⟩ = some (.int .i64 t343) := (blk_cell BK355.out 0).trans rfl
        have hcz48_1 : wc.cell? ⟨gb355, 1, none⟩ = some (.int .i64 t344) := (blk_cell BK355.out 1).trans rfl
        have hcz48_2 : wc.cell? ⟨gb355, 2, none⟩ = some (.int .i64 t345) := (blk_cell BK355.out 2).trans rfl
        have hcz48_3 : wc.cell? ⟨gb355, 3, none⟩ = some (.int .i64 t346) := (blk_cell BK355.out 3).trans rfl
        have hcz48_4 : wc.cell? ⟨gb355, 4, none⟩ = some (.bool t347) := (blk_cell BK355.out 4).trans rfl
        have hcz48_5 : wc.cell? ⟨gb355, 5, none⟩ = some (.int .u64 t348) := (blk_cell BK355.out 5).trans rfl
        have hcz48_6 : wc.cell? ⟨gb355, 6, none⟩ = some (.int .u64 t349) := (blk_cell BK355.out 6).trans rfl
        have hcz48_7 : wc.cell? ⟨gb355, 7, none⟩ = some (.bool t350) := (blk_cell BK355.out 7).trans rfl
        have hcz48_8 : wc.cell? ⟨gb355, 8, none⟩ = some (.int .u64 t351) := (blk_cell BK355.out 8).trans rfl
        have hcz48_9 : wc.cell? ⟨gb355, 9, none⟩ = some (.int .u64 t352) := (blk_cell BK355.out 9).trans rfl
        have hcz48_10 : wc.cell? ⟨gb355, 10, none⟩ = some (.string t353) := (blk_cell BK355.out 10).trans rfl
        have hfz48_0 := blk_frozen BK355.out 0
        have hfz48_1 := blk_frozen BK355.out 1
        have hfz48_2 := blk_frozen BK355.out 2
        have hfz48_3 := blk_frozen BK355.out 3
        have hfz48_4 := blk_frozen BK355.out 4
        have hfz48_5 := blk_frozen BK355.out 5
        have hfz48_6 := blk_frozen BK355.out 6
        have hfz48_7 := blk_frozen BK355.out 7
        have hfz48_8 := blk_frozen BK355.out 8
        have hfz48_9 := blk_frozen BK355.out 9
        have hfz48_10 := blk_frozen BK355.out 10
        go_wp2_with (first | ((with_reducible refine gate_callee (f := 12) rfl ?_); refine goesL_ (some 67) rfl rfl Try.func12 (by kernel_rfl) rfl #[.string t358] rfl (by (try simp only [List.map_toArray, List.map_cons, List.map_nil]); first | done | rfl | (simp only [List.length_drop, List.length_take]; rfl)) ?_; (with_reducible refine (ip6_Take.calls kj6 t358 t360 t361 t362 t363 t364 t365 t366 t367 t368 t369 t370 t371 _ A25.out).mono ?_); rintro e w49 ⟨rfl, hb⟩; refine ⟨_, rfl, ?_⟩; have n0_ := Aside0.mk (blk_below (g := gb355) (o := .cells #[.int .i64 t343, .int .i64 t344, .int .i64 t345, .int .i64 t346, .bool t347, .int .u64 t348, .int .u64 t349, .bool t350, .int .u64 t351, .int .u64 t352, .string t353] 26 (0, 0)) (by (with_reducible repeat (first | refine blk_drewN ?_ _ | refine blk_drew ?_ | refine blk_alloc ?_ _)); exact BK355.out) hb); have n1_ := Aside0.mk (below_step (by repeat (first | (with_reducible first | exact HB.out | apply below_alloc | apply pw_below_drewN | apply below_drew1 | refine below_set ?_ GE355.out) | exact HB.out)) hb); clear BK355; clear HB; have BK355 := n0_; have HB := n1_; clear n0_ n1_; (try clear hb); (try clear hb2); (try clear hk); (try clear hi)) | ((with_reducible refine gate_dst (N := 10) rfl ?_); (try (refine gate_guard (by rfl) ?_; dsimp only)); refine box_event ?hg (N := 10) ?hd (cs := #[.int .i64 0, .int .i64 0, .int .i64 0, .int .i64 0, .bool false, .int .u64 0, .int .u64 0, .bool false, .int .u64 0, .int .u64 0, .string (⟨#[]⟩ : ByteArray)]) (t := 26) ?hr ?_; (case hd => rfl); (case hg => rfl); (case hr => first | (go_simp; done) | (go_simp; rfl)); intro gb372 hg w50 hbox hb; have n0_ := Aside0.mk (blk_below (g := gb355) (o := .cells #[.int .i64 t343, .int .i64 t344, .int .i64 t345, .int .i64 t346, .bool t347, .int .u64 t348, .int .u64 t349, .bool t350, .int .u64 t351, .int .u64 t352, .string t353] 26 (0, 0)) (by (with_reducible repeat (first | refine blk_drewN ?_ _ | refine blk_drew ?_ | refine blk_alloc ?_ _)); exact BK355.out) hb); have n1_ := Aside0.mk (below_step (by repeat (first | (with_reducible first | exact HB.out | apply below_alloc | apply pw_below_drewN | apply below_drew1 | refine below_set ?_ GE355.out) | exact HB.out)) hb); have n2_ := Aside0.mk (hbox); have n3_ := Aside0.mk ((by rw [hg]; exact (below_size (by repeat (first | (with_reducible first | exact HB.out | apply below_alloc | apply pw_below_drewN | apply below_drew1 | refine below_set ?_ GE355.out) | exact HB.out))) : w.heap.size ≤ gb372)); have n4_ := Aside0.mk ((by rw [hg]; exact (below_size (by repeat (first | (with_reducible first | exact HB.out | apply below_alloc | apply pw_below_drewN | apply below_drew1 | refine below_set ?_ GE355.out) | exact HB.out))) : w.heap.size ≤ gb372)); have n5_ := Aside0.mk ((by rw [hg]; exact Nat.ne_of_lt (blk_lt (g := gb355) (o := .cells #[.int .i64 t343, .int .i64 t344, .int .i64 t345, .int .i64 t346, .bool t347, .int .u64 t348, .int .u64 t349, .bool t350, .int .u64 t351, .int .u64 t352, .string t353] 26 (0, 0)) (by (with_reducible repeat (first | refine blk_drewN ?_ _ | refine blk_drew ?_ | refine blk_alloc ?_ _)); exact BK355.out)) : gb355 ≠ gb372)); have n6_ := Aside0.mk ((by rw [hg]; exact Nat.ne_of_gt (blk_lt (g := gb355) (o := .cells #[.int .i64 t343, .int .i64 t344, .int .i64 t345, .int .i64 t346, .bool t347, .int .u64 t348, .int .u64 t349, .bool t350, .int .u64 t351, .int .u64 t352, .string t353] 26 (0, 0)) (by (with_reducible repeat (first | refine blk_drewN ?_ _ | refine blk_drew ?_ | refine blk_alloc ?_ _)); exact BK355.out)) : gb372 ≠ gb355)); clear BK355; clear HB; have BK355 := n0_; have HB := n1_; have BK372 := n2_; have GW372 := n3_; have GE372 := n4_; have NB355_372 := n5_; have NB372_355 := n6_; clear n0_ n1_ n2_ n3_ n4_ n5_ n6_; clear hb hbox hg; have hnb51 := NB372_355.out; have hnc51 := NB355_372.out; have hcz52_0 : w50.cell? ⟨gb372, 0, none⟩ = some (.int .i64 0) := (blk_cell BK372.out 0).trans rfl; have hcz52_1 : w50.cell? ⟨gb372, 1, none⟩ = some (.int .i64 0) := (blk_cell BK372.out 1).trans rfl; have hcz52_2 : w50.cell? ⟨gb372, 2, none⟩ = some (.int .i64 0) := (blk_cell BK372.out 2).trans rfl; have hcz52_3 : w50.cell? ⟨gb372, 3, none⟩ = some (.int .i64 0) := (blk_cell BK372.out 3).trans rfl; have hcz52_4 : w50.cell? ⟨gb372, 4, none⟩ = some (.bool false) := (blk_cell BK372.out 4).trans rfl; have hcz52_5 : w50.cell? ⟨gb372, 5, none⟩ = some (.int .u64 0) := (blk_cell BK372.out 5).trans rfl; have hcz52_6 : w50.cell? ⟨gb372, 6, none⟩ = some (.int .u64 0) := (blk_cell BK372.out 6).trans rfl; have hcz52_7 : w50.cell? ⟨gb372, 7, none⟩ = some (.bool false) := (blk_cell BK372.out 7).trans rfl; have hcz52_8 : w50.cell? ⟨gb372, 8, none⟩ = some (.int .u64 0) := (blk_cell BK372.out 8).trans rfl; have hcz52_9 : w50.cell? ⟨gb372, 9, none⟩ = some (.int .u64 0) := (blk_cell BK372.out 9).trans rfl; have hcz52_10 : w50.cell? ⟨gb372, 10, none⟩ = some (.string (⟨#[]⟩ : ByteArray)) := (blk_cell BK372.out 10).trans rfl; have hfz52_0 := blk_frozen BK372.out 0; have hfz52_1 := blk_frozen BK372.out 1; have hfz52_2 := blk_frozen BK372.out 2; have hfz52_3 := blk_frozen BK372.out 3; have hfz52_4 := blk_frozen BK372.out 4; have hfz52_5 := blk_frozen BK372.out 5; have hfz52_6 := blk_frozen BK372.out 6; have hfz52_7 := blk_frozen BK372.out 7; have hfz52_8 := blk_frozen BK372.out 8; have hfz52_9 := blk_frozen BK372.out 9; have hfz52_10 := blk_frozen BK372.out 10; have hcz53_0 : w50.cell? ⟨gb355, 0, none⟩ = some (.int .i64 t343) := (blk_cell BK355.out 0).trans rfl; have hcz53_1 : w50.cell? ⟨gb355, 1, none⟩ = some (.int .i64 t344) := (blk_cell BK355.out 1).trans rfl; have hcz53_2 : w50.cell? ⟨gb355, 2, none⟩ = some (.int .i64 t345) := (blk_cell BK355.out 2).trans rfl; have hcz53_3 : w50.cell? ⟨gb355, 3, none⟩ = some (.int .i64 t346) := (blk_cell BK355.out 3).trans rfl; have hcz53_4 : w50.cell? ⟨gb355, 4, none⟩ = some (.bool t347) := (blk_cell BK355.out 4).trans rfl; have hcz53_5 : w50.cell? ⟨gb355, 5, none⟩ = some (.int .u64 t348) := (blk_cell BK355.out 5).trans rfl; have hcz53_6 : w50.cell? ⟨gb355, 6, none⟩ = some (.int .u64 t349) := (blk_cell BK355.out 6).trans rfl; have hcz53_7 : w50.cell? ⟨gb355, 7, none⟩ = some (.bool t350) := (blk_cell BK355.out 7).trans rfl; have hcz53_8 : w50.cell? ⟨gb355, 8, none⟩ = some (.int .u64 t351) := (blk_cell BK355.out 8).trans rfl; have hcz53_9 : w50.cell? ⟨gb355, 9, none⟩ = some (.int .u64 t352) := (blk_cell BK355.out 9).trans rfl; have hcz53_10 : w50.cell? ⟨gb355, 10, none⟩ = some (.string t353) := (blk_cell BK355.out 10).trans rfl; have hfz53_0 := blk_frozen BK355.out 0; have hfz53_1 := blk_frozen BK355.out 1; have hfz53_2 := blk_frozen BK355.out 2; have hfz53_3 := blk_frozen BK355.out 3; have hfz53_4 := blk_frozen BK355.out 4; have hfz53_5 := blk_frozen BK355.out 5; have hfz53_6 := blk_frozen BK355.out 6; have hfz53_7 := blk_frozen BK355.out 7; have hfz53_8 := blk_frozen BK355.out 8; have hfz53_9 := blk_frozen BK355.out 9; have hfz53_10 := blk_frozen BK355.out 10))
        go_ret
        exact ⟨by first | rfl | (simp [errW_none, errW_some] <;> rfl) | (simp [*, errW_none, errW_some] <;> rfl), by repeat (first | (with_reducible first | exact HB.out | apply below_alloc | apply pw_below_drewN | apply below_drew1 | refine below_set ?_ GE355.out | refine below_set ?_ GE372.out) | exact HB.out)⟩
      ·
       replace c26 := Bool.eq_false_iff.mpr c26
       subst c26
       have H1 : (some false) = some r := by rw [if_neg (show ¬ (false = true) by decide)] at H; exact H
       clear H
       have H := H1
       clear H1
       obtain rfl := Option.some.inj H
       have hcz54_0 : wc.cell? ⟨gb355, 0, none⟩ = some (.int .i64 t343) := (blk_cell BK355.out 0).trans rfl
       have hcz54_1 : wc.cell? ⟨gb355, 1, none⟩ = some (.int .i64 t344) := (blk_cell BK355.out 1).trans rfl
       have hcz54_2 : wc.cell? ⟨gb355, 2, none⟩ = some (.int .i64 t345) := (blk_cell BK355.out 2).trans rfl
       have hcz54_3 : wc.cell? ⟨gb355, 3, none⟩ = some (.int .i64 t346) := (blk_cell BK355.out 3).trans rfl
       have hcz54_4 : wc.cell? ⟨gb355, 4, none⟩ = some (.bool t347) := (blk_cell BK355.out 4).trans rfl
       have hcz54_5 : wc.cell? ⟨gb355, 5, none⟩ = some (.int .u64 t348) := (blk_cell BK355.out 5).trans rfl
       have hcz54_6 : wc.cell? ⟨gb355, 6, none⟩ = some (.int .u64 t349) := (blk_cell BK355.out 6).trans rfl
       have hcz54_7 : wc.cell? ⟨gb355, 7, none⟩ = some (.bool t350) := (blk_cell BK355.out 7).trans rfl
       have hcz54_8 : wc.cell? ⟨gb355, 8, none⟩ = some (.int .u64 t351) := (blk_cell BK355.out 8).trans rfl
       have hcz54_9 : wc.cell? ⟨gb355, 9, none⟩ = some (.int .u64 t352) := (blk_cell BK355.out 9).trans rfl
       have hcz54_10 : wc.cell? ⟨gb355, 10, none⟩ = some (.string t353) := (blk_cell BK355.out 10).trans rfl
       have hfz54_0 := blk_frozen BK355.out 0
       have hfz54_1 := blk_frozen BK355.out 1
       have hfz54_2 := blk_frozen BK355.out 2
       have hfz54_3 := blk_frozen BK355.out 3
       have hfz54_4 := blk_frozen BK355.out 4
       have hfz54_5 := blk_frozen BK355.out 5
       have hfz54_6 := blk_frozen BK355.out 6
       have hfz54_7 := blk_frozen BK355.out 7
       have hfz54_8 := blk_frozen BK355.out 8
       have hfz54_9 := blk_frozen BK355.out 9
       have hfz54_10 := blk_frozen BK355.out 10
       go_wp2_with (first | ((with_reducible refine gate_callee (f := 12) rfl ?_); refine goesL_ (some 67) rfl rfl Try.func12 (by kernel_rfl) rfl #[.string t358] rfl (by (try simp only [List.map_toArray, List.map_cons, List.map_nil]); first | done | rfl | (simp only [List.length_drop, List.length_take]; rfl)) ?_; (with_reducible refine (ip6_Take.calls kj6 t358 t360 t361 t362 t363 t364 t365 t366 t367 t368 t369 t370 t371 _ A25.out).mono ?_); rintro e w55 ⟨rfl, hb⟩; refine ⟨_, rfl, ?_⟩; have n0_ := Aside0.mk (blk_below (g := gb355) (o := .cells #[.int .i64 t343, .int .i64 t344, .int .i64 t345, .int .i64 t346, .bool t347, .int .u64 t348, .int .u64 t349, .bool t350, .int .u64 t351, .int .u64 t352, .string t353] 26 (0, 0)) (by (with_reducible repeat (first | refine blk_drewN ?_ _ | refine blk_drew ?_ | refine blk_alloc ?_ _)); exact BK355.out) hb); have n1_ := Aside0.mk (below_step (by repeat (first | (with_reducible first | exact HB.out | apply below_alloc | apply pw_below_drewN | apply below_drew1 | refine below_set ?_ GE355.out) | exact HB.out)) hb); clear BK355; clear HB; have BK355 := n0_; have HB := n1_; clear n0_ n1_; (try clear hb); (try clear hb2); (try clear hk); (try clear hi)) | ((with_reducible refine gate_dst (N := 10) rfl ?_); (try (refine gate_guard (by rfl) ?_; dsimp only)); refine box_event ?hg (N := 10) ?hd (cs := #[.int .i64 0, .int .i64 0, .int .i64 0, .int .i64 0, .bool false, .int .u64 0, .int .u64 0, .bool false, .int .u64 0, .int .u64 0, .string (⟨#[]⟩ : ByteArray)]) (t := 26) ?hr ?_; (case hd => rfl); (case hg => rfl); (case hr => first | (go_simp; done) | (go_simp; rfl)); intro gb372 hg w56 hbox hb; have n0_ := Aside0.mk (blk_below (g := gb355) (o := .cells #[.int .i64 t343, .int .i64 t344, .int .i64 t345, .int .i64 t346, .bool t347, .int .u64 t348, .int .u64 t349, .bool t350, .int .u64 t351, .int .u64 t352, .string t353] 26 (0, 0)) (by (with_reducible repeat (first | refine blk_drewN ?_ _ | refine blk_drew ?_ | refine blk_alloc ?_ _)); exact BK355.out) hb); have n1_ := Aside0.mk (below_step (by repeat (first | (with_reducible first | exact HB.out | apply below_alloc | apply pw_below_drewN | apply below_drew1 | refine below_set ?_ GE355.out) | exact HB.out)) hb); have n2_ := Aside0.mk (hbox); have n3_ := Aside0.mk ((by rw [hg]; exact (below_size (by repeat (first | (with_reducible first | exact HB.out | apply below_alloc | apply pw_below_drewN | apply below_drew1 | refine below_set ?_ GE355.out) | exact HB.out))) : w.heap.size ≤ gb372)); have n4_ := Aside0.mk ((by rw [hg]; exact (below_size (by repeat (first | (with_reducible first | exact HB.out | apply below_alloc | apply pw_below_drewN | apply below_drew1 | refine below_set ?_ GE355.out) | exact HB.out))) : w.heap.size ≤ gb372)); have n5_ := Aside0.mk ((by rw [hg]; exact Nat.ne_of_lt (blk_lt (g := gb355) (o := .cells #[.int .i64 t343, .int .i64 t344, .int .i64 t345, .int .i64 t346, .bool t347, .int .u64 t348, .int .u64 t349, .bool t350, .int .u64 t351, .int .u64 t352, .string t353] 26 (0, 0)) (by (with_reducible repeat (first | refine blk_drewN ?_ _ | refine blk_drew ?_ | refine blk_alloc ?_ _)); exact BK355.out)) : gb355 ≠ gb372)); have n6_ := Aside0.mk ((by rw [hg]; exact Nat.ne_of_gt (blk_lt (g := gb355) (o := .cells #[.int .i64 t343, .int .i64 t344, .int .i64 t345, .int .i64 t346, .bool t347, .int .u64 t348, .int .u64 t349, .bool t350, .int .u64 t351, .int .u64 t352, .string t353] 26 (0, 0)) (by (with_reducible repeat (first | refine blk_drewN ?_ _ | refine blk_drew ?_ | refine blk_alloc ?_ _)); exact BK355.out)) : gb372 ≠ gb355)); clear BK355; clear HB; have BK355 := n0_; have HB := n1_; have BK372 := n2_; have GW372 := n3_; have GE372 := n4_; have NB355_372 := n5_; have NB372_355 := n6_; clear n0_ n1_ n2_ n3_ n4_ n5_ n6_; clear hb hbox hg; have hnb57 := NB372_355.out; have hnc57 := NB355_372.out; have hcz58_0 : w56.cell? ⟨gb372, 0, none⟩ = some (.int .i64 0) := (blk_cell BK372.out 0).trans rfl; have hcz58_1 : w56.cell? ⟨gb372, 1, none⟩ = some (.int .i64 0) := (blk_cell BK372.out 1).trans rfl; have hcz58_2 : w56.cell? ⟨gb372, 2, none⟩ = some (.int .i64 0) := (blk_cell BK372.out 2).trans rfl; have hcz58_3 : w56.cell? ⟨gb372, 3, none⟩ = some (.int .i64 0) := (blk_cell BK372.out 3).trans rfl; have hcz58_4 : w56.cell? ⟨gb372, 4, none⟩ = some (.bool false) := (blk_cell BK372.out 4).trans rfl; have hcz58_5 : w56.cell? ⟨gb372, 5, none⟩ = some (.int .u64 0) := (blk_cell BK372.out 5).trans rfl; have hcz58_6 : w56.cell? ⟨gb372, 6, none⟩ = some (.int .u64 0) := (blk_cell BK372.out 6).trans rfl; have hcz58_7 : w56.cell? ⟨gb372, 7, none⟩ = some (.bool false) := (blk_cell BK372.out 7).trans rfl; have hcz58_8 : w56.cell? ⟨gb372, 8, none⟩ = some (.int .u64 0) := (blk_cell BK372.out 8).trans rfl; have hcz58_9 : w56.cell? ⟨gb372, 9, none⟩ = some (.int .u64 0) := (blk_cell BK372.out 9).trans rfl; have hcz58_10 : w56.cell? ⟨gb372, 10, none⟩ = some (.string (⟨#[]⟩ : ByteArray)) := (blk_cell BK372.out 10).trans rfl; have hfz58_0 := blk_frozen BK372.out 0; have hfz58_1 := blk_frozen BK372.out 1; have hfz58_2 := blk_frozen BK372.out 2; have hfz58_3 := blk_frozen BK372.out 3; have hfz58_4 := blk_frozen BK372.out 4; have hfz58_5 := blk_frozen BK372.out 5; have hfz58_6 := blk_frozen BK372.out 6; have hfz58_7 := blk_frozen BK372.out 7; have hfz58_8 := blk_frozen BK372.out 8; have hfz58_9 := blk_frozen BK372.out 9; have hfz58_10 := blk_frozen BK372.out 10; have hcz59_0 : w56.cell? ⟨gb355, 0, none⟩ = some (.int .i64 t343) := (blk_cell BK355.out 0).trans rfl; have hcz59_1 : w56.cell? ⟨gb355, 1, none⟩ = some (.int .i64 t344) := (blk_cell BK355.out 1).trans rfl; have hcz59_2 : w56.cell? ⟨gb355, 2, none⟩ = some (.int .i64 t345) := (blk_cell BK355.out 2).trans rfl; have hcz59_3 : w56.cell? ⟨gb355, 3, none⟩ = some (.int .i64 t346) := (blk_cell BK355.out 3).trans rfl; have hcz59_4 : w56.cell? ⟨gb355, 4, none⟩ = some (.bool t347) := (blk_cell BK355.out 4).trans rfl; have hcz59_5 : w56.cell? ⟨gb355, 5, none⟩ = some (.int .u64 t348) := (blk_cell BK355.out 5).trans rfl; have hcz59_6 : w56.cell? ⟨gb355, 6, none⟩ = some (.int .u64 t349) := (blk_cell BK355.out 6).trans rfl; have hcz59_7 : w56.cell? ⟨gb355, 7, none⟩ = some (.bool t350) := (blk_cell BK355.out 7).trans rfl; have hcz59_8 : w56.cell? ⟨gb355, 8, none⟩ = some (.int .u64 t351) := (blk_cell BK355.out 8).trans rfl; have hcz59_9 : w56.cell? ⟨gb355, 9, none⟩ = some (.int .u64 t352) := (blk_cell BK355.out 9).trans rfl; have hcz59_10 : w56.cell? ⟨gb355, 10, none⟩ = some (.string t353) := (blk_cell BK355.out 10).trans rfl; have hfz59_0 := blk_frozen BK355.out 0; have hfz59_1 := blk_frozen BK355.out 1; have hfz59_2 := blk_frozen BK355.out 2; have hfz59_3 := blk_frozen BK355.out 3; have hfz59_4 := blk_frozen BK355.out 4; have hfz59_5 := blk_frozen BK355.out 5; have hfz59_6 := blk_frozen BK355.out 6; have hfz59_7 := blk_frozen BK355.out 7; have hfz59_8 := blk_frozen BK355.out 8; have hfz59_9 := blk_frozen BK355.out 9; have hfz59_10 := blk_frozen BK355.out 10))
       go_ret
       exact ⟨by first | rfl | (simp [errW_none, errW_some] <;> rfl) | (simp [*, errW_none, errW_some] <;> rfl), by repeat (first | (with_reducible first | exact HB.out | apply below_alloc | apply pw_below_drewN | apply below_drew1 | refine below_set ?_ GE355.out | refine below_set ?_ GE372.out) | exact HB.out)⟩
 ·
  rw [if_neg c4] at H
  have c4b0 : (t354 == 0) = false := beq_eq_false_iff_ne.mpr c4
  have c4b1 : (t354 != 0) = true := bne_iff_ne.mpr c4
  by_cases c60 : t342 = true
  ·
   subst c60
   have H1 : (some (t343 == 0 && (t344 == 0 && (t345 == 0 && (t346 == 0 && ((!t347 && (t348 == 0 && (t349 == 0))) && ((!t350 && (t351 == 0 && (t352 == 0))) && (t353.toList == ([] : List UInt8))))))))) = some r := by rw [if_pos rfl] at H; exact H
   clear H
   have H := H1
   clear H1
   obtain rfl := Option.some.inj H
   go_enter Try.func7, Try.ntmps7
   go_wp2_with (first | ((with_reducible refine gate_callee (f := 9) rfl ?_); refine goesL_ (some 12) rfl rfl Try.func9 (by kernel_rfl) rfl #[] rfl (by (try simp only [List.map_toArray, List.map_cons, List.map_nil]); first | done | rfl | (simp only [List.length_drop, List.length_take]; rfl)) ?_; (with_reducible refine (crosswaylaw07_awake.calls k  true _ A2.out).mono ?_); rintro e w61 ⟨rfl, hb⟩; refine ⟨_, rfl, ?_⟩; have n0_ := Aside0.mk (below_step (by repeat (first | (with_reducible first | exact HB.out | apply below_alloc | apply pw_below_drewN | apply below_drew1) | exact HB.out)) hb); clear HB; have HB := n0_; clear n0_; (try clear hb); (try clear hb2); (try clear hk); (try clear hi)) | ((with_reducible refine gate_callee (f := 12) rfl ?_); refine goesL_ (some 15) rfl rfl Try.func12 (by kernel_rfl) rfl #[.string a0] rfl (by (try simp only [List.map_toArray, List.map_cons, List.map_nil]); first | done | rfl | (simp only [List.length_drop, List.length_take]; rfl)) ?_; (with_reducible refine (ip6_Take.calls k a0 t343 t344 t345 t346 t347 t348 t349 t350 t351 t352 t353 t354 _ A3.out).mono ?_); rintro e w62 ⟨rfl, hb⟩; refine ⟨_, rfl, ?_⟩; have n0_ := Aside0.mk (below_step (by repeat (first | (with_reducible first | exact HB.out | apply below_alloc | apply pw_below_drewN | apply below_drew1) | exact HB.out)) hb); clear HB; have HB := n0_; clear n0_; (try clear hb); (try clear hb2); (try clear hk); (try clear hi)) | ((with_reducible refine gate_dst (N := 4) rfl ?_); (try (refine gate_guard (by rfl) ?_; dsimp only)); refine box_event ?hg (N := 4) ?hd (cs := #[.int .i64 0, .int .i64 0, .int .i64 0, .int .i64 0, .bool false, .int .u64 0, .int .u64 0, .bool false, .int .u64 0, .int .u64 0, .string (⟨#[]⟩ : ByteArray)]) (t := 26) ?hr ?_; (case hd => rfl); (case hg => rfl); (case hr => first | (go_simp; done) | (go_simp; rfl)); intro gb355 hg w63 hbox hb; have n0_ := Aside0.mk (below_step (by repeat (first | (with_reducible first | exact HB.out | apply below_alloc | apply pw_below_drewN | apply below_drew1) | exact HB.out)) hb); have n1_ := Aside0.mk (hbox); have n2_ := Aside0.mk ((by rw [hg]; exact (below_size (by repeat (first | (with_reducible first | exact HB.out | apply below_alloc | apply pw_below_drewN | apply below_drew1) | exact HB.out))) : w.heap.size ≤ gb355)); have n3_ := Aside0.mk ((by rw [hg]; exact (below_size (by repeat (first | (with_reducible first | exact HB.out | apply below_alloc | apply pw_below_drewN | apply below_drew1) | exact HB.out))) : w.heap.size ≤ gb355)); clear HB; have HB := n0_; have BK355 := n1_; have GW355 := n2_; have GE355 := n3_; clear n0_ n1_ n2_ n3_; clear hb hbox hg; have hcz64_0 : w63.cell? ⟨gb355, 0, none⟩ = some (.int .i64 0) := (blk_cell BK355.out 0).trans rfl; have hcz64_1 : w63.cell? ⟨gb355, 1, none⟩ = some (.int .i64 0) := (blk_cell BK355.out 1).trans rfl; have hcz64_2 : w63.cell? ⟨gb355, 2, none⟩ = some (.int .i64 0) := (blk_cell BK355.out 2).trans rfl; have hcz64_3 : w63.cell? ⟨gb355, 3, none⟩ = some (.int .i64 0) := (blk_cell BK355.out 3).trans rfl; have hcz64_4 : w63.cell? ⟨gb355, 4, none⟩ = some (.bool false) := (blk_cell BK355.out 4).trans rfl; have hcz64_5 : w63.cell? ⟨gb355, 5, none⟩ = some (.int .u64 0) := (blk_cell BK355.out 5).trans rfl; have hcz64_6 : w63.cell? ⟨gb355, 6, none⟩ = some (.int .u64 0) := (blk_cell BK355.out 6).trans rfl; have hcz64_7 : w63.cell? ⟨gb355, 7, none⟩ = some (.bool false) := (blk_cell BK355.out 7).trans rfl; have hcz64_8 : w63.cell? ⟨gb355, 8, none⟩ = some (.int .u64 0) := (blk_cell BK355.out 8).trans rfl; have hcz64_9 : w63.cell? ⟨gb355, 9, none⟩ = some (.int .u64 0) := (blk_cell BK355.out 9).trans rfl; have hcz64_10 : w63.cell? ⟨gb355, 10, none⟩ = some (.string (⟨#[]⟩ : ByteArray)) := (blk_cell BK355.out 10).trans rfl; have hfz64_0 := blk_frozen BK355.out 0; have hfz64_1 := blk_frozen BK355.out 1; have hfz64_2 := blk_frozen BK355.out 2; have hfz64_3 := blk_frozen BK355.out 3; have hfz64_4 := blk_frozen BK355.out 4; have hfz64_5 := blk_frozen BK355.out 5; have hfz64_6 := blk_frozen BK355.out 6; have hfz64_7 := blk_frozen BK355.out 7; have hfz64_8 := blk_frozen BK355.out 8; have hfz64_9 := blk_frozen BK355.out 9; have hfz64_10 := blk_frozen BK355.out 10))
   go_ret
   exact ⟨by first | rfl | (simp [errW_none, errW_some] <;> rfl) | (simp [*, errW_none, errW_some] <;> rfl), by repeat (first | (with_reducible first | exact HB.out | apply below_alloc | apply pw_below_drewN | apply below_drew1 | refine below_set ?_ GE355.out) | exact HB.out)⟩
  ·
   replace c60 := Bool.eq_false_iff.mpr c60
   subst c60
   have H1 : (some false) = some r := by rw [if_neg (show ¬ (false = true) by decide)] at H; exact H
   clear H
   have H := H1
   clear H1
   obtain rfl := Option.some.inj H
   go_enter Try.func7, Try.ntmps7
   go_wp2_with (first | ((with_reducible refine gate_callee (f := 9) rfl ?_); refine goesL_ (some 12) rfl rfl Try.func9 (by kernel_rfl) rfl #[] rfl (by (try simp only [List.map_toArray, List.map_cons, List.map_nil]); first | done | rfl | (simp only [List.length_drop, List.length_take]; rfl)) ?_; (with_reducible refine (crosswaylaw07_awake.calls k  false _ A2.out).mono ?_); rintro e w65 ⟨rfl, hb⟩; refine ⟨_, rfl, ?_⟩; have n0_ := Aside0.mk (below_step (by repeat (first | (with_reducible first | exact HB.out | apply below_alloc | apply pw_below_drewN | apply below_drew1) | exact HB.out)) hb); clear HB; have HB := n0_; clear n0_; (try clear hb); (try clear hb2); (try clear hk); (try clear hi)) | ((with_reducible refine gate_callee (f := 12) rfl ?_); refine goesL_ (some 15) rfl rfl Try.func12 (by kernel_rfl) rfl #[.string a0] rfl (by (try simp only [List.map_toArray, List.map_cons, List.map_nil]); first | done | rfl | (simp only [List.length_drop, List.length_take]; rfl)) ?_; (with_reducible refine (ip6_Take.calls k a0 t343 t344 t345 t346 t347 t348 t349 t350 t351 t352 t353 t354 _ A3.out).mono ?_); rintro e w66 ⟨rfl, hb⟩; refine ⟨_, rfl, ?_⟩; have n0_ := Aside0.mk (below_step (by repeat (first | (with_reducible first | exact HB.out | apply below_alloc | apply pw_below_drewN | apply below_drew1) | exact HB.out)) hb); clear HB; have HB := n0_; clear n0_; (try clear hb); (try clear hb2); (try clear hk); (try clear hi)) | ((with_reducible refine gate_dst (N := 4) rfl ?_); (try (refine gate_guard (by rfl) ?_; dsimp only)); refine box_event ?hg (N := 4) ?hd (cs := #[.int .i64 0, .int .i64 0, .int .i64 0, .int .i64 0, .bool false, .int .u64 0, .int .u64 0, .bool false, .int .u64 0, .int .u64 0, .string (⟨#[]⟩ : ByteArray)]) (t := 26) ?hr ?_; (case hd => rfl); (case hg => rfl); (case hr => first | (go_simp; done) | (go_simp; rfl)); intro gb355 hg w67 hbox hb; have n0_ := Aside0.mk (below_step (by repeat (first | (with_reducible first | exact HB.out | apply below_alloc | apply pw_below_drewN | apply below_drew1) | exact HB.out)) hb); have n1_ := Aside0.mk (hbox); have n2_ := Aside0.mk ((by rw [hg]; exact (below_size (by repeat (first | (with_reducible first | exact HB.out | apply below_alloc | apply pw_below_drewN | apply below_drew1) | exact HB.out))) : w.heap.size ≤ gb355)); have n3_ := Aside0.mk ((by rw [hg]; exact (below_size (by repeat (first | (with_reducible first | exact HB.out | apply below_alloc | apply pw_below_drewN | apply below_drew1) | exact HB.out))) : w.heap.size ≤ gb355)); clear HB; have HB := n0_; have BK355 := n1_; have GW355 := n2_; have GE355 := n3_; clear n0_ n1_ n2_ n3_; clear hb hbox hg; have hcz68_0 : w67.cell? ⟨gb355, 0, none⟩ = some (.int .i64 0) := (blk_cell BK355.out 0).trans rfl; have hcz68_1 : w67.cell? ⟨gb355, 1, none⟩ = some (.int .i64 0) := (blk_cell BK355.out 1).trans rfl; have hcz68_2 : w67.cell? ⟨gb355, 2, none⟩ = some (.int .i64 0) := (blk_cell BK355.out 2).trans rfl; have hcz68_3 : w67.cell? ⟨gb355, 3, none⟩ = some (.int .i64 0) := (blk_cell BK355.out 3).trans rfl; have hcz68_4 : w67.cell? ⟨gb355, 4, none⟩ = some (.bool false) := (blk_cell BK355.out 4).trans rfl; have hcz68_5 : w67.cell? ⟨gb355, 5, none⟩ = some (.int .u64 0) := (blk_cell BK355.out 5).trans rfl; have hcz68_6 : w67.cell? ⟨gb355, 6, none⟩ = some (.int .u64 0) := (blk_cell BK355.out 6).trans rfl; have hcz68_7 : w67.cell? ⟨gb355, 7, none⟩ = some (.bool false) := (blk_cell BK355.out 7).trans rfl; have hcz68_8 : w67.cell? ⟨gb355, 8, none⟩ = some (.int .u64 0) := (blk_cell BK355.out 8).trans rfl; have hcz68_9 : w67.cell? ⟨gb355, 9, none⟩ = some (.int .u64 0) := (blk_cell BK355.out 9).trans rfl; have hcz68_10 : w67.cell? ⟨gb355, 10, none⟩ = some (.string (⟨#[]⟩ : ByteArray)) := (blk_cell BK355.out 10).trans rfl; have hfz68_0 := blk_frozen BK355.out 0; have hfz68_1 := blk_frozen BK355.out 1; have hfz68_2 := blk_frozen BK355.out 2; have hfz68_3 := blk_frozen BK355.out 3; have hfz68_4 := blk_frozen BK355.out 4; have hfz68_5 := blk_frozen BK355.out 5; have hfz68_6 := blk_frozen BK355.out 6; have hfz68_7 := blk_frozen BK355.out 7; have hfz68_8 := blk_frozen BK355.out 8; have hfz68_9 := blk_frozen BK355.out 9; have hfz68_10 := blk_frozen BK355.out 10))
   go_ret
   exact ⟨by first | rfl | (simp [errW_none, errW_some] <;> rfl) | (simp [*, errW_none, errW_some] <;> rfl), by repeat (first | (with_reducible first | exact HB.out | apply below_alloc | apply pw_below_drewN | apply below_drew1 | refine below_set ?_ GE355.out) | exact HB.out)⟩

end Go.Proofs.Ytfkdmdacicahcaa.PBase
