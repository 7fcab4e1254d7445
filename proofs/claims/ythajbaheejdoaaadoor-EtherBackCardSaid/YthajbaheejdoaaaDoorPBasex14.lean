/- Functions of the program as Lean functions, each with a proof that a call comes to what it says. Conditions: those of each theorem. Laid by a program of this session. -/
import Derived.Test.YthajbaheejdoaaaDoorPBasex0
import Derived.Test.YthajbaheejdoaaaDoorPBasex4
import Derived.Test.YthajbaheejdoaaaDoorPBasex5
import Derived.Test.YthajbaheejdoaaaDoorPBasex9
namespace Go.Proofs.YthajbaheejdoaaaDoor.PBase
open Go.RowKit Go.Proofs.YthajbaheejdoaaaDoor Go.Proofs.YthajbaheejdoaaaDoorW.PrintWords Go.Proofs.YthajbaheejdoaaaDoorW.PrintLast Go.Proofs.YthajbaheejdoaaaDoorW.PrintMore
attribute [local go_sem] max2_int min2_int max_two min_two max_three min_three max_four min_four   -- for this text's walks alone
set_option linter.unusedVariables false
set_option linter.unusedSimpArgs false

/-! ### crosswaylaw05_EtherBack: function 5 -/
mutual
def crosswaylaw05_EtherBack.j0 : Nat → Bool → Bool → Int → Int → Int → ByteArray → Int → Int → Int → ByteArray → Option (Bool)
 | 0, _, _, _, _, _, _, _, _, _, _ => none
 | k + 1, x3, x75, x359000, x359001, x359002, x359003, x368000, x368001, x368002, x368003 => if x75 = true then (some false) else (crosswaylaw05_EtherBack.l0 k x3 (x359003.size : Int) x368000 x368001 x368002 x368003)
def crosswaylaw05_EtherBack.l0 : Nat → Bool → Int → Int → Int → Int → ByteArray → Option (Bool)
 | 0, _, _, _, _, _, _ => none
 | k + 1, x3, x8, x368000, x368001, x368002, x368003 => if x8 < (x368003.size : Int) then (if 0 ≤ x8 then (if (bt x368003 x8) = 0 then (crosswaylaw05_EtherBack.l0 k x3 (wrap64 (x8 + 1)) x368000 x368001 x368002 x368003) else (some false)) else (none)) else (some x3)
end
def crosswaylaw05_EtherBack.f (k : Nat) (a0_0 : Int) (a0_1 : Int) (a0_2 : Int) (a0_3 : ByteArray) : Option (Bool) := (crosswaylaw05_awake.f k).bind fun t359 => ((ether_Lay.f k a0_0 a0_1 a0_2 a0_3).bind fun bt360 => (if bt360.2 = 0 then ((ether_Take.f k bt360.1).bind fun bt362 => (if bt362.2.2.2.2 = 0 then (if bt362.1 = a0_0 then (if bt362.2.1 = a0_1 then (if bt362.2.2.1 = a0_2 then (if (bt360.1.size : Int) < 60 then (crosswaylaw05_EtherBack.j0 k t359 true a0_0 a0_1 a0_2 a0_3 bt362.1 bt362.2.1 bt362.2.2.1 bt362.2.2.2.1) else (if (bt362.2.2.2.1.size : Int) = (mx (a0_3.size : Int) 46) then (if 0 ≤ (a0_3.size : Int) then (if (a0_3.size : Int) ≤ (bt362.2.2.2.1.size : Int) then (crosswaylaw05_EtherBack.j0 k t359 ((bt362.2.2.2.1.extract 0 ((a0_3.size : Int) : Int).toNat).toList != a0_3.toList) a0_0 a0_1 a0_2 a0_3 bt362.1 bt362.2.1 bt362.2.2.1 bt362.2.2.2.1) else (none)) else (none)) else (crosswaylaw05_EtherBack.j0 k t359 true a0_0 a0_1 a0_2 a0_3 bt362.1 bt362.2.1 bt362.2.2.1 bt362.2.2.2.1))) else (crosswaylaw05_EtherBack.j0 k t359 true a0_0 a0_1 a0_2 a0_3 bt362.1 bt362.2.1 bt362.2.2.1 bt362.2.2.2.1)) else (crosswaylaw05_EtherBack.j0 k t359 true a0_0 a0_1 a0_2 a0_3 bt362.1 bt362.2.1 bt362.2.2.1 bt362.2.2.2.1)) else (crosswaylaw05_EtherBack.j0 k t359 true a0_0 a0_1 a0_2 a0_3 bt362.1 bt362.2.1 bt362.2.2.1 bt362.2.2.2.1)) else (crosswaylaw05_EtherBack.j0 k t359 true a0_0 a0_1 a0_2 a0_3 bt362.1 bt362.2.1 bt362.2.2.1 bt362.2.2.2.1))) else (if t359 = true then (some (bt360.1.toList == ([] : List UInt8))) else (some false))))
theorem crosswaylaw05_EtherBack.mono_l : ∀ k, (∀ y0 y1 y2 y3 y4 y5 y6 y7 y8 y9, LeO (crosswaylaw05_EtherBack.j0 k y0 y1 y2 y3 y4 y5 y6 y7 y8 y9) (crosswaylaw05_EtherBack.j0 (k + 1) y0 y1 y2 y3 y4 y5 y6 y7 y8 y9)) ∧ (∀ y0 y1 y2 y3 y4 y5, LeO (crosswaylaw05_EtherBack.l0 k y0 y1 y2 y3 y4 y5) (crosswaylaw05_EtherBack.l0 (k + 1) y0 y1 y2 y3 y4 y5))
 | 0 => ⟨fun _ _ _ _ _ _ _ _ _ _ r h => by simp [crosswaylaw05_EtherBack.j0] at h, fun _ _ _ _ _ _ r h => by simp [crosswaylaw05_EtherBack.l0] at h⟩
 | k + 1 => by
  obtain ⟨ih0, ih1⟩ := crosswaylaw05_EtherBack.mono_l k
  refine ⟨?_, ?_⟩
  ·
   intro y0 y1 y2 y3 y4 y5 y6 y7 y8 y9
   unfold crosswaylaw05_EtherBack.j0
   repeat' first
   | (with_reducible exact ih0 _ _ _ _ _ _ _ _ _ _)
   | (with_reducible exact ih1 _ _ _ _ _ _)
   | (with_reducible exact crosswaylaw05_awake.mono _)
   | (with_reducible exact ether_Lay.mono _ _ _ _ _)
   | (with_reducible exact ether_Take.mono _ _)
   | (with_reducible exact LeO.refl _)
   | (with_reducible exact LeO.none _)
   | (with_reducible refine LeO.ite ?_ ?_)
   | (with_reducible refine LeO.bind ?_ (fun _ => ?_))
   | exact ih0 _ _ _ _ _ _ _ _ _ _
   | exact ih1 _ _ _ _ _ _
   | exact crosswaylaw05_awake.mono _
   | exact ether_Lay.mono _ _ _ _ _
   | exact ether_Take.mono _ _
   | exact LeO.none _
   | refine LeO.ite ?_ ?_
   | refine LeO.bind ?_ (fun _ => ?_)
  ·
   intro y0 y1 y2 y3 y4 y5
   unfold crosswaylaw05_EtherBack.l0
   repeat' first
   | (with_reducible exact ih0 _ _ _ _ _ _ _ _ _ _)
   | (with_reducible exact ih1 _ _ _ _ _ _)
   | (with_reducible exact crosswaylaw05_awake.mono _)
   | (with_reducible exact ether_Lay.mono _ _ _ _ _)
   | (with_reducible exact ether_Take.mono _ _)
   | (with_reducible exact LeO.refl _)
   | (with_reducible exact LeO.none _)
   | (with_reducible refine LeO.ite ?_ ?_)
   | (with_reducible refine LeO.bind ?_ (fun _ => ?_))
   | exact ih0 _ _ _ _ _ _ _ _ _ _
   | exact ih1 _ _ _ _ _ _
   | exact crosswaylaw05_awake.mono _
   | exact ether_Lay.mono _ _ _ _ _
   | exact ether_Take.mono _ _
   | exact LeO.none _
   | refine LeO.ite ?_ ?_
   | refine LeO.bind ?_ (fun _ => ?_)
theorem crosswaylaw05_EtherBack.mono : ∀ a0 a1 a2 a3 k, LeO (crosswaylaw05_EtherBack.f k a0 a1 a2 a3) (crosswaylaw05_EtherBack.f (k + 1) a0 a1 a2 a3) := by
 intro a0 a1 a2 a3 k
 obtain ⟨ih0, ih1⟩ := crosswaylaw05_EtherBack.mono_l k
 unfold crosswaylaw05_EtherBack.f
 repeat' first
   | (with_reducible exact ih0 _ _ _ _ _ _ _ _ _ _)
   | (with_reducible exact ih1 _ _ _ _ _ _)
   | (with_reducible exact crosswaylaw05_awake.mono _)
   | (with_reducible exact ether_Lay.mono _ _ _ _ _)
   | (with_reducible exact ether_Take.mono _ _)
   | (with_reducible exact LeO.refl _)
   | (with_reducible exact LeO.none _)
   | (with_reducible refine LeO.ite ?_ ?_)
   | (with_reducible refine LeO.bind ?_ (fun _ => ?_))
   | exact ih0 _ _ _ _ _ _ _ _ _ _
   | exact ih1 _ _ _ _ _ _
   | exact crosswaylaw05_awake.mono _
   | exact ether_Lay.mono _ _ _ _ _
   | exact ether_Take.mono _ _
   | exact LeO.none _
   | refine LeO.ite ?_ ?_
   | refine LeO.bind ?_ (fun _ => ?_)
set_option maxHeartbeats 8000000 in
set_option maxRecDepth 100000 in
theorem crosswaylaw05_EtherBack.calls (k : Nat) (a0_0 : Int) (a0_1 : Int) (a0_2 : Int) (a0_3 : ByteArray) (r : Bool) (w : World) (h : crosswaylaw05_EtherBack.f k a0_0 a0_1 a0_2 a0_3 = some r) (hrt : r = true) (hg : ether_Glob w) :
  Calls Tryd.prog 5 #[.agg #[.int .u64 a0_0, .int .u64 a0_1, .int .i64 a0_2, .string a0_3]] w fun e w' => e = .returned (.bool r) ∧ Below w.heap.size w w' := by
 have HGL := Aside0.mk hg
 clear hg
 have HRT := Aside0.mk hrt
 clear hrt
 have hu25 := Tryd.underlying25
 have HB := Aside0.mk (Below.refl w.heap.size w)
 have H : ((crosswaylaw05_awake.f k).bind fun t359 => ((ether_Lay.f k a0_0 a0_1 a0_2 a0_3).bind fun bt360 => (if bt360.2 = 0 then ((ether_Take.f k bt360.1).bind fun bt362 => (if bt362.2.2.2.2 = 0 then (if bt362.1 = a0_0 then (if bt362.2.1 = a0_1 then (if bt362.2.2.1 = a0_2 then (if (bt360.1.size : Int) < 60 then (crosswaylaw05_EtherBack.j0 k t359 true a0_0 a0_1 a0_2 a0_3 bt362.1 bt362.2.1 bt362.2.2.1 bt362.2.2.2.1) else (if (bt362.2.2.2.1.size : Int) = (mx (a0_3.size : Int) 46) then (if 0 ≤ (a0_3.size : Int) then (if (a0_3.size : Int) ≤ (bt362.2.2.2.1.size : Int) then (crosswaylaw05_EtherBack.j0 k t359 ((bt362.2.2.2.1.extract 0 ((a0_3.size : Int) : Int).toNat).toList != a0_3.toList) a0_0 a0_1 a0_2 a0_3 bt362.1 bt362.2.1 bt362.2.2.1 bt362.2.2.2.1) else (none)) else (none)) else (crosswaylaw05_EtherBack.j0 k t359 true a0_0 a0_1 a0_2 a0_3 bt362.1 bt362.2.1 bt362.2.2.1 bt362.2.2.2.1))) else (crosswaylaw05_EtherBack.j0 k t359 true a0_0 a0_1 a0_2 a0_3 bt362.1 bt362.2.1 bt362.2.2.1 bt362.2.2.2.1)) else (crosswaylaw05_EtherBack.j0 k t359 true a0_0 a0_1 a0_2 a0_3 bt362.1 bt362.2.1 bt362.2.2.1 bt362.2.2.2.1)) else (crosswaylaw05_EtherBack.j0 k t359 true a0_0 a0_1 a0_2 a0_3 bt362.1 bt362.2.1 bt362.2.2.1 bt362.2.2.2.1)) else (crosswaylaw05_EtherBack.j0 k t359 true a0_0 a0_1 a0_2 a0_3 bt362.1 bt362.2.1 bt362.2.2.1 bt362.2.2.2.1))) else (if t359 = true then (some (bt360.1.toList == ([] : List UInt8))) else (some false))))) = some r := h
 clear h
 replace H := Option.bind_eq_some_iff.mp H
 obtain ⟨t359, A20, H⟩ := H
 have A2 := Aside0.mk A20
 clear A20
 replace H := Option.bind_eq_some_iff.mp H
 obtain ⟨⟨t360, t361⟩, A30, H⟩ := H
 replace H : (if t361 = 0 then ((ether_Take.f k t360).bind fun bt362 => (if bt362.2.2.2.2 = 0 then (if bt362.1 = a0_0 then (if bt362.2.1 = a0_1 then (if bt362.2.2.1 = a0_2 then (if (t360.size : Int) < 60 then (crosswaylaw05_EtherBack.j0 k t359 true a0_0 a0_1 a0_2 a0_3 bt362.1 bt362.2.1 bt362.2.2.1 bt362.2.2.2.1) else (if (bt362.2.2.2.1.size : Int) = (mx (a0_3.size : Int) 46) then (if 0 ≤ (a0_3.size : Int) then (if (a0_3.size : Int) ≤ (bt362.2.2.2.1.size : Int) then (crosswaylaw05_EtherBack.j0 k t359 ((bt362.2.2.2.1.extract 0 ((a0_3.size : Int) : Int).toNat).toList != a0_3.toList) a0_0 a0_1 a0_2 a0_3 bt362.1 bt362.2.1 bt362.2.2.1 bt362.2.2.2.1) else (none)) else (none)) else (crosswaylaw05_EtherBack.j0 k t359 true a0_0 a0_1 a0_2 a0_3 bt362.1 bt362.2.1 bt362.2.2.1 bt362.2.2.2.1))) else (crosswaylaw05_EtherBack.j0 k t359 true a0_0 a0_1 a0_2 a0_3 bt362.1 bt362.2.1 bt362.2.2.1 bt362.2.2.2.1)) else (crosswaylaw05_EtherBack.j0 k t359 true a0_0 a0_1 a0_2 a0_3 bt362.1 bt362.2.1 bt362.2.2.1 bt362.2.2.2.1)) else (crosswaylaw05_EtherBack.j0 k t359 true a0_0 a0_1 a0_2 a0_3 bt362.1 bt362.2.1 bt362.2.2.1 bt362.2.2.2.1)) else (crosswaylaw05_EtherBack.j0 k t359 true a0_0 a0_1 a0_2 a0_3 bt362.1 bt362.2.1 bt362.2.2.1 bt362.2.2.2.1))) else (if t359 = true then (some (t360.toList == ([] : List UInt8))) else (some false))) = some r := H
 have A3 := Aside0.mk A30
 clear A30
 by_cases c4 : t361 = 0
 ·
  rw [if_pos c4] at H
  have c4b0 : (t361 == 0) = true := beq_iff_eq.mpr c4
  have c4b1 : (t361 != 0) = false := bne_eq_false_iff_eq.mpr c4
  clear c4
  replace H := Option.bind_eq_some_iff.mp H
  obtain ⟨⟨t362, t363, t364, t365, t366⟩, A50, H⟩ := H
  replace H : (if t366 = 0 then (if t362 = a0_0 then (if t363 = a0_1 then (if t364 = a0_2 then (if (t360.size : Int) < 60 then (crosswaylaw05_EtherBack.j0 k t359 true a0_0 a0_1 a0_2 a0_3 t362 t363 t364 t365) else (if (t365.size : Int) = (mx (a0_3.size : Int) 46) then (if 0 ≤ (a0_3.size : Int) then (if (a0_3.size : Int) ≤ (t365.size : Int) then (crosswaylaw05_EtherBack.j0 k t359 ((t365.extract 0 ((a0_3.size : Int) : Int).toNat).toList != a0_3.toList) a0_0 a0_1 a0_2 a0_3 t362 t363 t364 t365) else (none)) else (none)) else (crosswaylaw05_EtherBack.j0 k t359 true a0_0 a0_1 a0_2 a0_3 t362 t363 t364 t365))) else (crosswaylaw05_EtherBack.j0 k t359 true a0_0 a0_1 a0_2 a0_3 t362 t363 t364 t365)) else (crosswaylaw05_EtherBack.j0 k t359 true a0_0 a0_1 a0_2 a0_3 t362 t363 t364 t365)) else (crosswaylaw05_EtherBack.j0 k t359 true a0_0 a0_1 a0_2 a0_3 t362 t363 t364 t365)) else (crosswaylaw05_EtherBack.j0 k t359 true a0_0 a0_1 a0_2 a0_3 t362 t363 t364 t365)) = some r := H
  have A5 := Aside0.mk A50
  clear A50
  have HC6 := Aside0.mk H
  clear H
  go_enter Tryd.func5, Tryd.ntmps5
  go_upto_region 6 with (first | ((with_reducible refine gate_dst (N := 1) rfl ?_); (try (refine gate_guard (by rfl) ?_; dsimp only)); refine box_event ?hg (N := 1) ?hd (cs := #[.int .u64 a0_0, .int .u64 a0_1, .int .i64 a0_2, .string a0_3]) (t := 25) ?hr ?_; (case hd => rfl); (case hg => rfl); (case hr => first | (go_simp; done) | (go_simp; rfl)); intro gb358 hg w7 hbox hb; have n0_ := Aside0.mk (below_step (by repeat (first | (with_reducible first | exact HB.out | apply below_alloc | apply pw_below_drewN | apply below_drew1) | exact HB.out)) hb); have n1_ := Aside0.mk (hbox); have n2_ := Aside0.mk ((by rw [hg]; exact (below_size (by repeat (first | (with_reducible first | exact HB.out | apply below_alloc | apply pw_below_drewN | apply below_drew1) | exact HB.out))) : w.heap.size ≤ gb358)); have n3_ := Aside0.mk ((by rw [hg]; exact (below_size (by repeat (first | (with_reducible first | exact HB.out | apply below_alloc | apply pw_below_drewN | apply below_drew1) | exact HB.out))) : w.heap.size ≤ gb358)); clear HB; have HB := n0_; have BK358 := n1_; have GW358 := n2_; have GE358 := n3_; clear n0_ n1_ n2_ n3_; clear hb hbox hg) | (go_at_call 10; (with_reducible refine Calls.mono (crosswaylaw05_awake.calls k  t359 _ A2.out ?hgl_) ?_); (case hgl_ => exact ether_Glob_below HGL.out (by repeat (first | (with_reducible first | exact HB.out | apply below_alloc | apply pw_below_drewN | apply below_drew1 | refine below_set ?_ GE358.out) | exact HB.out))); rintro e w8 ⟨rfl, hb⟩; have n0_ := Aside0.mk (blk_below (g := gb358) (o := .cells #[.int .u64 a0_0, .int .u64 a0_1, .int .i64 a0_2, .string a0_3] 25 (0, 0)) (by (with_reducible repeat (first | refine blk_drewN ?_ _ | refine blk_drew ?_ | refine blk_alloc ?_ _)); exact BK358.out) hb); have n1_ := Aside0.mk (below_step (by repeat (first | (with_reducible first | exact HB.out | apply below_alloc | apply pw_below_drewN | apply below_drew1 | refine below_set ?_ GE358.out) | exact HB.out)) hb); clear BK358; clear HB; have BK358 := n0_; have HB := n1_; clear n0_ n1_; (try clear hb); (try clear hb2); (try clear hk); (try clear hi); obtain ⟨hcz9_0, hcz9_1, hcz9_2, hcz9_3⟩ := MBlk.c4 BK358.out; obtain ⟨hfz9_0, hfz9_1, hfz9_2, hfz9_3⟩ := MBlk.f4 BK358.out) | (go_at_call 11; (with_reducible refine (ether_Lay.calls k a0_0 a0_1 a0_2 a0_3 t360 t361 _ A3.out).mono ?_); rintro e w10 ⟨rfl, hb⟩; have n0_ := Aside0.mk (blk_below (g := gb358) (o := .cells #[.int .u64 a0_0, .int .u64 a0_1, .int .i64 a0_2, .string a0_3] 25 (0, 0)) (by (with_reducible repeat (first | refine blk_drewN ?_ _ | refine blk_drew ?_ | refine blk_alloc ?_ _)); exact BK358.out) hb); have n1_ := Aside0.mk (below_step (by repeat (first | (with_reducible first | exact HB.out | apply below_alloc | apply pw_below_drewN | apply below_drew1 | refine below_set ?_ GE358.out) | exact HB.out)) hb); clear BK358; clear HB; have BK358 := n0_; have HB := n1_; clear n0_ n1_; (try clear hb); (try clear hb2); (try clear hk); (try clear hi)) | (go_at_call 15; (with_reducible refine (ether_Take.calls k t360 t362 t363 t364 t365 t366 _ A5.out).mono ?_); rintro e w11 ⟨rfl, hb⟩; have n0_ := Aside0.mk (blk_below (g := gb358) (o := .cells #[.int .u64 a0_0, .int .u64 a0_1, .int .i64 a0_2, .string a0_3] 25 (0, 0)) (by (with_reducible repeat (first | refine blk_drewN ?_ _ | refine blk_drew ?_ | refine blk_alloc ?_ _)); exact BK358.out) hb); have n1_ := Aside0.mk (below_step (by repeat (first | (with_reducible first | exact HB.out | apply below_alloc | apply pw_below_drewN | apply below_drew1 | refine below_set ?_ GE358.out) | exact HB.out)) hb); clear BK358; clear HB; have BK358 := n0_; have HB := n1_; clear n0_ n1_; (try clear hb); (try clear hb2); (try clear hk); (try clear hi)) | ((with_reducible refine gate_dst (N := 6) rfl ?_); (try (refine gate_guard (by rfl) ?_; dsimp only)); refine box_event ?hg (N := 6) ?hd (cs := #[.int .u64 0, .int .u64 0, .int .i64 0, .string (⟨#[]⟩ : ByteArray)]) (t := 25) ?hr ?_; (case hd => rfl); (case hg => rfl); (case hr => first | (go_simp; done) | (go_simp; rfl)); intro gb367 hg w12 hbox hb; have n0_ := Aside0.mk (blk_below (g := gb358) (o := .cells #[.int .u64 a0_0, .int .u64 a0_1, .int .i64 a0_2, .string a0_3] 25 (0, 0)) (by (with_reducible repeat (first | refine blk_drewN ?_ _ | refine blk_drew ?_ | refine blk_alloc ?_ _)); exact BK358.out) hb); have n1_ := Aside0.mk (below_step (by repeat (first | (with_reducible first | exact HB.out | apply below_alloc | apply pw_below_drewN | apply below_drew1 | refine below_set ?_ GE358.out) | exact HB.out)) hb); have n2_ := Aside0.mk (hbox); have n3_ := Aside0.mk ((by rw [hg]; exact (below_size (by repeat (first | (with_reducible first | exact HB.out | apply below_alloc | apply pw_below_drewN | apply below_drew1 | refine below_set ?_ GE358.out) | exact HB.out))) : w.heap.size ≤ gb367)); have n4_ := Aside0.mk ((by rw [hg]; exact (below_size (by repeat (first | (with_reducible first | exact HB.out | apply below_alloc | apply pw_below_drewN | apply below_drew1 | refine below_set ?_ GE358.out) | exact HB.out))) : w.heap.size ≤ gb367)); have n5_ := Aside0.mk ((by rw [hg]; exact Nat.ne_of_lt (blk_lt (g := gb358) (o := .cells #[.int .u64 a0_0, .int .u64 a0_1, .int .i64 a0_2, .string a0_3] 25 (0, 0)) (by (with_reducible repeat (first | refine blk_drewN ?_ _ | refine blk_drew ?_ | refine blk_alloc ?_ _)); exact BK358.out)) : gb358 ≠ gb367)); have n6_ := Aside0.mk ((by rw [hg]; exact Nat.ne_of_gt (blk_lt (g := gb358) (o := .cells #[.int .u64 a0_0, .int .u64 a0_1, .int .i64 a0_2, .string a0_3] 25 (0, 0)) (by (with_reducible repeat (first | refine blk_drewN ?_ _ | refine blk_drew ?_ | refine blk_alloc ?_ _)); exact BK358.out)) : gb367 ≠ gb358)); clear BK358; clear HB; have BK358 := n0_; have HB := n1_; have BK367 := n2_; have GW367 := n3_; have GE367 := n4_; have NB358_367 := n5_; have NB367_358 := n6_; clear n0_ n1_ n2_ n3_ n4_ n5_ n6_; clear hb hbox hg; have hnb13 := NB367_358.out; have hnc13 := NB358_367.out; obtain ⟨hcz14_0, hcz14_1, hcz14_2, hcz14_3⟩ := MBlk.c4 BK367.out; obtain ⟨hfz14_0, hfz14_1, hfz14_2, hfz14_3⟩ := MBlk.f4 BK367.out))
  repeat (go_quiet (first | ((with_reducible refine gate_dst (N := 1) rfl ?_); (try (refine gate_guard (by rfl) ?_; dsimp only)); refine box_event ?hg (N := 1) ?hd (cs := #[.int .u64 a0_0, .int .u64 a0_1, .int .i64 a0_2, .string a0_3]) (t := 25) ?hr ?_; (case hd => rfl); (case hg => rfl); (case hr => first | (go_simp; done) | (go_simp; rfl)); intro gb358 hg w7 hbox hb; have n0_ := Aside0.mk (below_step (by repeat (first | (with_reducible first | exact HB.out | apply below_alloc | apply pw_below_drewN | apply below_drew1) | exact HB.out)) hb); have n1_ := Aside0.mk (hbox); have n2_ := Aside0.mk ((by rw [hg]; exact (below_size (by repeat (first | (with_reducible first | exact HB.out | apply below_alloc | apply pw_below_drewN | apply below_drew1) | exact HB.out))) : w.heap.size ≤ gb358)); have n3_ := Aside0.mk ((by rw [hg]; exact (below_size (by repeat (first | (with_reducible first | exact HB.out | apply below_alloc | apply pw_below_drewN | apply below_drew1) | exact HB.out))) : w.heap.size ≤ gb358)); clear HB; have HB := n0_; have BK358 := n1_; have GW358 := n2_; have GE358 := n3_; clear n0_ n1_ n2_ n3_; clear hb hbox hg) | (go_at_call 10; (with_reducible refine Calls.mono (crosswaylaw05_awake.calls k  t359 _ A2.out ?hgl_) ?_); (case hgl_ => exact ether_Glob_below HGL.out (by repeat (first | (with_reducible first | exact HB.out | apply below_alloc | apply pw_below_drewN | apply below_drew1 | refine below_set ?_ GE358.out) | exact HB.out))); rintro e w8 ⟨rfl, hb⟩; have n0_ := Aside0.mk (blk_below (g := gb358) (o := .cells #[.int .u64 a0_0, .int .u64 a0_1, .int .i64 a0_2, .string a0_3] 25 (0, 0)) (by (with_reducible repeat (first | refine blk_drewN ?_ _ | refine blk_drew ?_ | refine blk_alloc ?_ _)); exact BK358.out) hb); have n1_ := Aside0.mk (below_step (by repeat (first | (with_reducible first | exact HB.out | apply below_alloc | apply pw_below_drewN | apply below_drew1 | refine below_set ?_ GE358.out) | exact HB.out)) hb); clear BK358; clear HB; have BK358 := n0_; have HB := n1_; clear n0_ n1_; (try clear hb); (try clear hb2); (try clear hk); (try clear hi); obtain ⟨hcz9_0, hcz9_1, hcz9_2, hcz9_3⟩ := MBlk.c4 BK358.out; obtain ⟨hfz9_0, hfz9_1, hfz9_2, hfz9_3⟩ := MBlk.f4 BK358.out) | (go_at_call 11; (with_reducible refine (ether_Lay.calls k a0_0 a0_1 a0_2 a0_3 t360 t361 _ A3.out).mono ?_); rintro e w10 ⟨rfl, hb⟩; have n0_ := Aside0.mk (blk_below (g := gb358) (o := .cells #[.int .u64 a0_0, .int .u64 a0_1, .int .i64 a0_2, .string a0_3] 25 (0, 0)) (by (with_reducible repeat (first | refine blk_drewN ?_ _ | refine blk_drew ?_ | refine blk_alloc ?_ _)); exact BK358.out) hb); have n1_ := Aside0.mk (below_step (by repeat (first | (with_reducible first | exact HB.out | apply below_alloc | apply pw_below_drewN | apply below_drew1 | refine below_set ?_ GE358.out) | exact HB.out)) hb); clear BK358; clear HB; have BK358 := n0_; have HB := n1_; clear n0_ n1_; (try clear hb); (try clear hb2); (try clear hk); (try clear hi)) | (go_at_call 15; (with_reducible refine (ether_Take.calls k t360 t362 t363 t364 t365 t366 _ A5.out).mono ?_); rintro e w11 ⟨rfl, hb⟩; have n0_ := Aside0.mk (blk_below (g := gb358) (o := .cells #[.int .u64 a0_0, .int .u64 a0_1, .int .i64 a0_2, .string a0_3] 25 (0, 0)) (by (with_reducible repeat (first | refine blk_drewN ?_ _ | refine blk_drew ?_ | refine blk_alloc ?_ _)); exact BK358.out) hb); have n1_ := Aside0.mk (below_step (by repeat (first | (with_reducible first | exact HB.out | apply below_alloc | apply pw_below_drewN | apply below_drew1 | refine below_set ?_ GE358.out) | exact HB.out)) hb); clear BK358; clear HB; have BK358 := n0_; have HB := n1_; clear n0_ n1_; (try clear hb); (try clear hb2); (try clear hk); (try clear hi)) | ((with_reducible refine gate_dst (N := 6) rfl ?_); (try (refine gate_guard (by rfl) ?_; dsimp only)); refine box_event ?hg (N := 6) ?hd (cs := #[.int .u64 0, .int .u64 0, .int .i64 0, .string (⟨#[]⟩ : ByteArray)]) (t := 25) ?hr ?_; (case hd => rfl); (case hg => rfl); (case hr => first | (go_simp; done) | (go_simp; rfl)); intro gb367 hg w12 hbox hb; have n0_ := Aside0.mk (blk_below (g := gb358) (o := .cells #[.int .u64 a0_0, .int .u64 a0_1, .int .i64 a0_2, .string a0_3] 25 (0, 0)) (by (with_reducible repeat (first | refine blk_drewN ?_ _ | refine blk_drew ?_ | refine blk_alloc ?_ _)); exact BK358.out) hb); have n1_ := Aside0.mk (below_step (by repeat (first | (with_reducible first | exact HB.out | apply below_alloc | apply pw_below_drewN | apply below_drew1 | refine below_set ?_ GE358.out) | exact HB.out)) hb); have n2_ := Aside0.mk (hbox); have n3_ := Aside0.mk ((by rw [hg]; exact (below_size (by repeat (first | (with_reducible first | exact HB.out | apply below_alloc | apply pw_below_drewN | apply below_drew1 | refine below_set ?_ GE358.out) | exact HB.out))) : w.heap.size ≤ gb367)); have n4_ := Aside0.mk ((by rw [hg]; exact (below_size (by repeat (first | (with_reducible first | exact HB.out | apply below_alloc | apply pw_below_drewN | apply below_drew1 | refine below_set ?_ GE358.out) | exact HB.out))) : w.heap.size ≤ gb367)); have n5_ := Aside0.mk ((by rw [hg]; exact Nat.ne_of_lt (blk_lt (g := gb358) (o := .cells #[.int .u64 a0_0, .int .u64 a0_1, .int .i64 a0_2, .string a0_3] 25 (0, 0)) (by (with_reducible repeat (first | refine blk_drewN ?_ _ | refine blk_drew ?_ | refine blk_alloc ?_ _)); exact BK358.out)) : gb358 ≠ gb367)); have n6_ := Aside0.mk ((by rw [hg]; exact Nat.ne_of_gt (blk_lt (g := gb358) (o := .cells #[.int .u64 a0_0, .int .u64 a0_1, .int .i64 a0_2, .string a0_3] 25 (0, 0)) (by (with_reducible repeat (first | refine blk_drewN ?_ _ | refine blk_drew ?_ | refine blk_alloc ?_ _)); exact BK358.out)) : gb367 ≠ gb358)); clear BK358; clear HB; have BK358 := n0_; have HB := n1_; have BK367 := n2_; have GW367 := n3_; have GE367 := n4_; have NB358_367 := n5_; have NB367_358 := n6_; clear n0_ n1_ n2_ n3_ n4_ n5_ n6_; clear hb hbox hg; have hnb13 := NB367_358.out; have hnc13 := NB358_367.out; obtain ⟨hcz14_0, hcz14_1, hcz14_2, hcz14_3⟩ := MBlk.c4 BK367.out; obtain ⟨hfz14_0, hfz14_1, hfz14_2, hfz14_3⟩ := MBlk.f4 BK367.out)); go_upto_region 6 with (first | ((with_reducible refine gate_dst (N := 1) rfl ?_); (try (refine gate_guard (by rfl) ?_; dsimp only)); refine box_event ?hg (N := 1) ?hd (cs := #[.int .u64 a0_0, .int .u64 a0_1, .int .i64 a0_2, .string a0_3]) (t := 25) ?hr ?_; (case hd => rfl); (case hg => rfl); (case hr => first | (go_simp; done) | (go_simp; rfl)); intro gb358 hg w7 hbox hb; have n0_ := Aside0.mk (below_step (by repeat (first | (with_reducible first | exact HB.out | apply below_alloc | apply pw_below_drewN | apply below_drew1) | exact HB.out)) hb); have n1_ := Aside0.mk (hbox); have n2_ := Aside0.mk ((by rw [hg]; exact (below_size (by repeat (first | (with_reducible first | exact HB.out | apply below_alloc | apply pw_below_drewN | apply below_drew1) | exact HB.out))) : w.heap.size ≤ gb358)); have n3_ := Aside0.mk ((by rw [hg]; exact (below_size (by repeat (first | (with_reducible first | exact HB.out | apply below_alloc | apply pw_below_drewN | apply below_drew1) | exact HB.out))) : w.heap.size ≤ gb358)); clear HB; have HB := n0_; have BK358 := n1_; have GW358 := n2_; have GE358 := n3_; clear n0_ n1_ n2_ n3_; clear hb hbox hg) | (go_at_call 10; (with_reducible refine Calls.mono (crosswaylaw05_awake.calls k  t359 _ A2.out ?hgl_) ?_); (case hgl_ => exact ether_Glob_below HGL.out (by repeat (first | (with_reducible first | exact HB.out | apply below_alloc | apply pw_below_drewN | apply below_drew1 | refine below_set ?_ GE358.out) | exact HB.out))); rintro e w8 ⟨rfl, hb⟩; have n0_ := Aside0.mk (blk_below (g := gb358) (o := .cells #[.int .u64 a0_0, .int .u64 a0_1, .int .i64 a0_2, .string a0_3] 25 (0, 0)) (by (with_reducible repeat (first | refine blk_drewN ?_ _ | refine blk_drew ?_ | refine blk_alloc ?_ _)); exact BK358.out) hb); have n1_ := Aside0.mk (below_step (by repeat (first | (with_reducible first | exact HB.out | apply below_alloc | apply pw_below_drewN | apply below_drew1 | refine below_set ?_ GE358.out) | exact HB.out)) hb); clear BK358; clear HB; have BK358 := n0_; have HB := n1_; clear n0_ n1_; (try clear hb); (try clear hb2); (try clear hk); (try clear hi); obtain ⟨hcz9_0, hcz9_1, hcz9_2, hcz9_3⟩ := MBlk.c4 BK358.out; obtain ⟨hfz9_0, hfz9_1, hfz9_2, hfz9_3⟩ := MBlk.f4 BK358.out) | (go_at_call 11; (with_reducible refine (ether_Lay.calls k a0_0 a0_1 a0_2 a0_3 t360 t361 _ A3.out).mono ?_); rintro e w10 ⟨rfl, hb⟩; have n0_ := Aside0.mk (blk_below (g := gb358) (o := .cells #[.int .u64 a0_0, .int .u64 a0_1, .int .i64 a0_2, .string a0_3] 25 (0, 0)) (by (with_reducible repeat (first | refine blk_drewN ?_ _ | refine blk_drew ?_ | refine blk_alloc ?_ _)); exact BK358.out) hb); have n1_ := Aside0.mk (below_step (by repeat (first | (with_reducible first | exact HB.out | apply below_alloc | apply pw_below_drewN | apply below_drew1 | refine below_set ?_ GE358.out) | exact HB.out)) hb); clear BK358; clear HB; have BK358 := n0_; have HB := n1_; clear n0_ n1_; (try clear hb); (try clear hb2); (try clear hk); (try clear hi)) | (go_at_call 15; (with_reducible refine (ether_Take.calls k t360 t362 t363 t364 t365 t366 _ A5.out).mono ?_); rintro e w11 ⟨rfl, hb⟩; have n0_ := Aside0.mk (blk_below (g := gb358) (o := .cells #[.int .u64 a0_0, .int .u64 a0_1, .int .i64 a0_2, .string a0_3] 25 (0, 0)) (by (with_reducible repeat (first | refine blk_drewN ?_ _ | refine blk_drew ?_ | refine blk_alloc ?_ _)); exact BK358.out) hb); have n1_ := Aside0.mk (below_step (by repeat (first | (with_reducible first | exact HB.out | apply below_alloc | apply pw_below_drewN | apply below_drew1 | refine below_set ?_ GE358.out) | exact HB.out)) hb); clear BK358; clear HB; have BK358 := n0_; have HB := n1_; clear n0_ n1_; (try clear hb); (try clear hb2); (try clear hk); (try clear hi)) | ((with_reducible refine gate_dst (N := 6) rfl ?_); (try (refine gate_guard (by rfl) ?_; dsimp only)); refine box_event ?hg (N := 6) ?hd (cs := #[.int .u64 0, .int .u64 0, .int .i64 0, .string (⟨#[]⟩ : ByteArray)]) (t := 25) ?hr ?_; (case hd => rfl); (case hg => rfl); (case hr => first | (go_simp; done) | (go_simp; rfl)); intro gb367 hg w12 hbox hb; have n0_ := Aside0.mk (blk_below (g := gb358) (o := .cells #[.int .u64 a0_0, .int .u64 a0_1, .int .i64 a0_2, .string a0_3] 25 (0, 0)) (by (with_reducible repeat (first | refine blk_drewN ?_ _ | refine blk_drew ?_ | refine blk_alloc ?_ _)); exact BK358.out) hb); have n1_ := Aside0.mk (below_step (by repeat (first | (with_reducible first | exact HB.out | apply below_alloc | apply pw_below_drewN | apply below_drew1 | refine below_set ?_ GE358.out) | exact HB.out)) hb); have n2_ := Aside0.mk (hbox); have n3_ := Aside0.mk ((by rw [hg]; exact (below_size (by repeat (first | (with_reducible first | exact HB.out | apply below_alloc | apply pw_below_drewN | apply below_drew1 | refine below_set ?_ GE358.out) | exact HB.out))) : w.heap.size ≤ gb367)); have n4_ := Aside0.mk ((by rw [hg]; exact (below_size (by repeat (first | (with_reducible first | exact HB.out | apply below_alloc | apply pw_below_drewN | apply below_drew1 | refine below_set ?_ GE358.out) | exact HB.out))) : w.heap.size ≤ gb367)); have n5_ := Aside0.mk ((by rw [hg]; exact Nat.ne_of_lt (blk_lt (g := gb358) (o := .cells #[.int .u64 a0_0, .int .u64 a0_1, .int .i64 a0_2, .string a0_3] 25 (0, 0)) (by (with_reducible repeat (first | refine blk_drewN ?_ _ | refine blk_drew ?_ | refine blk_alloc ?_ _)); exact BK358.out)) : gb358 ≠ gb367)); have n6_ := Aside0.mk ((by rw [hg]; exact Nat.ne_of_gt (blk_lt (g := gb358) (o := .cells #[.int .u64 a0_0, .int .u64 a0_1, .int .i64 a0_2, .string a0_3] 25 (0, 0)) (by (with_reducible repeat (first | refine blk_drewN ?_ _ | refine blk_drew ?_ | refine blk_alloc ?_ _)); exact BK358.out)) : gb367 ≠ gb358)); clear BK358; clear HB; have BK358 := n0_; have HB := n1_; have BK367 := n2_; have GW367 := n3_; have GE367 := n4_; have NB358_367 := n5_; have NB367_358 := n6_; clear n0_ n1_ n2_ n3_ n4_ n5_ n6_; clear hb hbox hg; have hnb13 := NB367_358.out; have hnc13 := NB358_367.out; obtain ⟨hcz14_0, hcz14_1, hcz14_2, hcz14_3⟩ := MBlk.c4 BK367.out; obtain ⟨hfz14_0, hfz14_1, hfz14_2, hfz14_3⟩ := MBlk.f4 BK367.out)))
  (try simp only [Act.put, List.setIfInBounds_toArray, List.set_cons_zero, List.set_cons_succ])
  go_cut [75] (fun v75 wc => ∃ (kq : Nat) (x75_5 : Bool), v75 = .bool x75_5 ∧ Aside0 (crosswaylaw05_EtherBack.j0 kq t359 x75_5 a0_0 a0_1 a0_2 a0_3 t362 t363 t364 t365 = some r) ∧ Aside0 (kq ≤ k) ∧ Aside0 (wc.heap[gb358]? = some (.cells #[.int .u64 a0_0, .int .u64 a0_1, .int .i64 a0_2, .string a0_3] 25 (0, 0))) ∧ Aside0 (wc.heap[gb367]? = some (.cells #[.int .u64 t362, .int .u64 t363, .int .i64 t364, .string t365] 25 (0, 0))) ∧ Aside0 (Below w.heap.size w wc))
  case first =>
   have H := HC6.out
   clear HC6
   by_cases c15 : t366 = 0
   ·
    rw [if_pos c15] at H
    have c15b0 : (t366 == 0) = true := beq_iff_eq.mpr c15
    have c15b1 : (t366 != 0) = false := bne_eq_false_iff_eq.mpr c15
    clear c15
    (first | rw [c15b0] | (simp only [i64_w, i32_w]; rw [c15b0]) | skip)
    by_cases c16 : t362 = a0_0
    ·
     rw [if_pos c16] at H
     have c16b0 : (t362 == a0_0) = true := beq_iff_eq.mpr c16
     have c16b1 : (t362 != a0_0) = false := bne_eq_false_iff_eq.mpr c16
     clear c16
     by_cases c17 : t363 = a0_1
     ·
      rw [if_pos c17] at H
      have c17b0 : (t363 == a0_1) = true := beq_iff_eq.mpr c17
      have c17b1 : (t363 != a0_1) = false := bne_eq_false_iff_eq.mpr c17
      clear c17
      by_cases c18 : t364 = a0_2
      ·
       rw [if_pos c18] at H
       have c18b0 : (t364 == a0_2) = true := beq_iff_eq.mpr c18
       have c18b1 : (t364 != a0_2) = false := bne_eq_false_iff_eq.mpr c18
       clear c18
       by_cases c19 : (t360.size : Int) < 60
       ·
        rw [if_pos c19] at H
        have c19b0 : decide ((t360.size : Int) < 60) = true := decide_eq_true c19
        have c19b1 : decide (t360.size < 60) = true := decide_eq_true (by omega)
        clear c19
        have H' := Aside0.mk H
        clear H
        have hnb20 := NB367_358.out
        have hnc20 := NB358_367.out
        have hcz21_0 : w12.cell? ⟨gb367, 0, none⟩ = some (.int .u64 0) := (blk_cell BK367.out 0).trans rfl
        have hcz21_1 : w12.cell? ⟨gb367, 1, none⟩ = some (.int .u64 0) := (blk_cell BK367.out 1).trans rfl
        have hcz21_2 : w12.cell? ⟨gb367, 2, none⟩ = some (.int .i64 0) := (blk_cell BK367.out 2).trans rfl
        have hcz21_3 : w12.cell? ⟨gb367, 3, none⟩ = some (.string (⟨#[]⟩ : ByteArray)) := (blk_cell BK367.out 3).trans rfl
        have hfz21_0 := blk_frozen BK367.out 0
        have hfz21_1 := blk_frozen BK367.out 1
        have hfz21_2 := blk_frozen BK367.out 2
        have hfz21_3 := blk_frozen BK367.out 3
        have hcz22_0 : w12.cell? ⟨gb358, 0, none⟩ = some (.int .u64 a0_0) := (blk_cell BK358.out 0).trans rfl
        have hcz22_1 : w12.cell? ⟨gb358, 1, none⟩ = some (.int .u64 a0_1) := (blk_cell BK358.out 1).trans rfl
        have hcz22_2 : w12.cell? ⟨gb358, 2, none⟩ = some (.int .i64 a0_2) := (blk_cell BK358.out 2).trans rfl
        have hcz22_3 : w12.cell? ⟨gb358, 3, none⟩ = some (.string a0_3) := (blk_cell BK358.out 3).trans rfl
        have hfz22_0 := blk_frozen BK358.out 0
        have hfz22_1 := blk_frozen BK358.out 1
        have hfz22_2 := blk_frozen BK358.out 2
        have hfz22_3 := blk_frozen BK358.out 3
        go_wp2
        repeat (go_quiet (fail); try go_wp2)
        go_meet
        case rel => exact ⟨_, (true), (by first | rfl | (simp; done) | (simp [*]; done)), H', ⟨by first | omega | exact Nat.le_refl _⟩, ⟨by (with_reducible repeat (first | refine blk_drewN ?_ _ | refine blk_drew ?_ | refine blk_alloc ?_ _)); refine blk_far ?_ NB358_367.out _; (with_reducible repeat (first | refine blk_drewN ?_ _ | refine blk_drew ?_ | refine blk_alloc ?_ _)); refine blk_far ?_ NB358_367.out _; (with_reducible repeat (first | refine blk_drewN ?_ _ | refine blk_drew ?_ | refine blk_alloc ?_ _)); refine blk_far ?_ NB358_367.out _; (with_reducible repeat (first | refine blk_drewN ?_ _ | refine blk_drew ?_ | refine blk_alloc ?_ _)); refine blk_far ?_ NB358_367.out _; (with_reducible repeat (first | refine blk_drewN ?_ _ | refine blk_drew ?_ | refine blk_alloc ?_ _)); exact BK358.out⟩, ⟨by (with_reducible repeat (first | refine blk_drewN ?_ _ | refine blk_drew ?_ | refine blk_alloc ?_ _)); refine blk_put (cs := #[.int .u64 t362, .int .u64 t363, .int .i64 t364, .string (⟨#[]⟩ : ByteArray)]) ?_ 3 _ rfl; (with_reducible repeat (first | refine blk_drewN ?_ _ | refine blk_drew ?_ | refine blk_alloc ?_ _)); refine blk_put (cs := #[.int .u64 t362, .int .u64 t363, .int .i64 0, .string (⟨#[]⟩ : ByteArray)]) ?_ 2 _ rfl; (with_reducible repeat (first | refine blk_drewN ?_ _ | refine blk_drew ?_ | refine blk_alloc ?_ _)); refine blk_put (cs := #[.int .u64 t362, .int .u64 0, .int .i64 0, .string (⟨#[]⟩ : ByteArray)]) ?_ 1 _ rfl; (with_reducible repeat (first | refine blk_drewN ?_ _ | refine blk_drew ?_ | refine blk_alloc ?_ _)); refine blk_put (cs := #[.int .u64 0, .int .u64 0, .int .i64 0, .string (⟨#[]⟩ : ByteArray)]) ?_ 0 _ rfl; (with_reducible repeat (first | refine blk_drewN ?_ _ | refine blk_drew ?_ | refine blk_alloc ?_ _)); exact BK367.out⟩, ⟨by repeat (first | (with_reducible first | exact HB.out | apply below_alloc | apply pw_below_drewN | apply below_drew1 | refine below_set ?_ GE358.out | refine below_set ?_ GE367.out) | exact HB.out)⟩⟩
       ·
        rw [if_neg c19] at H
        have c19b0 : decide ((t360.size : Int) < 60) = false := decide_eq_false c19
        have c19b1 : decide (t360.size < 60) = false := decide_eq_false (by omega)
        clear c19
        obtain ⟨ji23, hji23⟩ : ∃ j_ : Int, (mx (a0_3.size : Int) 46) = j_ := ⟨_, rfl⟩
        replace H : (if (t365.size : Int) = (ji23) then (if 0 ≤ (a0_3.size : Int) then (if (a0_3.size : Int) ≤ (t365.size : Int) then (crosswaylaw05_EtherBack.j0 k t359 ((t365.extract 0 ((a0_3.size : Int) : Int).toNat).toList != a0_3.toList) a0_0 a0_1 a0_2 a0_3 t362 t363 t364 t365) else (none)) else (none)) else (crosswaylaw05_EtherBack.j0 k t359 true a0_0 a0_1 a0_2 a0_3 t362 t363 t364 t365)) = some r := by first | (rw [hji23] at H; exact H) | (simp only [hji23] at H ⊢; exact H)
        (try (have hji23l : 46 ≤ ji23 := by (rw [← hji23]; unfold mx; (repeat' split) <;> omega)))
        (try (have hji23m : 0 ≤ ji23 := by omega))
        have hji23_ : (if (a0_3.size : Int) < 46 then 46 else (a0_3.size : Int)) = ji23 := hji23
        by_cases c24 : (t365.size : Int) = (ji23)
        ·
         rw [if_pos c24] at H
         have c24b0 : ((t365.size : Int) == (ji23)) = true := beq_iff_eq.mpr c24
         have c24b1 : ((t365.size : Int) != (ji23)) = false := bne_eq_false_iff_eq.mpr c24
         clear c24
         by_cases c25 : 0 ≤ (a0_3.size : Int)
         ·
          rw [if_pos c25] at H
          have c25b0 := eq_true c25
          have c25b1 : decide (0 ≤ (a0_3.size : Int)) = true := decide_eq_true c25
          clear c25
          by_cases c26 : (a0_3.size : Int) ≤ (t365.size : Int)
          ·
           rw [if_pos c26] at H
           have c26b0 := eq_true c26
           have c26b1 : decide ((a0_3.size : Int) ≤ (t365.size : Int)) = true := decide_eq_true c26
           clear c26
           have H' := Aside0.mk H
           clear H
           have hnb27 := NB367_358.out
           have hnc27 := NB358_367.out
           have hcz28_0 : w12.cell? ⟨gb367, 0, none⟩ = some (.int .u64 0) := (blk_cell BK367.out 0).trans rfl
           have hcz28_1 : w12.cell? ⟨gb367, 1, none⟩ = some (.int .u64 0) := (blk_cell BK367.out 1).trans rfl
           have hcz28_2 : w12.cell? ⟨gb367, 2, none⟩ = some (.int .i64 0) := (blk_cell BK367.out 2).trans rfl
           have hcz28_3 : w12.cell? ⟨gb367, 3, none⟩ = some (.string (⟨#[]⟩ : ByteArray)) := (blk_cell BK367.out 3).trans rfl
           have hfz28_0 := blk_frozen BK367.out 0
           have hfz28_1 := blk_frozen BK367.out 1
           have hfz28_2 := blk_frozen BK367.out 2
           have hfz28_3 := blk_frozen BK367.out 3
           have hcz29_0 : w12.cell? ⟨gb358, 0, none⟩ = some (.int .u64 a0_0) := (blk_cell BK358.out 0).trans rfl
           have hcz29_1 : w12.cell? ⟨gb358, 1, none⟩ = some (.int .u64 a0_1) := (blk_cell BK358.out 1).trans rfl
           have hcz29_2 : w12.cell? ⟨gb358, 2, none⟩ = some (.int .i64 a0_2) := (blk_cell BK358.out 2).trans rfl
           have hcz29_3 : w12.cell? ⟨gb358, 3, none⟩ = some (.string a0_3) := (blk_cell BK358.out 3).trans rfl
           have hfz29_0 := blk_frozen BK358.out 0
           have hfz29_1 := blk_frozen BK358.out 1
           have hfz29_2 := blk_frozen BK358.out 2
           have hfz29_3 := blk_frozen BK358.out 3
           go_wp2
           repeat (go_quiet (fail); try go_wp2)
           go_meet
           case rel => exact ⟨_, (((t365.extract 0 ((a0_3.size : Int) : Int).toNat).toList != a0_3.toList)), (by first | rfl | (simp; done) | (simp [*]; done)), H', ⟨by first | omega | exact Nat.le_refl _⟩, ⟨by (with_reducible repeat (first | refine blk_drewN ?_ _ | refine blk_drew ?_ | refine blk_alloc ?_ _)); refine blk_far ?_ NB358_367.out _; (with_reducible repeat (first | refine blk_drewN ?_ _ | refine blk_drew ?_ | refine blk_alloc ?_ _)); refine blk_far ?_ NB358_367.out _; (with_reducible repeat (first | refine blk_drewN ?_ _ | refine blk_drew ?_ | refine blk_alloc ?_ _)); refine blk_far ?_ NB358_367.out _; (with_reducible repeat (first | refine blk_drewN ?_ _ | refine blk_drew ?_ | refine blk_alloc ?_ _)); refine blk_far ?_ NB358_367.out _; (with_reducible repeat (first | refine blk_drewN ?_ _ | refine blk_drew ?_ | refine blk_alloc ?_ _)); exact BK358.out⟩, ⟨by (with_reducible repeat (first | refine blk_drewN ?_ _ | refine blk_drew ?_ | refine blk_alloc ?_ _)); refine blk_put (cs := #[.int .u64 t362, .int .u64 t363, .int .i64 t364, .string (⟨#[]⟩ : ByteArray)]) ?_ 3 _ rfl; (with_reducible repeat (first | refine blk_drewN ?_ _ | refine blk_drew ?_ | refine blk_alloc ?_ _)); refine blk_put (cs := #[.int .u64 t362, .int .u64 t363, .int .i64 0, .string (⟨#[]⟩ : ByteArray)]) ?_ 2 _ rfl; (with_reducible repeat (first | refine blk_drewN ?_ _ | refine blk_drew ?_ | refine blk_alloc ?_ _)); refine blk_put (cs := #[.int .u64 t362, .int .u64 0, .int .i64 0, .string (⟨#[]⟩ : ByteArray)]) ?_ 1 _ rfl; (with_reducible repeat (first | refine blk_drewN ?_ _ | refine blk_drew ?_ | refine blk_alloc ?_ _)); refine blk_put (cs := #[.int .u64 0, .int .u64 0, .int .i64 0, .string (⟨#[]⟩ : ByteArray)]) ?_ 0 _ rfl; (with_reducible repeat (first | refine blk_drewN ?_ _ | refine blk_drew ?_ | refine blk_alloc ?_ _)); exact BK367.out⟩, ⟨by repeat (first | (with_reducible first | exact HB.out | apply below_alloc | apply pw_below_drewN | apply below_drew1 | refine below_set ?_ GE358.out | refine below_set ?_ GE367.out) | exact HB.out)⟩⟩
          ·
           rw [if_neg c26] at H
           exact absurd H (by simp)
         ·
          rw [if_neg c25] at H
          exact absurd H (by simp)
        ·
         rw [if_neg c24] at H
         have c24b0 : ((t365.size : Int) == (ji23)) = false := beq_eq_false_iff_ne.mpr c24
         have c24b1 : ((t365.size : Int) != (ji23)) = true := bne_iff_ne.mpr c24
         have H' := Aside0.mk H
         clear H
         have hnb30 := NB367_358.out
         have hnc30 := NB358_367.out
         have hcz31_0 : w12.cell? ⟨gb367, 0, none⟩ = some (.int .u64 0) := (blk_cell BK367.out 0).trans rfl
         have hcz31_1 : w12.cell? ⟨gb367, 1, none⟩ = some (.int .u64 0) := (blk_cell BK367.out 1).trans rfl
         have hcz31_2 : w12.cell? ⟨gb367, 2, none⟩ = some (.int .i64 0) := (blk_cell BK367.out 2).trans rfl
         have hcz31_3 : w12.cell? ⟨gb367, 3, none⟩ = some (.string (⟨#[]⟩ : ByteArray)) := (blk_cell BK367.out 3).trans rfl
         have hfz31_0 := blk_frozen BK367.out 0
         have hfz31_1 := blk_frozen BK367.out 1
         have hfz31_2 := blk_frozen BK367.out 2
         have hfz31_3 := blk_frozen BK367.out 3
         have hcz32_0 : w12.cell? ⟨gb358, 0, none⟩ = some (.int .u64 a0_0) := (blk_cell BK358.out 0).trans rfl
         have hcz32_1 : w12.cell? ⟨gb358, 1, none⟩ = some (.int .u64 a0_1) := (blk_cell BK358.out 1).trans rfl
         have hcz32_2 : w12.cell? ⟨gb358, 2, none⟩ = some (.int .i64 a0_2) := (blk_cell BK358.out 2).trans rfl
         have hcz32_3 : w12.cell? ⟨gb358, 3, none⟩ = some (.string a0_3) := (blk_cell BK358.out 3).trans rfl
         have hfz32_0 := blk_frozen BK358.out 0
         have hfz32_1 := blk_frozen BK358.out 1
         have hfz32_2 := blk_frozen BK358.out 2
         have hfz32_3 := blk_frozen BK358.out 3
         go_wp2
         repeat (go_quiet (fail); try go_wp2)
         go_meet
         case rel => exact ⟨_, (true), (by first | rfl | (simp; done) | (simp [*]; done)), H', ⟨by first | omega | exact Nat.le_refl _⟩, ⟨by (with_reducible repeat (first | refine blk_drewN ?_ _ | refine blk_drew ?_ | refine blk_alloc ?_ _)); refine blk_far ?_ NB358_367.out _; (with_reducible repeat (first | refine blk_drewN ?_ _ | refine blk_drew ?_ | refine blk_alloc ?_ _)); refine blk_far ?_ NB358_367.out _; (with_reducible repeat (first | refine blk_drewN ?_ _ | refine blk_drew ?_ | refine blk_alloc ?_ _)); refine blk_far ?_ NB358_367.out _; (with_reducible repeat (first | refine blk_drewN ?_ _ | refine blk_drew ?_ | refine blk_alloc ?_ _)); refine blk_far ?_ NB358_367.out _; (with_reducible repeat (first | refine blk_drewN ?_ _ | refine blk_drew ?_ | refine blk_alloc ?_ _)); exact BK358.out⟩, ⟨by (with_reducible repeat (first | refine blk_drewN ?_ _ | refine blk_drew ?_ | refine blk_alloc ?_ _)); refine blk_put (cs := #[.int .u64 t362, .int .u64 t363, .int .i64 t364, .string (⟨#[]⟩ : ByteArray)]) ?_ 3 _ rfl; (with_reducible repeat (first | refine blk_drewN ?_ _ | refine blk_drew ?_ | refine blk_alloc ?_ _)); refine blk_put (cs := #[.int .u64 t362, .int .u64 t363, .int .i64 0, .string (⟨#[]⟩ : ByteArray)]) ?_ 2 _ rfl; (with_reducible repeat (first | refine blk_drewN ?_ _ | refine blk_drew ?_ | refine blk_alloc ?_ _)); refine blk_put (cs := #[.int .u64 t362, .int .u64 0, .int .i64 0, .string (⟨#[]⟩ : ByteArray)]) ?_ 1 _ rfl; (with_reducible repeat (first | refine blk_drewN ?_ _ | refine blk_drew ?_ | refine blk_alloc ?_ _)); refine blk_put (cs := #[.int .u64 0, .int .u64 0, .int .i64 0, .string (⟨#[]⟩ : ByteArray)]) ?_ 0 _ rfl; (with_reducible repeat (first | refine blk_drewN ?_ _ | refine blk_drew ?_ | refine blk_alloc ?_ _)); exact BK367.out⟩, ⟨by repeat (first | (with_reducible first | exact HB.out | apply below_alloc | apply pw_below_drewN | apply below_drew1 | refine below_set ?_ GE358.out | refine below_set ?_ GE367.out) | exact HB.out)⟩⟩
      ·
       rw [if_neg c18] at H
       have c18b0 : (t364 == a0_2) = false := beq_eq_false_iff_ne.mpr c18
       have c18b1 : (t364 != a0_2) = true := bne_iff_ne.mpr c18
       have H' := Aside0.mk H
       clear H
       have hnb33 := NB367_358.out
       have hnc33 := NB358_367.out
       have hcz34_0 : w12.cell? ⟨gb367, 0, none⟩ = some (.int .u64 0) := (blk_cell BK367.out 0).trans rfl
       have hcz34_1 : w12.cell? ⟨gb367, 1, none⟩ = some (.int .u64 0) := (blk_cell BK367.out 1).trans rfl
       have hcz34_2 : w12.cell? ⟨gb367, 2, none⟩ = some (.int .i64 0) := (blk_cell BK367.out 2).trans rfl
       have hcz34_3 : w12.cell? ⟨gb367, 3, none⟩ = some (.string (⟨#[]⟩ : ByteArray)) := (blk_cell BK367.out 3).trans rfl
       have hfz34_0 := blk_frozen BK367.out 0
       have hfz34_1 := blk_frozen BK367.out 1
       have hfz34_2 := blk_frozen BK367.out 2
       have hfz34_3 := blk_frozen BK367.out 3
       have hcz35_0 : w12.cell? ⟨gb358, 0, none⟩ = some (.int .u64 a0_0) := (blk_cell BK358.out 0).trans rfl
       have hcz35_1 : w12.cell? ⟨gb358, 1, none⟩ = some (.int .u64 a0_1) := (blk_cell BK358.out 1).trans rfl
       have hcz35_2 : w12.cell? ⟨gb358, 2, none⟩ = some (.int .i64 a0_2) := (blk_cell BK358.out 2).trans rfl
       have hcz35_3 : w12.cell? ⟨gb358, 3, none⟩ = some (.string a0_3) := (blk_cell BK358.out 3).trans rfl
       have hfz35_0 := blk_frozen BK358.out 0
       have hfz35_1 := blk_frozen BK358.out 1
       have hfz35_2 := blk_frozen BK358.out 2
       have hfz35_3 := blk_frozen BK358.out 3
       go_wp2
       repeat (go_quiet (fail); try go_wp2)
       go_meet
       case rel => exact ⟨_, (true), (by first | rfl | (simp; done) | (simp [*]; done)), H', ⟨by first | omega | exact Nat.le_refl _⟩, ⟨by (with_reducible repeat (first | refine blk_drewN ?_ _ | refine blk_drew ?_ | refine blk_alloc ?_ _)); refine blk_far ?_ NB358_367.out _; (with_reducible repeat (first | refine blk_drewN ?_ _ | refine blk_drew ?_ | refine blk_alloc ?_ _)); refine blk_far ?_ NB358_367.out _; (with_reducible repeat (first | refine blk_drewN ?_ _ | refine blk_drew ?_ | refine blk_alloc ?_ _)); refine blk_far ?_ NB358_367.out _; (with_reducible repeat (first | refine blk_drewN ?_ _ | refine blk_drew ?_ | refine blk_alloc ?_ _)); refine blk_far ?_ NB358_367.out _; (with_reducible repeat (first | refine blk_drewN ?_ _ | refine blk_drew ?_ | refine blk_alloc ?_ _)); exact BK358.out⟩, ⟨by (with_reducible repeat (first | refine blk_drewN ?_ _ | refine blk_drew ?_ | refine blk_alloc ?_ _)); refine blk_put (cs := #[.int .u64 t362, .int .u64 t363, .int .i64 t364, .string (⟨#[]⟩ : ByteArray)]) ?_ 3 _ rfl; (with_reducible repeat (first | refine blk_drewN ?_ _ | refine blk_drew ?_ | refine blk_alloc ?_ _)); refine blk_put (cs := #[.int .u64 t362, .int .u64 t363, .int .i64 0, .string (⟨#[]⟩ : ByteArray)]) ?_ 2 _ rfl; (with_reducible repeat (first | refine blk_drewN ?_ _ | refine blk_drew ?_ | refine blk_alloc ?_ _)); refine blk_put (cs := #[.int .u64 t362, .int .u64 0, .int .i64 0, .string (⟨#[]⟩ : ByteArray)]) ?_ 1 _ rfl; (with_reducible repeat (first | refine blk_drewN ?_ _ | refine blk_drew ?_ | refine blk_alloc ?_ _)); refine blk_put (cs := #[.int .u64 0, .int .u64 0, .int .i64 0, .string (⟨#[]⟩ : ByteArray)]) ?_ 0 _ rfl; (with_reducible repeat (first | refine blk_drewN ?_ _ | refine blk_drew ?_ | refine blk_alloc ?_ _)); exact BK367.out⟩, ⟨by repeat (first | (with_reducible first | exact HB.out | apply below_alloc | apply pw_below_drewN | apply below_drew1 | refine below_set ?_ GE358.out | refine below_set ?_ GE367.out) | exact HB.out)⟩⟩
     ·
      rw [if_neg c17] at H
      have c17b0 : (t363 == a0_1) = false := beq_eq_false_iff_ne.mpr c17
      have c17b1 : (t363 != a0_1) = true := bne_iff_ne.mpr c17
      have H' := Aside0.mk H
      clear H
      have hnb36 := NB367_358.out
      have hnc36 := NB358_367.out
      have hcz37_0 : w12.cell? ⟨gb367, 0, none⟩ = some (.int .u64 0) := (blk_cell BK367.out 0).trans rfl
      have hcz37_1 : w12.cell? ⟨gb367, 1, none⟩ = some (.int .u64 0) := (blk_cell BK367.out 1).trans rfl
      have hcz37_2 : w12.cell? ⟨gb367, 2, none⟩ = some (.int .i64 0) := (blk_cell BK367.out 2).trans rfl
      have hcz37_3 : w12.cell? ⟨gb367, 3, none⟩ = some (.string (⟨#[]⟩ : ByteArray)) := (blk_cell BK367.out 3).trans rfl
      have hfz37_0 := blk_frozen BK367.out 0
      have hfz37_1 := blk_frozen BK367.out 1
      have hfz37_2 := blk_frozen BK367.out 2
      have hfz37_3 := blk_frozen BK367.out 3
      have hcz38_0 : w12.cell? ⟨gb358, 0, none⟩ = some (.int .u64 a0_0) := (blk_cell BK358.out 0).trans rfl
      have hcz38_1 : w12.cell? ⟨gb358, 1, none⟩ = some (.int .u64 a0_1) := (blk_cell BK358.out 1).trans rfl
      have hcz38_2 : w12.cell? ⟨gb358, 2, none⟩ = some (.int .i64 a0_2) := (blk_cell BK358.out 2).trans rfl
      have hcz38_3 : w12.cell? ⟨gb358, 3, none⟩ = some (.string a0_3) := (blk_cell BK358.out 3).trans rfl
      have hfz38_0 := blk_frozen BK358.out 0
      have hfz38_1 := blk_frozen BK358.out 1
      have hfz38_2 := blk_frozen BK358.out 2
      have hfz38_3 := blk_frozen BK358.out 3
      go_wp2
      repeat (go_quiet (fail); try go_wp2)
      go_meet
      case rel => exact ⟨_, (true), (by first | rfl | (simp; done) | (simp [*]; done)), H', ⟨by first | omega | exact Nat.le_refl _⟩, ⟨by (with_reducible repeat (first | refine blk_drewN ?_ _ | refine blk_drew ?_ | refine blk_alloc ?_ _)); refine blk_far ?_ NB358_367.out _; (with_reducible repeat (first | refine blk_drewN ?_ _ | refine blk_drew ?_ | refine blk_alloc ?_ _)); refine blk_far ?_ NB358_367.out _; (with_reducible repeat (first | refine blk_drewN ?_ _ | refine blk_drew ?_ | refine blk_alloc ?_ _)); refine blk_far ?_ NB358_367.out _; (with_reducible repeat (first | refine blk_drewN ?_ _ | refine blk_drew ?_ | refine blk_alloc ?_ _)); refine blk_far ?_ NB358_367.out _; (with_reducible repeat (first | refine blk_drewN ?_ _ | refine blk_drew ?_ | refine blk_alloc ?_ _)); exact BK358.out⟩, ⟨by (with_reducible repeat (first | refine blk_drewN ?_ _ | refine blk_drew ?_ | refine blk_alloc ?_ _)); refine blk_put (cs := #[.int .u64 t362, .int .u64 t363, .int .i64 t364, .string (⟨#[]⟩ : ByteArray)]) ?_ 3 _ rfl; (with_reducible repeat (first | refine blk_drewN ?_ _ | refine blk_drew ?_ | refine blk_alloc ?_ _)); refine blk_put (cs := #[.int .u64 t362, .int .u64 t363, .int .i64 0, .string (⟨#[]⟩ : ByteArray)]) ?_ 2 _ rfl; (with_reducible repeat (first | refine blk_drewN ?_ _ | refine blk_drew ?_ | refine blk_alloc ?_ _)); refine blk_put (cs := #[.int .u64 t362, .int .u64 0, .int .i64 0, .string (⟨#[]⟩ : ByteArray)]) ?_ 1 _ rfl; (with_reducible repeat (first | refine blk_drewN ?_ _ | refine blk_drew ?_ | refine blk_alloc ?_ _)); refine blk_put (cs := #[.int .u64 0, .int .u64 0, .int .i64 0, .string (⟨#[]⟩ : ByteArray)]) ?_ 0 _ rfl; (with_reducible repeat (first | refine blk_drewN ?_ _ | refine blk_drew ?_ | refine blk_alloc ?_ _)); exact BK367.out⟩, ⟨by repeat (first | (with_reducible first | exact HB.out | apply below_alloc | apply pw_below_drewN | apply below_drew1 | refine below_set ?_ GE358.out | refine below_set ?_ GE367.out) | exact HB.out)⟩⟩
    ·
     rw [if_neg c16] at H
     have c16b0 : (t362 == a0_0) = false := beq_eq_false_iff_ne.mpr c16
     have c16b1 : (t362 != a0_0) = true := bne_iff_ne.mpr c16
     have H' := Aside0.mk H
     clear H
     have hnb39 := NB367_358.out
     have hnc39 := NB358_367.out
     have hcz40_0 : w12.cell? ⟨gb367, 0, none⟩ = some (.int .u64 0) := (blk_cell BK367.out 0).trans rfl
     have hcz40_1 : w12.cell? ⟨gb367, 1, none⟩ = some (.int .u64 0) := (blk_cell BK367.out 1).trans rfl
     have hcz40_2 : w12.cell? ⟨gb367, 2, none⟩ = some (.int .i64 0) := (blk_cell BK367.out 2).trans rfl
     have hcz40_3 : w12.cell? ⟨gb367, 3, none⟩ = some (.string (⟨#[]⟩ : ByteArray)) := (blk_cell BK367.out 3).trans rfl
     have hfz40_0 := blk_frozen BK367.out 0
     have hfz40_1 := blk_frozen BK367.out 1
     have hfz40_2 := blk_frozen BK367.out 2
     have hfz40_3 := blk_frozen BK367.out 3
     have hcz41_0 : w12.cell? ⟨gb358, 0, none⟩ = some (.int .u64 a0_0) := (blk_cell BK358.out 0).trans rfl
     have hcz41_1 : w12.cell? ⟨gb358, 1, none⟩ = some (.int .u64 a0_1) := (blk_cell BK358.out 1).trans rfl
     have hcz41_2 : w12.cell? ⟨gb358, 2, none⟩ = some (.int .i64 a0_2) := (blk_cell BK358.out 2).trans rfl
     have hcz41_3 : w12.cell? ⟨gb358, 3, none⟩ = some (.string a0_3) := (blk_cell BK358.out 3).trans rfl
     have hfz41_0 := blk_frozen BK358.out 0
     have hfz41_1 := blk_frozen BK358.out 1
     have hfz41_2 := blk_frozen BK358.out 2
     have hfz41_3 := blk_frozen BK358.out 3
     go_wp2
     repeat (go_quiet (fail); try go_wp2)
     go_meet
     case rel => exact ⟨_, (true), (by first | rfl | (simp; done) | (simp [*]; done)), H', ⟨by first | omega | exact Nat.le_refl _⟩, ⟨by (with_reducible repeat (first | refine blk_drewN ?_ _ | refine blk_drew ?_ | refine blk_alloc ?_ _)); refine blk_far ?_ NB358_367.out _; (with_reducible repeat (first | refine blk_drewN ?_ _ | refine blk_drew ?_ | refine blk_alloc ?_ _)); refine blk_far ?_ NB358_367.out _; (with_reducible repeat (first | refine blk_drewN ?_ _ | refine blk_drew ?_ | refine blk_alloc ?_ _)); refine blk_far ?_ NB358_367.out _; (with_reducible repeat (first | refine blk_drewN ?_ _ | refine blk_drew ?_ | refine blk_alloc ?_ _)); refine blk_far ?_ NB358_367.out _; (with_reducible repeat (first | refine blk_drewN ?_ _ | refine blk_drew ?_ | refine blk_alloc ?_ _)); exact BK358.out⟩, ⟨by (with_reducible repeat (first | refine blk_drewN ?_ _ | refine blk_drew ?_ | refine blk_alloc ?_ _)); refine blk_put (cs := #[.int .u64 t362, .int .u64 t363, .int .i64 t364, .string (⟨#[]⟩ : ByteArray)]) ?_ 3 _ rfl; (with_reducible repeat (first | refine blk_drewN ?_ _ | refine blk_drew ?_ | refine blk_alloc ?_ _)); refine blk_put (cs := #[.int .u64 t362, .int .u64 t363, .int .i64 0, .string (⟨#[]⟩ : ByteArray)]) ?_ 2 _ rfl; (with_reducible repeat (first | refine blk_drewN ?_ _ | refine blk_drew ?_ | refine blk_alloc ?_ _)); refine blk_put (cs := #[.int .u64 t362, .int .u64 0, .int .i64 0, .string (⟨#[]⟩ : ByteArray)]) ?_ 1 _ rfl; (with_reducible repeat (first | refine blk_drewN ?_ _ | refine blk_drew ?_ | refine blk_alloc ?_ _)); refine blk_put (cs := #[.int .u64 0, .int .u64 0, .int .i64 0, .string (⟨#[]⟩ : ByteArray)]) ?_ 0 _ rfl; (with_reducible repeat (first | refine blk_drewN ?_ _ | refine blk_drew ?_ | refine blk_alloc ?_ _)); exact BK367.out⟩, ⟨by repeat (first | (with_reducible first | exact HB.out | apply below_alloc | apply pw_below_drewN | apply below_drew1 | refine below_set ?_ GE358.out | refine below_set ?_ GE367.out) | exact HB.out)⟩⟩
   ·
    rw [if_neg c15] at H
    have c15b0 : (t366 == 0) = false := beq_eq_false_iff_ne.mpr c15
    have c15b1 : (t366 != 0) = true := bne_iff_ne.mpr c15
    (first | rw [c15b0] | (simp only [i64_w, i32_w]; rw [c15b0]) | skip)
    have H' := Aside0.mk H
    clear H
    go_wp2
    repeat (go_quiet (fail); try go_wp2)
    go_meet
    case rel => exact ⟨_, (true), (by first | rfl | (simp; done) | (simp [*]; done)), H', ⟨by first | omega | exact Nat.le_refl _⟩, ⟨by (with_reducible repeat (first | refine blk_drewN ?_ _ | refine blk_drew ?_ | refine blk_alloc ?_ _)); refine blk_far ?_ NB358_367.out _; (with_reducible repeat (first | refine blk_drewN ?_ _ | refine blk_drew ?_ | refine blk_alloc ?_ _)); refine blk_far ?_ NB358_367.out _; (with_reducible repeat (first | refine blk_drewN ?_ _ | refine blk_drew ?_ | refine blk_alloc ?_ _)); refine blk_far ?_ NB358_367.out _; (with_reducible repeat (first | refine blk_drewN ?_ _ | refine blk_drew ?_ | refine blk_alloc ?_ _)); refine blk_far ?_ NB358_367.out _; (with_reducible repeat (first | refine blk_drewN ?_ _ | refine blk_drew ?_ | refine blk_alloc ?_ _)); exact BK358.out⟩, ⟨by (with_reducible repeat (first | refine blk_drewN ?_ _ | refine blk_drew ?_ | refine blk_alloc ?_ _)); refine blk_put (cs := #[.int .u64 t362, .int .u64 t363, .int .i64 t364, .string (⟨#[]⟩ : ByteArray)]) ?_ 3 _ rfl; (with_reducible repeat (first | refine blk_drewN ?_ _ | refine blk_drew ?_ | refine blk_alloc ?_ _)); refine blk_put (cs := #[.int .u64 t362, .int .u64 t363, .int .i64 0, .string (⟨#[]⟩ : ByteArray)]) ?_ 2 _ rfl; (with_reducible repeat (first | refine blk_drewN ?_ _ | refine blk_drew ?_ | refine blk_alloc ?_ _)); refine blk_put (cs := #[.int .u64 t362, .int .u64 0, .int .i64 0, .string (⟨#[]⟩ : ByteArray)]) ?_ 1 _ rfl; (with_reducible repeat (first | refine blk_drewN ?_ _ | refine blk_drew ?_ | refine blk_alloc ?_ _)); refine blk_put (cs := #[.int .u64 0, .int .u64 0, .int .i64 0, .string (⟨#[]⟩ : ByteArray)]) ?_ 0 _ rfl; (with_reducible repeat (first | refine blk_drewN ?_ _ | refine blk_drew ?_ | refine blk_alloc ?_ _)); exact BK367.out⟩, ⟨by repeat (first | (with_reducible first | exact HB.out | apply below_alloc | apply pw_below_drewN | apply below_drew1 | refine below_set ?_ GE358.out | refine below_set ?_ GE367.out) | exact HB.out)⟩⟩
  case rest =>
   clear HC6
   try clear c1
   try clear c2
   try clear p2
   try clear c3
   try clear c4
   try clear c4b0
   try clear c4b1
   try clear c5
   try clear c13
   try clear c15
   try clear c15b0
   try clear c15b1
   try clear c16
   try clear c16b0
   try clear c16b1
   try clear c17
   try clear c17b0
   try clear c17b1
   try clear c18
   try clear c18b0
   try clear c18b1
   try clear c19
   try clear c19b0
   try clear c19b1
   try clear c20
   try clear c24
   try clear c24b0
   try clear c24b1
   try clear c25
   try clear c25b0
   try clear c25b1
   try clear c26
   try clear c26b0
   try clear c26b1
   try clear c27
   try clear c30
   try clear c33
   try clear c36
   try clear c39
   try clear hcz14_0
   try clear hcz14_1
   try clear hcz14_2
   try clear hcz14_3
   try clear hcz21_0
   try clear hcz21_1
   try clear hcz21_2
   try clear hcz21_3
   try clear hcz22_0
   try clear hcz22_1
   try clear hcz22_2
   try clear hcz22_3
   try clear hcz28_0
   try clear hcz28_1
   try clear hcz28_2
   try clear hcz28_3
   try clear hcz29_0
   try clear hcz29_1
   try clear hcz29_2
   try clear hcz29_3
   try clear hcz31_0
   try clear hcz31_1
   try clear hcz31_2
   try clear hcz31_3
   try clear hcz32_0
   try clear hcz32_1
   try clear hcz32_2
   try clear hcz32_3
   try clear hcz34_0
   try clear hcz34_1
   try clear hcz34_2
   try clear hcz34_3
   try clear hcz35_0
   try clear hcz35_1
   try clear hcz35_2
   try clear hcz35_3
   try clear hcz37_0
   try clear hcz37_1
   try clear hcz37_2
   try clear hcz37_3
   try clear hcz38_0
   try clear hcz38_1
   try clear hcz38_2
   try clear hcz38_3
   try clear hcz40_0
   try clear hcz40_1
   try clear hcz40_2
   try clear hcz40_3
   try clear hcz41_0
   try clear hcz41_1
   try clear hcz41_2
   try clear hcz41_3
   try clear hcz9_0
   try clear hcz9_1
   try clear hcz9_2
   try clear hcz9_3
   try clear hfz14_0
   try clear hfz14_1
   try clear hfz14_2
   try clear hfz14_3
   try clear hfz21_0
   try clear hfz21_1
   try clear hfz21_2
   try clear hfz21_3
   try clear hfz22_0
   try clear hfz22_1
   try clear hfz22_2
   try clear hfz22_3
   try clear hfz28_0
   try clear hfz28_1
   try clear hfz28_2
   try clear hfz28_3
   try clear hfz29_0
   try clear hfz29_1
   try clear hfz29_2
   try clear hfz29_3
   try clear hfz31_0
   try clear hfz31_1
   try clear hfz31_2
   try clear hfz31_3
   try clear hfz32_0
   try clear hfz32_1
   try clear hfz32_2
   try clear hfz32_3
   try clear hfz34_0
   try clear hfz34_1
   try clear hfz34_2
   try clear hfz34_3
   try clear hfz35_0
   try clear hfz35_1
   try clear hfz35_2
   try clear hfz35_3
   try clear hfz37_0
   try clear hfz37_1
   try clear hfz37_2
   try clear hfz37_3
   try clear hfz38_0
   try clear hfz38_1
   try clear hfz38_2
   try clear hfz38_3
   try clear hfz40_0
   try clear hfz40_1
   try clear hfz40_2
   try clear hfz40_3
   try clear hfz41_0
   try clear hfz41_1
   try clear hfz41_2
   try clear hfz41_3
   try clear hfz9_0
   try clear hfz9_1
   try clear hfz9_2
   try clear hfz9_3
   obtain ⟨kq, x75_5, rfl, HA, HJ5, BK358, BK367, HB⟩ := hcut
   cases kq with
   | zero => exact absurd HA.out (by simp [crosswaylaw05_EtherBack.j0])
   | succ kj5 =>
    have H := HA.out
    clear HA
    simp only [crosswaylaw05_EtherBack.j0] at H
    by_cases c42 : x75_5 = true
    ·
     subst c42
     rw [if_pos rfl] at H
     exact absurd ((Option.some.inj H).trans HRT.out) (by decide)
    ·
     replace c42 := Bool.eq_false_iff.mpr c42
     subst c42
     rw [if_neg (show ¬ (false = true) by decide)] at H
     have H' := Aside0.mk H
     clear H
     have hnb43 := NB358_367.out
     have hnc43 := NB367_358.out
     have hcz44_0 : wc.cell? ⟨gb358, 0, none⟩ = some (.int .u64 a0_0) := (blk_cell BK358.out 0).trans rfl
     have hcz44_1 : wc.cell? ⟨gb358, 1, none⟩ = some (.int .u64 a0_1) := (blk_cell BK358.out 1).trans rfl
     have hcz44_2 : wc.cell? ⟨gb358, 2, none⟩ = some (.int .i64 a0_2) := (blk_cell BK358.out 2).trans rfl
     have hcz44_3 : wc.cell? ⟨gb358, 3, none⟩ = some (.string a0_3) := (blk_cell BK358.out 3).trans rfl
     have hfz44_0 := blk_frozen BK358.out 0
     have hfz44_1 := blk_frozen BK358.out 1
     have hfz44_2 := blk_frozen BK358.out 2
     have hfz44_3 := blk_frozen BK358.out 3
     go_wp2
     repeat (go_quiet (fail); try go_wp2)
     go_loopg [8] kj5 (fun kq v8 w' => ∃ (x8_2 : Int), v8 = .int .i64 x8_2 ∧ Aside0 (crosswaylaw05_EtherBack.l0 kq t359 x8_2 t362 t363 t364 t365 = some r) ∧ Aside0 (kq ≤ kj5) ∧ Aside0 (w'.heap[gb358]? = some (.cells #[.int .u64 a0_0, .int .u64 a0_1, .int .i64 a0_2, .string a0_3] 25 (0, 0))) ∧ Aside0 (w'.heap[gb367]? = some (.cells #[.int .u64 t362, .int .u64 t363, .int .i64 t364, .string t365] 25 (0, 0))) ∧ Aside0 (Below w.heap.size w w'))
     case atStart => exact ⟨((a0_3.size : Int)), (by first | rfl | (simp; done) | (simp [*]; done)), H', ⟨Nat.le_refl _⟩, ⟨by (with_reducible repeat (first | refine blk_drewN ?_ _ | refine blk_drew ?_ | refine blk_alloc ?_ _)); exact BK358.out⟩, ⟨by (with_reducible repeat (first | refine blk_drewN ?_ _ | refine blk_drew ?_ | refine blk_alloc ?_ _)); exact BK367.out⟩, ⟨by repeat (first | (with_reducible first | exact HB.out | apply below_alloc | apply pw_below_drewN | apply below_drew1 | refine below_set ?_ GE358.out | refine below_set ?_ GE367.out) | exact HB.out)⟩⟩
     case round =>
      clear H'
      try clear c1
      try clear c2
      try clear p2
      try clear c3
      try clear c4
      try clear c4b0
      try clear c4b1
      try clear c5
      try clear c13
      try clear c15
      try clear c15b0
      try clear c15b1
      try clear c16
      try clear c16b0
      try clear c16b1
      try clear c17
      try clear c17b0
      try clear c17b1
      try clear c18
      try clear c18b0
      try clear c18b1
      try clear c19
      try clear c19b0
      try clear c19b1
      try clear c20
      try clear c24
      try clear c24b0
      try clear c24b1
      try clear c25
      try clear c25b0
      try clear c25b1
      try clear c26
      try clear c26b0
      try clear c26b1
      try clear c27
      try clear c30
      try clear c33
      try clear c36
      try clear c39
      try clear c42
      try clear c43
      try clear hcz14_0
      try clear hcz14_1
      try clear hcz14_2
      try clear hcz14_3
      try clear hcz21_0
      try clear hcz21_1
      try clear hcz21_2
      try clear hcz21_3
      try clear hcz22_0
      try clear hcz22_1
      try clear hcz22_2
      try clear hcz22_3
      try clear hcz28_0
      try clear hcz28_1
      try clear hcz28_2
      try clear hcz28_3
      try clear hcz29_0
      try clear hcz29_1
      try clear hcz29_2
      try clear hcz29_3
      try clear hcz31_0
      try clear hcz31_1
      try clear hcz31_2
      try clear hcz31_3
      try clear hcz32_0
      try clear hcz32_1
      try clear hcz32_2
      try clear hcz32_3
      try clear hcz34_0
      try clear hcz34_1
      try clear hcz34_2
      try clear hcz34_3
      try clear hcz35_0
      try clear hcz35_1
      try clear hcz35_2
      try clear hcz35_3
      try clear hcz37_0
      try clear hcz37_1
      try clear hcz37_2
      try clear hcz37_3
      try clear hcz38_0
      try clear hcz38_1
      try clear hcz38_2
      try clear hcz38_3
      try clear hcz40_0
      try clear hcz40_1
      try clear hcz40_2
      try clear hcz40_3
      try clear hcz41_0
      try clear hcz41_1
      try clear hcz41_2
      try clear hcz41_3
      try clear hcz44_0
      try clear hcz44_1
      try clear hcz44_2
      try clear hcz44_3
      try clear hcz9_0
      try clear hcz9_1
      try clear hcz9_2
      try clear hcz9_3
      try clear hfz14_0
      try clear hfz14_1
      try clear hfz14_2
      try clear hfz14_3
      try clear hfz21_0
      try clear hfz21_1
      try clear hfz21_2
      try clear hfz21_3
      try clear hfz22_0
      try clear hfz22_1
      try clear hfz22_2
      try clear hfz22_3
      try clear hfz28_0
      try clear hfz28_1
      try clear hfz28_2
      try clear hfz28_3
      try clear hfz29_0
      try clear hfz29_1
      try clear hfz29_2
      try clear hfz29_3
      try clear hfz31_0
      try clear hfz31_1
      try clear hfz31_2
      try clear hfz31_3
      try clear hfz32_0
      try clear hfz32_1
      try clear hfz32_2
      try clear hfz32_3
      try clear hfz34_0
      try clear hfz34_1
      try clear hfz34_2
      try clear hfz34_3
      try clear hfz35_0
      try clear hfz35_1
      try clear hfz35_2
      try clear hfz35_3
      try clear hfz37_0
      try clear hfz37_1
      try clear hfz37_2
      try clear hfz37_3
      try clear hfz38_0
      try clear hfz38_1
      try clear hfz38_2
      try clear hfz38_3
      try clear hfz40_0
      try clear hfz40_1
      try clear hfz40_2
      try clear hfz40_3
      try clear hfz41_0
      try clear hfz41_1
      try clear hfz41_2
      try clear hfz41_3
      try clear hfz44_0
      try clear hfz44_1
      try clear hfz44_2
      try clear hfz44_3
      try clear hfz9_0
      try clear hfz9_1
      try clear hfz9_2
      try clear hfz9_3
      try clear p2
      obtain ⟨x8_2, rfl, HA, HK2, BK358, BK367, HB⟩ := hrel
      cases gk with
      | zero => exact absurd HA.out (by simp [crosswaylaw05_EtherBack.l0])
      | succ k2 =>
       have H := HA.out
       clear HA
       simp only [crosswaylaw05_EtherBack.l0] at H
       by_cases c45 : x8_2 < (t365.size : Int)
       ·
        rw [if_pos c45] at H
        have c45b0 : decide (x8_2 < (t365.size : Int)) = true := decide_eq_true c45
        clear c45
        by_cases c46 : 0 ≤ x8_2
        ·
         rw [if_pos c46] at H
         have c46b0 : decide (0 ≤ x8_2) = true := decide_eq_true c46
         clear c46
         by_cases c48 : (bt t365 x8_2) = 0
         ·
          rw [if_pos c48] at H
          have c48b0 : ((bt t365 x8_2) == 0) = true := beq_iff_eq.mpr c48
          have c48b1 : ((bt t365 x8_2) != 0) = false := bne_eq_false_iff_eq.mpr c48
          clear c48
          have H' := Aside0.mk H
          clear H
          have hnb49 := NB367_358.out
          have hnc49 := NB358_367.out
          have hcz50_0 : wr.cell? ⟨gb367, 0, none⟩ = some (.int .u64 t362) := (blk_cell BK367.out 0).trans rfl
          have hcz50_1 : wr.cell? ⟨gb367, 1, none⟩ = some (.int .u64 t363) := (blk_cell BK367.out 1).trans rfl
          have hcz50_2 : wr.cell? ⟨gb367, 2, none⟩ = some (.int .i64 t364) := (blk_cell BK367.out 2).trans rfl
          have hcz50_3 : wr.cell? ⟨gb367, 3, none⟩ = some (.string t365) := (blk_cell BK367.out 3).trans rfl
          have hfz50_0 := blk_frozen BK367.out 0
          have hfz50_1 := blk_frozen BK367.out 1
          have hfz50_2 := blk_frozen BK367.out 2
          have hfz50_3 := blk_frozen BK367.out 3
          have p47 : 0 ≤ (x8_2 : Int) := of_decide_eq_true (by first | (with_reducible assumption) | assumption)
          have q47 : x8_2 < (t365.size : Int) := of_decide_eq_true (by first | (with_reducible assumption) | assumption)
          have hx47 := bt_at t365 x8_2
          replace p47 := eq_true p47
          replace q47 := eq_true q47
          go_wp2
          repeat (go_quiet (fail); try go_wp2)
          go_roundg k2
          case measure => have := HJ5.out; have := HK2.out; omega
          case rel => exact ⟨(wrap64 (x8_2 + 1)), (by first | rfl | (simp; done) | (simp [*]; done)), H', ⟨by have := HJ5.out; have := HK2.out; omega⟩, ⟨by (with_reducible repeat (first | refine blk_drewN ?_ _ | refine blk_drew ?_ | refine blk_alloc ?_ _)); exact BK358.out⟩, ⟨by (with_reducible repeat (first | refine blk_drewN ?_ _ | refine blk_drew ?_ | refine blk_alloc ?_ _)); exact BK367.out⟩, ⟨by repeat (first | (with_reducible first | exact HB.out | apply below_alloc | apply pw_below_drewN | apply below_drew1 | refine below_set ?_ GE358.out | refine below_set ?_ GE367.out) | exact HB.out)⟩⟩
         ·
          rw [if_neg c48] at H
          have c48b0 : ((bt t365 x8_2) == 0) = false := beq_eq_false_iff_ne.mpr c48
          have c48b1 : ((bt t365 x8_2) != 0) = true := bne_iff_ne.mpr c48
          exact absurd ((Option.some.inj H).trans HRT.out) (by decide)
        ·
         rw [if_neg c46] at H
         exact absurd H (by simp)
       ·
        rw [if_neg c45] at H
        have c45b0 : decide (x8_2 < (t365.size : Int)) = false := decide_eq_false c45
        clear c45
        obtain rfl := Option.some.inj H
        have hnb51 := NB367_358.out
        have hnc51 := NB358_367.out
        have hcz52_0 : wr.cell? ⟨gb367, 0, none⟩ = some (.int .u64 t362) := (blk_cell BK367.out 0).trans rfl
        have hcz52_1 : wr.cell? ⟨gb367, 1, none⟩ = some (.int .u64 t363) := (blk_cell BK367.out 1).trans rfl
        have hcz52_2 : wr.cell? ⟨gb367, 2, none⟩ = some (.int .i64 t364) := (blk_cell BK367.out 2).trans rfl
        have hcz52_3 : wr.cell? ⟨gb367, 3, none⟩ = some (.string t365) := (blk_cell BK367.out 3).trans rfl
        have hfz52_0 := blk_frozen BK367.out 0
        have hfz52_1 := blk_frozen BK367.out 1
        have hfz52_2 := blk_frozen BK367.out 2
        have hfz52_3 := blk_frozen BK367.out 3
        go_wp2
        repeat (go_quiet (fail); try go_wp2)
        go_ret
        exact ⟨by first | rfl | (simp [errW_none, errW_some] <;> rfl) | (simp [*, errW_none, errW_some] <;> rfl), by repeat (first | (with_reducible first | exact HB.out | apply below_alloc | apply pw_below_drewN | apply below_drew1 | refine below_set ?_ GE358.out | refine below_set ?_ GE367.out) | exact HB.out)⟩
 ·
  rw [if_neg c4] at H
  have c4b0 : (t361 == 0) = false := beq_eq_false_iff_ne.mpr c4
  have c4b1 : (t361 != 0) = true := bne_iff_ne.mpr c4
  by_cases c53 : t359 = true
  ·
   subst c53
   rw [if_pos rfl] at H
   obtain rfl := Option.some.inj H
   go_enter Tryd.func5, Tryd.ntmps5
   go_wp2_with (first | ((with_reducible refine gate_dst (N := 1) rfl ?_); (try (refine gate_guard (by rfl) ?_; dsimp only)); refine box_event ?hg (N := 1) ?hd (cs := #[.int .u64 a0_0, .int .u64 a0_1, .int .i64 a0_2, .string a0_3]) (t := 25) ?hr ?_; (case hd => rfl); (case hg => rfl); (case hr => first | (go_simp; done) | (go_simp; rfl)); intro gb358 hg w54 hbox hb; have n0_ := Aside0.mk (below_step (by repeat (first | (with_reducible first | exact HB.out | apply below_alloc | apply pw_below_drewN | apply below_drew1) | exact HB.out)) hb); have n1_ := Aside0.mk (hbox); have n2_ := Aside0.mk ((by rw [hg]; exact (below_size (by repeat (first | (with_reducible first | exact HB.out | apply below_alloc | apply pw_below_drewN | apply below_drew1) | exact HB.out))) : w.heap.size ≤ gb358)); have n3_ := Aside0.mk ((by rw [hg]; exact (below_size (by repeat (first | (with_reducible first | exact HB.out | apply below_alloc | apply pw_below_drewN | apply below_drew1) | exact HB.out))) : w.heap.size ≤ gb358)); clear HB; have HB := n0_; have BK358 := n1_; have GW358 := n2_; have GE358 := n3_; clear n0_ n1_ n2_ n3_; clear hb hbox hg) | (go_at_call 10; (with_reducible refine Calls.mono (crosswaylaw05_awake.calls k  true _ A2.out ?hgl_) ?_); (case hgl_ => exact ether_Glob_below HGL.out (by repeat (first | (with_reducible first | exact HB.out | apply below_alloc | apply pw_below_drewN | apply below_drew1 | refine below_set ?_ GE358.out) | exact HB.out))); rintro e w55 ⟨rfl, hb⟩; have n0_ := Aside0.mk (blk_below (g := gb358) (o := .cells #[.int .u64 a0_0, .int .u64 a0_1, .int .i64 a0_2, .string a0_3] 25 (0, 0)) (by (with_reducible repeat (first | refine blk_drewN ?_ _ | refine blk_drew ?_ | refine blk_alloc ?_ _)); exact BK358.out) hb); have n1_ := Aside0.mk (below_step (by repeat (first | (with_reducible first | exact HB.out | apply below_alloc | apply pw_below_drewN | apply below_drew1 | refine below_set ?_ GE358.out) | exact HB.out)) hb); clear BK358; clear HB; have BK358 := n0_; have HB := n1_; clear n0_ n1_; (try clear hb); (try clear hb2); (try clear hk); (try clear hi); obtain ⟨hcz56_0, hcz56_1, hcz56_2, hcz56_3⟩ := MBlk.c4 BK358.out; obtain ⟨hfz56_0, hfz56_1, hfz56_2, hfz56_3⟩ := MBlk.f4 BK358.out) | (go_at_call 11; (with_reducible refine (ether_Lay.calls k a0_0 a0_1 a0_2 a0_3 t360 t361 _ A3.out).mono ?_); rintro e w57 ⟨rfl, hb⟩; have n0_ := Aside0.mk (blk_below (g := gb358) (o := .cells #[.int .u64 a0_0, .int .u64 a0_1, .int .i64 a0_2, .string a0_3] 25 (0, 0)) (by (with_reducible repeat (first | refine blk_drewN ?_ _ | refine blk_drew ?_ | refine blk_alloc ?_ _)); exact BK358.out) hb); have n1_ := Aside0.mk (below_step (by repeat (first | (with_reducible first | exact HB.out | apply below_alloc | apply pw_below_drewN | apply below_drew1 | refine below_set ?_ GE358.out) | exact HB.out)) hb); clear BK358; clear HB; have BK358 := n0_; have HB := n1_; clear n0_ n1_; (try clear hb); (try clear hb2); (try clear hk); (try clear hi)))
   repeat (go_quiet (first | ((with_reducible refine gate_dst (N := 1) rfl ?_); (try (refine gate_guard (by rfl) ?_; dsimp only)); refine box_event ?hg (N := 1) ?hd (cs := #[.int .u64 a0_0, .int .u64 a0_1, .int .i64 a0_2, .string a0_3]) (t := 25) ?hr ?_; (case hd => rfl); (case hg => rfl); (case hr => first | (go_simp; done) | (go_simp; rfl)); intro gb358 hg w54 hbox hb; have n0_ := Aside0.mk (below_step (by repeat (first | (with_reducible first | exact HB.out | apply below_alloc | apply pw_below_drewN | apply below_drew1) | exact HB.out)) hb); have n1_ := Aside0.mk (hbox); have n2_ := Aside0.mk ((by rw [hg]; exact (below_size (by repeat (first | (with_reducible first | exact HB.out | apply below_alloc | apply pw_below_drewN | apply below_drew1) | exact HB.out))) : w.heap.size ≤ gb358)); have n3_ := Aside0.mk ((by rw [hg]; exact (below_size (by repeat (first | (with_reducible first | exact HB.out | apply below_alloc | apply pw_below_drewN | apply below_drew1) | exact HB.out))) : w.heap.size ≤ gb358)); clear HB; have HB := n0_; have BK358 := n1_; have GW358 := n2_; have GE358 := n3_; clear n0_ n1_ n2_ n3_; clear hb hbox hg) | (go_at_call 10; (with_reducible refine Calls.mono (crosswaylaw05_awake.calls k  true _ A2.out ?hgl_) ?_); (case hgl_ => exact ether_Glob_below HGL.out (by repeat (first | (with_reducible first | exact HB.out | apply below_alloc | apply pw_below_drewN | apply below_drew1 | refine below_set ?_ GE358.out) | exact HB.out))); rintro e w55 ⟨rfl, hb⟩; have n0_ := Aside0.mk (blk_below (g := gb358) (o := .cells #[.int .u64 a0_0, .int .u64 a0_1, .int .i64 a0_2, .string a0_3] 25 (0, 0)) (by (with_reducible repeat (first | refine blk_drewN ?_ _ | refine blk_drew ?_ | refine blk_alloc ?_ _)); exact BK358.out) hb); have n1_ := Aside0.mk (below_step (by repeat (first | (with_reducible first | exact HB.out | apply below_alloc | apply pw_below_drewN | apply below_drew1 | refine below_set ?_ GE358.out) | exact HB.out)) hb); clear BK358; clear HB; have BK358 := n0_; have HB := n1_; clear n0_ n1_; (try clear hb); (try clear hb2); (try clear hk); (try clear hi); obtain ⟨hcz56_0, hcz56_1, hcz56_2, hcz56_3⟩ := MBlk.c4 BK358.out; obtain ⟨hfz56_0, hfz56_1, hfz56_2, hfz56_3⟩ := MBlk.f4 BK358.out) | (go_at_call 11; (with_reducible refine (ether_Lay.calls k a0_0 a0_1 a0_2 a0_3 t360 t361 _ A3.out).mono ?_); rintro e w57 ⟨rfl, hb⟩; have n0_ := Aside0.mk (blk_below (g := gb358) (o := .cells #[.int .u64 a0_0, .int .u64 a0_1, .int .i64 a0_2, .string a0_3] 25 (0, 0)) (by (with_reducible repeat (first | refine blk_drewN ?_ _ | refine blk_drew ?_ | refine blk_alloc ?_ _)); exact BK358.out) hb); have n1_ := Aside0.mk (below_step (by repeat (first | (with_reducible first | exact HB.out | apply below_alloc | apply pw_below_drewN | apply below_drew1 | refine below_set ?_ GE358.out) | exact HB.out)) hb); clear BK358; clear HB; have BK358 := n0_; have HB := n1_; clear n0_ n1_; (try clear hb); (try clear hb2); (try clear hk); (try clear hi))); try go_wp2_with (first | ((with_reducible refine gate_dst (N := 1) rfl ?_); (try (refine gate_guard (by rfl) ?_; dsimp only)); refine box_event ?hg (N := 1) ?hd (cs := #[.int .u64 a0_0, .int .u64 a0_1, .int .i64 a0_2, .string a0_3]) (t := 25) ?hr ?_; (case hd => rfl); (case hg => rfl); (case hr => first | (go_simp; done) | (go_simp; rfl)); intro gb358 hg w54 hbox hb; have n0_ := Aside0.mk (below_step (by repeat (first | (with_reducible first | exact HB.out | apply below_alloc | apply pw_below_drewN | apply below_drew1) | exact HB.out)) hb); have n1_ := Aside0.mk (hbox); have n2_ := Aside0.mk ((by rw [hg]; exact (below_size (by repeat (first | (with_reducible first | exact HB.out | apply below_alloc | apply pw_below_drewN | apply below_drew1) | exact HB.out))) : w.heap.size ≤ gb358)); have n3_ := Aside0.mk ((by rw [hg]; exact (below_size (by repeat (first | (with_reducible first | exact HB.out | apply below_alloc | apply pw_below_drewN | apply below_drew1) | exact HB.out))) : w.heap.size ≤ gb358)); clear HB; have HB := n0_; have BK358 := n1_; have GW358 := n2_; have GE358 := n3_; clear n0_ n1_ n2_ n3_; clear hb hbox hg) | (go_at_call 10; (with_reducible refine Calls.mono (crosswaylaw05_awake.calls k  true _ A2.out ?hgl_) ?_); (case hgl_ => exact ether_Glob_below HGL.out (by repeat (first | (with_reducible first | exact HB.out | apply below_alloc | apply pw_below_drewN | apply below_drew1 | refine below_set ?_ GE358.out) | exact HB.out))); rintro e w55 ⟨rfl, hb⟩; have n0_ := Aside0.mk (blk_below (g := gb358) (o := .cells #[.int .u64 a0_0, .int .u64 a0_1, .int .i64 a0_2, .string a0_3] 25 (0, 0)) (by (with_reducible repeat (first | refine blk_drewN ?_ _ | refine blk_drew ?_ | refine blk_alloc ?_ _)); exact BK358.out) hb); have n1_ := Aside0.mk (below_step (by repeat (first | (with_reducible first | exact HB.out | apply below_alloc | apply pw_below_drewN | apply below_drew1 | refine below_set ?_ GE358.out) | exact HB.out)) hb); clear BK358; clear HB; have BK358 := n0_; have HB := n1_; clear n0_ n1_; (try clear hb); (try clear hb2); (try clear hk); (try clear hi); obtain ⟨hcz56_0, hcz56_1, hcz56_2, hcz56_3⟩ := MBlk.c4 BK358.out; obtain ⟨hfz56_0, hfz56_1, hfz56_2, hfz56_3⟩ := MBlk.f4 BK358.out) | (go_at_call 11; (with_reducible refine (ether_Lay.calls k a0_0 a0_1 a0_2 a0_3 t360 t361 _ A3.out).mono ?_); rintro e w57 ⟨rfl, hb⟩; have n0_ := Aside0.mk (blk_below (g := gb358) (o := .cells #[.int .u64 a0_0, .int .u64 a0_1, .int .i64 a0_2, .string a0_3] 25 (0, 0)) (by (with_reducible repeat (first | refine blk_drewN ?_ _ | refine blk_drew ?_ | refine blk_alloc ?_ _)); exact BK358.out) hb); have n1_ := Aside0.mk (below_step (by repeat (first | (with_reducible first | exact HB.out | apply below_alloc | apply pw_below_drewN | apply below_drew1 | refine below_set ?_ GE358.out) | exact HB.out)) hb); clear BK358; clear HB; have BK358 := n0_; have HB := n1_; clear n0_ n1_; (try clear hb); (try clear hb2); (try clear hk); (try clear hi))))
   go_ret
   exact ⟨by first | rfl | (simp [errW_none, errW_some] <;> rfl) | (simp [*, errW_none, errW_some] <;> rfl), by repeat (first | (with_reducible first | exact HB.out | apply below_alloc | apply pw_below_drewN | apply below_drew1 | refine below_set ?_ GE358.out) | exact HB.out)⟩
  ·
   replace c53 := Bool.eq_false_iff.mpr c53
   subst c53
   rw [if_neg (show ¬ (false = true) by decide)] at H
   exact absurd ((Option.some.inj H).trans HRT.out) (by decide)

end Go.Proofs.YthajbaheejdoaaaDoor.PBase
