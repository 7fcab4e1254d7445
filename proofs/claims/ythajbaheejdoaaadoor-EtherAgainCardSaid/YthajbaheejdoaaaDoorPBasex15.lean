/- Functions of the program as Lean functions, each with a proof that a call comes to what it says. Conditions: those of each theorem. Laid by a program of this session. -/
import Derived.Test.YthajbaheejdoaaaDoorPBasex0
import Derived.Test.YthajbaheejdoaaaDoorPBasex1
import Derived.Test.YthajbaheejdoaaaDoorPBasex4
import Derived.Test.YthajbaheejdoaaaDoorPBasex5
import Derived.Test.YthajbaheejdoaaaDoorPBasex9
namespace Go.Proofs.YthajbaheejdoaaaDoor.PBase
open Go.RowKit Go.Proofs.YthajbaheejdoaaaDoor Go.Proofs.YthajbaheejdoaaaDoorW.PrintWords Go.Proofs.YthajbaheejdoaaaDoorW.PrintLast Go.Proofs.YthajbaheejdoaaaDoorW.PrintMore
attribute [local go_sem] max2_int min2_int max_two min_two max_three min_three max_four min_four   -- for this text's walks alone
set_option linter.unusedVariables false
set_option linter.unusedSimpArgs false

attribute [local go_sem high] eqA25
/-! ### crosswaylaw05_EtherAgain: function 6 -/
def crosswaylaw05_EtherAgain.f (k : Nat) (a0 : ByteArray) : Option (Bool) := (crosswaylaw05_awake.f k).bind fun t368 => ((ether_Take.f k a0).bind fun bt369 => (if bt369.2.2.2.2 = 0 then ((ether_Lay.f k bt369.1 bt369.2.1 bt369.2.2.1 bt369.2.2.2.1).bind fun bt375 => (if bt375.2 = 0 then (if (bt375.1.size : Int) < (a0.size : Int) then (some false) else (if 0 ≤ (a0.size : Int) then (if (a0.size : Int) ≤ (bt375.1.size : Int) then (if (bt375.1.extract 0 ((a0.size : Int) : Int).toNat).toList = a0.toList then (if t368 = true then (if (a0.size : Int) < 60 then (some true) else (some (bt375.1.toList == a0.toList))) else (some false)) else (some false)) else (none)) else (none))) else (some false))) else (if t368 = true then (if (bt369.1 == 0 && (bt369.2.1 == 0 && (bt369.2.2.1 == 0 && (bt369.2.2.2.1.toList == ([] : List UInt8))))) = true then (if bt369.2.2.2.2 = 41 then (some true) else (if bt369.2.2.2.2 = 42 then (some true) else (some (bt369.2.2.2.2 == 40)))) else (some false)) else (some false))))
theorem crosswaylaw05_EtherAgain.mono : ∀ a0 k, LeO (crosswaylaw05_EtherAgain.f k a0) (crosswaylaw05_EtherAgain.f (k + 1) a0) := by
 intro a0 k
 unfold crosswaylaw05_EtherAgain.f
 repeat' first
   | (with_reducible exact crosswaylaw05_awake.mono _)
   | (with_reducible exact ether_Lay.mono _ _ _ _ _)
   | (with_reducible exact ether_Take.mono _ _)
   | (with_reducible exact LeO.refl _)
   | (with_reducible exact LeO.none _)
   | (with_reducible refine LeO.ite ?_ ?_)
   | (with_reducible refine LeO.bind ?_ (fun _ => ?_))
   | exact crosswaylaw05_awake.mono _
   | exact ether_Lay.mono _ _ _ _ _
   | exact ether_Take.mono _ _
   | exact LeO.none _
   | refine LeO.ite ?_ ?_
   | refine LeO.bind ?_ (fun _ => ?_)
set_option maxHeartbeats 8000000 in
set_option maxRecDepth 100000 in
theorem crosswaylaw05_EtherAgain.calls (k : Nat) (a0 : ByteArray) (r : Bool) (w : World) (h : crosswaylaw05_EtherAgain.f k a0 = some r) (hrt : r = true) (hg : ether_Glob w) :
  Calls Tryd.prog 6 #[.string a0] w fun e w' => e = .returned (.bool r) ∧ Below w.heap.size w w' := by
 have HGL := Aside0.mk hg
 clear hg
 have HRT := Aside0.mk hrt
 clear hrt
 have hu25 := Tryd.underlying25
 have HB := Aside0.mk (Below.refl w.heap.size w)
 have H : ((crosswaylaw05_awake.f k).bind fun t368 => ((ether_Take.f k a0).bind fun bt369 => (if bt369.2.2.2.2 = 0 then ((ether_Lay.f k bt369.1 bt369.2.1 bt369.2.2.1 bt369.2.2.2.1).bind fun bt375 => (if bt375.2 = 0 then (if (bt375.1.size : Int) < (a0.size : Int) then (some false) else (if 0 ≤ (a0.size : Int) then (if (a0.size : Int) ≤ (bt375.1.size : Int) then (if (bt375.1.extract 0 ((a0.size : Int) : Int).toNat).toList = a0.toList then (if t368 = true then (if (a0.size : Int) < 60 then (some true) else (some (bt375.1.toList == a0.toList))) else (some false)) else (some false)) else (none)) else (none))) else (some false))) else (if t368 = true then (if (bt369.1 == 0 && (bt369.2.1 == 0 && (bt369.2.2.1 == 0 && (bt369.2.2.2.1.toList == ([] : List UInt8))))) = true then (if bt369.2.2.2.2 = 41 then (some true) else (if bt369.2.2.2.2 = 42 then (some true) else (some (bt369.2.2.2.2 == 40)))) else (some false)) else (some false))))) = some r := h
 clear h
 replace H := Option.bind_eq_some_iff.mp H
 obtain ⟨t368, A20, H⟩ := H
 have A2 := Aside0.mk A20
 clear A20
 replace H := Option.bind_eq_some_iff.mp H
 obtain ⟨⟨t369, t370, t371, t372, t373⟩, A30, H⟩ := H
 replace H : (if t373 = 0 then ((ether_Lay.f k t369 t370 t371 t372).bind fun bt375 => (if bt375.2 = 0 then (if (bt375.1.size : Int) < (a0.size : Int) then (some false) else (if 0 ≤ (a0.size : Int) then (if (a0.size : Int) ≤ (bt375.1.size : Int) then (if (bt375.1.extract 0 ((a0.size : Int) : Int).toNat).toList = a0.toList then (if t368 = true then (if (a0.size : Int) < 60 then (some true) else (some (bt375.1.toList == a0.toList))) else (some false)) else (some false)) else (none)) else (none))) else (some false))) else (if t368 = true then (if (t369 == 0 && (t370 == 0 && (t371 == 0 && (t372.toList == ([] : List UInt8))))) = true then (if t373 = 41 then (some true) else (if t373 = 42 then (some true) else (some (t373 == 40)))) else (some false)) else (some false))) = some r := H
 have A3 := Aside0.mk A30
 clear A30
 by_cases c4 : t373 = 0
 ·
  rw [if_pos c4] at H
  have c4b0 : (t373 == 0) = true := beq_iff_eq.mpr c4
  have c4b1 : (t373 != 0) = false := bne_eq_false_iff_eq.mpr c4
  clear c4
  replace H := Option.bind_eq_some_iff.mp H
  obtain ⟨⟨t375, t376⟩, A50, H⟩ := H
  replace H : (if t376 = 0 then (if (t375.size : Int) < (a0.size : Int) then (some false) else (if 0 ≤ (a0.size : Int) then (if (a0.size : Int) ≤ (t375.size : Int) then (if (t375.extract 0 ((a0.size : Int) : Int).toNat).toList = a0.toList then (if t368 = true then (if (a0.size : Int) < 60 then (some true) else (some (t375.toList == a0.toList))) else (some false)) else (some false)) else (none)) else (none))) else (some false)) = some r := H
  have A5 := Aside0.mk A50
  clear A50
  by_cases c6 : t376 = 0
  ·
   rw [if_pos c6] at H
   have c6b0 : (t376 == 0) = true := beq_iff_eq.mpr c6
   have c6b1 : (t376 != 0) = false := bne_eq_false_iff_eq.mpr c6
   clear c6
   by_cases c7 : (t375.size : Int) < (a0.size : Int)
   ·
    rw [if_pos c7] at H
    have c7b0 : decide ((t375.size : Int) < (a0.size : Int)) = true := decide_eq_true c7
    have c7b1 : decide (t375.size < a0.size) = true := decide_eq_true (Int.ofNat_lt.mp c7)
    clear c7
    exact absurd ((Option.some.inj H).trans HRT.out) (by decide)
   ·
    rw [if_neg c7] at H
    have c7b0 : decide ((t375.size : Int) < (a0.size : Int)) = false := decide_eq_false c7
    have c7b1 : decide (t375.size < a0.size) = false := decide_eq_false (fun h => c7 (Int.ofNat_lt.mpr h))
    clear c7
    by_cases c8 : 0 ≤ (a0.size : Int)
    ·
     rw [if_pos c8] at H
     have c8b0 := eq_true c8
     have c8b1 : decide (0 ≤ (a0.size : Int)) = true := decide_eq_true c8
     clear c8
     by_cases c9 : (a0.size : Int) ≤ (t375.size : Int)
     ·
      rw [if_pos c9] at H
      have c9b0 := eq_true c9
      have c9b1 : decide ((a0.size : Int) ≤ (t375.size : Int)) = true := decide_eq_true c9
      clear c9
      by_cases c10 : (t375.extract 0 ((a0.size : Int) : Int).toNat).toList = a0.toList
      ·
       rw [if_pos c10] at H
       have c10b0 : ((t375.extract 0 ((a0.size : Int) : Int).toNat).toList == a0.toList) = true := beq_iff_eq.mpr c10
       have c10b2 : ((t375.extract 0 a0.size).toList == a0.toList) = true := by have h_ := c10b0; rw [Int.toNat_natCast] at h_; exact h_
       have c10b1 : ((t375.extract 0 ((a0.size : Int) : Int).toNat).toList != a0.toList) = false := bne_eq_false_iff_eq.mpr c10
       clear c10
       by_cases c11 : t368 = true
       ·
        subst c11
        rw [if_pos rfl] at H
        by_cases c12 : (a0.size : Int) < 60
        ·
         rw [if_pos c12] at H
         have c12b0 : decide ((a0.size : Int) < 60) = true := decide_eq_true c12
         have c12b1 : decide (a0.size < 60) = true := decide_eq_true (by omega)
         clear c12
         obtain rfl := Option.some.inj H
         go_enter Tryd.func6, Tryd.ntmps6
         go_wp2_with (first | ((with_reducible refine gate_callee (f := 10) rfl ?_); refine goesL_ (some 8) rfl rfl Tryd.func10 (by kernel_rfl) rfl #[] rfl (by (try simp only [List.map_toArray, List.map_cons, List.map_nil]); first | done | rfl | (simp only [List.length_drop, List.length_take]; rfl)) ?_; (with_reducible refine Calls.mono (crosswaylaw05_awake.calls k  true _ A2.out ?hgl_) ?_); (case hgl_ => exact ether_Glob_below HGL.out (by repeat (first | (with_reducible first | exact HB.out | apply below_alloc | apply pw_below_drewN | apply below_drew1) | exact HB.out))); rintro e w13 ⟨rfl, hb⟩; refine ⟨_, rfl, ?_⟩; have n0_ := Aside0.mk (below_step (by repeat (first | (with_reducible first | exact HB.out | apply below_alloc | apply pw_below_drewN | apply below_drew1) | exact HB.out)) hb); clear HB; have HB := n0_; clear n0_; (try clear hb); (try clear hb2); (try clear hk); (try clear hi)) | ((with_reducible refine gate_callee (f := 15) rfl ?_); refine goesL_ (some 11) rfl rfl Tryd.func15 (by kernel_rfl) rfl #[.string a0] rfl (by (try simp only [List.map_toArray, List.map_cons, List.map_nil]); first | done | rfl | (simp only [List.length_drop, List.length_take]; rfl)) ?_; (with_reducible refine (ether_Take.calls k a0 t369 t370 t371 t372 t373 _ A3.out).mono ?_); rintro e w14 ⟨rfl, hb⟩; refine ⟨_, rfl, ?_⟩; have n0_ := Aside0.mk (below_step (by repeat (first | (with_reducible first | exact HB.out | apply below_alloc | apply pw_below_drewN | apply below_drew1) | exact HB.out)) hb); clear HB; have HB := n0_; clear n0_; (try clear hb); (try clear hb2); (try clear hk); (try clear hi)) | ((with_reducible refine gate_dst (N := 4) rfl ?_); (try (refine gate_guard (by rfl) ?_; dsimp only)); refine box_event ?hg (N := 4) ?hd (cs := #[.int .u64 0, .int .u64 0, .int .i64 0, .string (⟨#[]⟩ : ByteArray)]) (t := 25) ?hr ?_; (case hd => rfl); (case hg => rfl); (case hr => first | (go_simp; done) | (go_simp; rfl)); intro gb374 hg w15 hbox hb; have n0_ := Aside0.mk (below_step (by repeat (first | (with_reducible first | exact HB.out | apply below_alloc | apply pw_below_drewN | apply below_drew1) | exact HB.out)) hb); have n1_ := Aside0.mk (hbox); have n2_ := Aside0.mk ((by rw [hg]; exact (below_size (by repeat (first | (with_reducible first | exact HB.out | apply below_alloc | apply pw_below_drewN | apply below_drew1) | exact HB.out))) : w.heap.size ≤ gb374)); have n3_ := Aside0.mk ((by rw [hg]; exact (below_size (by repeat (first | (with_reducible first | exact HB.out | apply below_alloc | apply pw_below_drewN | apply below_drew1) | exact HB.out))) : w.heap.size ≤ gb374)); clear HB; have HB := n0_; have BK374 := n1_; have GW374 := n2_; have GE374 := n3_; clear n0_ n1_ n2_ n3_; clear hb hbox hg; obtain ⟨hcz16_0, hcz16_1, hcz16_2, hcz16_3⟩ := MBlk.c4 BK374.out; obtain ⟨hfz16_0, hfz16_1, hfz16_2, hfz16_3⟩ := MBlk.f4 BK374.out) | ((with_reducible refine gate_callee (f := 11) rfl ?_); refine goesL_ (some 36) rfl rfl Tryd.func11 (by kernel_rfl) rfl #[.agg #[.int .u64 t369, .int .u64 t370, .int .i64 t371, .string t372]] rfl (by (try simp only [List.map_toArray, List.map_cons, List.map_nil]); first | done | rfl | (simp only [List.length_drop, List.length_take]; rfl)) ?_; (with_reducible refine (ether_Lay.calls k t369 t370 t371 t372 t375 t376 _ A5.out).mono ?_); rintro e w17 ⟨rfl, hb⟩; refine ⟨_, rfl, ?_⟩; have n0_ := Aside0.mk (blk_below (g := gb374) (o := .cells #[.int .u64 t369, .int .u64 t370, .int .i64 t371, .string t372] 25 (0, 0)) (by (with_reducible repeat (first | refine blk_drewN ?_ _ | refine blk_drew ?_ | refine blk_alloc ?_ _)); refine blk_put (cs := #[.int .u64 t369, .int .u64 t370, .int .i64 t371, .string (⟨#[]⟩ : ByteArray)]) ?_ 3 _ rfl; (with_reducible repeat (first | refine blk_drewN ?_ _ | refine blk_drew ?_ | refine blk_alloc ?_ _)); refine blk_put (cs := #[.int .u64 t369, .int .u64 t370, .int .i64 0, .string (⟨#[]⟩ : ByteArray)]) ?_ 2 _ rfl; (with_reducible repeat (first | refine blk_drewN ?_ _ | refine blk_drew ?_ | refine blk_alloc ?_ _)); refine blk_put (cs := #[.int .u64 t369, .int .u64 0, .int .i64 0, .string (⟨#[]⟩ : ByteArray)]) ?_ 1 _ rfl; (with_reducible repeat (first | refine blk_drewN ?_ _ | refine blk_drew ?_ | refine blk_alloc ?_ _)); refine blk_put (cs := #[.int .u64 0, .int .u64 0, .int .i64 0, .string (⟨#[]⟩ : ByteArray)]) ?_ 0 _ rfl; (with_reducible repeat (first | refine blk_drewN ?_ _ | refine blk_drew ?_ | refine blk_alloc ?_ _)); exact BK374.out) hb); have n1_ := Aside0.mk (below_step (by repeat (first | (with_reducible first | exact HB.out | apply below_alloc | apply pw_below_drewN | apply below_drew1 | refine below_set ?_ GE374.out) | exact HB.out)) hb); clear BK374; clear HB; have BK374 := n0_; have HB := n1_; clear n0_ n1_; (try clear hb); (try clear hb2); (try clear hk); (try clear hi)))
         go_ret
         exact ⟨by first | rfl | (simp [errW_none, errW_some] <;> rfl) | (simp [*, errW_none, errW_some] <;> rfl), by repeat (first | (with_reducible first | exact HB.out | apply below_alloc | apply pw_below_drewN | apply below_drew1 | refine below_set ?_ GE374.out) | exact HB.out)⟩
        ·
         rw [if_neg c12] at H
         have c12b0 : decide ((a0.size : Int) < 60) = false := decide_eq_false c12
         have c12b1 : decide (a0.size < 60) = false := decide_eq_false (by omega)
         clear c12
         obtain rfl := Option.some.inj H
         go_enter Tryd.func6, Tryd.ntmps6
         go_wp2_with (first | ((with_reducible refine gate_callee (f := 10) rfl ?_); refine goesL_ (some 8) rfl rfl Tryd.func10 (by kernel_rfl) rfl #[] rfl (by (try simp only [List.map_toArray, List.map_cons, List.map_nil]); first | done | rfl | (simp only [List.length_drop, List.length_take]; rfl)) ?_; (with_reducible refine Calls.mono (crosswaylaw05_awake.calls k  true _ A2.out ?hgl_) ?_); (case hgl_ => exact ether_Glob_below HGL.out (by repeat (first | (with_reducible first | exact HB.out | apply below_alloc | apply pw_below_drewN | apply below_drew1) | exact HB.out))); rintro e w18 ⟨rfl, hb⟩; refine ⟨_, rfl, ?_⟩; have n0_ := Aside0.mk (below_step (by repeat (first | (with_reducible first | exact HB.out | apply below_alloc | apply pw_below_drewN | apply below_drew1) | exact HB.out)) hb); clear HB; have HB := n0_; clear n0_; (try clear hb); (try clear hb2); (try clear hk); (try clear hi)) | ((with_reducible refine gate_callee (f := 15) rfl ?_); refine goesL_ (some 11) rfl rfl Tryd.func15 (by kernel_rfl) rfl #[.string a0] rfl (by (try simp only [List.map_toArray, List.map_cons, List.map_nil]); first | done | rfl | (simp only [List.length_drop, List.length_take]; rfl)) ?_; (with_reducible refine (ether_Take.calls k a0 t369 t370 t371 t372 t373 _ A3.out).mono ?_); rintro e w19 ⟨rfl, hb⟩; refine ⟨_, rfl, ?_⟩; have n0_ := Aside0.mk (below_step (by repeat (first | (with_reducible first | exact HB.out | apply below_alloc | apply pw_below_drewN | apply below_drew1) | exact HB.out)) hb); clear HB; have HB := n0_; clear n0_; (try clear hb); (try clear hb2); (try clear hk); (try clear hi)) | ((with_reducible refine gate_dst (N := 4) rfl ?_); (try (refine gate_guard (by rfl) ?_; dsimp only)); refine box_event ?hg (N := 4) ?hd (cs := #[.int .u64 0, .int .u64 0, .int .i64 0, .string (⟨#[]⟩ : ByteArray)]) (t := 25) ?hr ?_; (case hd => rfl); (case hg => rfl); (case hr => first | (go_simp; done) | (go_simp; rfl)); intro gb374 hg w20 hbox hb; have n0_ := Aside0.mk (below_step (by repeat (first | (with_reducible first | exact HB.out | apply below_alloc | apply pw_below_drewN | apply below_drew1) | exact HB.out)) hb); have n1_ := Aside0.mk (hbox); have n2_ := Aside0.mk ((by rw [hg]; exact (below_size (by repeat (first | (with_reducible first | exact HB.out | apply below_alloc | apply pw_below_drewN | apply below_drew1) | exact HB.out))) : w.heap.size ≤ gb374)); have n3_ := Aside0.mk ((by rw [hg]; exact (below_size (by repeat (first | (with_reducible first | exact HB.out | apply below_alloc | apply pw_below_drewN | apply below_drew1) | exact HB.out))) : w.heap.size ≤ gb374)); clear HB; have HB := n0_; have BK374 := n1_; have GW374 := n2_; have GE374 := n3_; clear n0_ n1_ n2_ n3_; clear hb hbox hg; obtain ⟨hcz21_0, hcz21_1, hcz21_2, hcz21_3⟩ := MBlk.c4 BK374.out; obtain ⟨hfz21_0, hfz21_1, hfz21_2, hfz21_3⟩ := MBlk.f4 BK374.out) | ((with_reducible refine gate_callee (f := 11) rfl ?_); refine goesL_ (some 36) rfl rfl Tryd.func11 (by kernel_rfl) rfl #[.agg #[.int .u64 t369, .int .u64 t370, .int .i64 t371, .string t372]] rfl (by (try simp only [List.map_toArray, List.map_cons, List.map_nil]); first | done | rfl | (simp only [List.length_drop, List.length_take]; rfl)) ?_; (with_reducible refine (ether_Lay.calls k t369 t370 t371 t372 t375 t376 _ A5.out).mono ?_); rintro e w22 ⟨rfl, hb⟩; refine ⟨_, rfl, ?_⟩; have n0_ := Aside0.mk (blk_below (g := gb374) (o := .cells #[.int .u64 t369, .int .u64 t370, .int .i64 t371, .string t372] 25 (0, 0)) (by (with_reducible repeat (first | refine blk_drewN ?_ _ | refine blk_drew ?_ | refine blk_alloc ?_ _)); refine blk_put (cs := #[.int .u64 t369, .int .u64 t370, .int .i64 t371, .string (⟨#[]⟩ : ByteArray)]) ?_ 3 _ rfl; (with_reducible repeat (first | refine blk_drewN ?_ _ | refine blk_drew ?_ | refine blk_alloc ?_ _)); refine blk_put (cs := #[.int .u64 t369, .int .u64 t370, .int .i64 0, .string (⟨#[]⟩ : ByteArray)]) ?_ 2 _ rfl; (with_reducible repeat (first | refine blk_drewN ?_ _ | refine blk_drew ?_ | refine blk_alloc ?_ _)); refine blk_put (cs := #[.int .u64 t369, .int .u64 0, .int .i64 0, .string (⟨#[]⟩ : ByteArray)]) ?_ 1 _ rfl; (with_reducible repeat (first | refine blk_drewN ?_ _ | refine blk_drew ?_ | refine blk_alloc ?_ _)); refine blk_put (cs := #[.int .u64 0, .int .u64 0, .int .i64 0, .string (⟨#[]⟩ : ByteArray)]) ?_ 0 _ rfl; (with_reducible repeat (first | refine blk_drewN ?_ _ | refine blk_drew ?_ | refine blk_alloc ?_ _)); exact BK374.out) hb); have n1_ := Aside0.mk (below_step (by repeat (first | (with_reducible first | exact HB.out | apply below_alloc | apply pw_below_drewN | apply below_drew1 | refine below_set ?_ GE374.out) | exact HB.out)) hb); clear BK374; clear HB; have BK374 := n0_; have HB := n1_; clear n0_ n1_; (try clear hb); (try clear hb2); (try clear hk); (try clear hi)))
         go_ret
         exact ⟨by first | rfl | (simp [errW_none, errW_some] <;> rfl) | (simp [*, errW_none, errW_some] <;> rfl), by repeat (first | (with_reducible first | exact HB.out | apply below_alloc | apply pw_below_drewN | apply below_drew1 | refine below_set ?_ GE374.out) | exact HB.out)⟩
       ·
        replace c11 := Bool.eq_false_iff.mpr c11
        subst c11
        rw [if_neg (show ¬ (false = true) by decide)] at H
        exact absurd ((Option.some.inj H).trans HRT.out) (by decide)
      ·
       rw [if_neg c10] at H
       have c10b0 : ((t375.extract 0 ((a0.size : Int) : Int).toNat).toList == a0.toList) = false := beq_eq_false_iff_ne.mpr c10
       have c10b2 : ((t375.extract 0 a0.size).toList == a0.toList) = false := by have h_ := c10b0; rw [Int.toNat_natCast] at h_; exact h_
       have c10b1 : ((t375.extract 0 ((a0.size : Int) : Int).toNat).toList != a0.toList) = true := bne_iff_ne.mpr c10
       exact absurd ((Option.some.inj H).trans HRT.out) (by decide)
     ·
      rw [if_neg c9] at H
      exact absurd H (by simp)
    ·
     rw [if_neg c8] at H
     exact absurd H (by simp)
  ·
   rw [if_neg c6] at H
   have c6b0 : (t376 == 0) = false := beq_eq_false_iff_ne.mpr c6
   have c6b1 : (t376 != 0) = true := bne_iff_ne.mpr c6
   exact absurd ((Option.some.inj H).trans HRT.out) (by decide)
 ·
  rw [if_neg c4] at H
  have c4b0 : (t373 == 0) = false := beq_eq_false_iff_ne.mpr c4
  have c4b1 : (t373 != 0) = true := bne_iff_ne.mpr c4
  by_cases c23 : t368 = true
  ·
   subst c23
   rw [if_pos rfl] at H
   by_cases c24 : (t369 == 0 && (t370 == 0 && (t371 == 0 && (t372.toList == ([] : List UInt8))))) = true
   ·
    rw [if_pos c24] at H
    have c24b0 : (t369 == 0 && (t370 == 0 && (t371 == 0 && (t372.toList == ([] : List UInt8))))) = true := c24
    (try (have c24b1 : decide (t369 = 0 && (t370 == 0 && (t371 == 0 && (t372.toList == ([] : List UInt8))))) = true := by simpa using c24))
    (try (have c24b2 : (t369 == 0 && (t370 == 0 && (t371 == 0 && (t372.toList == ([] : List UInt8))))) = true := by simpa using c24))
    clear c24
    by_cases c25 : t373 = 41
    ·
     rw [if_pos c25] at H
     have c25b0 : (t373 == 41) = true := beq_iff_eq.mpr c25
     have c25b1 : (t373 != 41) = false := bne_eq_false_iff_eq.mpr c25
     clear c25
     obtain rfl := Option.some.inj H
     go_enter Tryd.func6, Tryd.ntmps6
     go_wp2_with (first | ((with_reducible refine gate_callee (f := 10) rfl ?_); refine goesL_ (some 8) rfl rfl Tryd.func10 (by kernel_rfl) rfl #[] rfl (by (try simp only [List.map_toArray, List.map_cons, List.map_nil]); first | done | rfl | (simp only [List.length_drop, List.length_take]; rfl)) ?_; (with_reducible refine Calls.mono (crosswaylaw05_awake.calls k  true _ A2.out ?hgl_) ?_); (case hgl_ => exact ether_Glob_below HGL.out (by repeat (first | (with_reducible first | exact HB.out | apply below_alloc | apply pw_below_drewN | apply below_drew1) | exact HB.out))); rintro e w26 ⟨rfl, hb⟩; refine ⟨_, rfl, ?_⟩; have n0_ := Aside0.mk (below_step (by repeat (first | (with_reducible first | exact HB.out | apply below_alloc | apply pw_below_drewN | apply below_drew1) | exact HB.out)) hb); clear HB; have HB := n0_; clear n0_; (try clear hb); (try clear hb2); (try clear hk); (try clear hi)) | ((with_reducible refine gate_callee (f := 15) rfl ?_); refine goesL_ (some 11) rfl rfl Tryd.func15 (by kernel_rfl) rfl #[.string a0] rfl (by (try simp only [List.map_toArray, List.map_cons, List.map_nil]); first | done | rfl | (simp only [List.length_drop, List.length_take]; rfl)) ?_; (with_reducible refine (ether_Take.calls k a0 t369 t370 t371 t372 t373 _ A3.out).mono ?_); rintro e w27 ⟨rfl, hb⟩; refine ⟨_, rfl, ?_⟩; have n0_ := Aside0.mk (below_step (by repeat (first | (with_reducible first | exact HB.out | apply below_alloc | apply pw_below_drewN | apply below_drew1) | exact HB.out)) hb); clear HB; have HB := n0_; clear n0_; (try clear hb); (try clear hb2); (try clear hk); (try clear hi)) | ((with_reducible refine gate_dst (N := 4) rfl ?_); (try (refine gate_guard (by rfl) ?_; dsimp only)); refine box_event ?hg (N := 4) ?hd (cs := #[.int .u64 0, .int .u64 0, .int .i64 0, .string (⟨#[]⟩ : ByteArray)]) (t := 25) ?hr ?_; (case hd => rfl); (case hg => rfl); (case hr => first | (go_simp; done) | (go_simp; rfl)); intro gb374 hg w28 hbox hb; have n0_ := Aside0.mk (below_step (by repeat (first | (with_reducible first | exact HB.out | apply below_alloc | apply pw_below_drewN | apply below_drew1) | exact HB.out)) hb); have n1_ := Aside0.mk (hbox); have n2_ := Aside0.mk ((by rw [hg]; exact (below_size (by repeat (first | (with_reducible first | exact HB.out | apply below_alloc | apply pw_below_drewN | apply below_drew1) | exact HB.out))) : w.heap.size ≤ gb374)); have n3_ := Aside0.mk ((by rw [hg]; exact (below_size (by repeat (first | (with_reducible first | exact HB.out | apply below_alloc | apply pw_below_drewN | apply below_drew1) | exact HB.out))) : w.heap.size ≤ gb374)); clear HB; have HB := n0_; have BK374 := n1_; have GW374 := n2_; have GE374 := n3_; clear n0_ n1_ n2_ n3_; clear hb hbox hg; obtain ⟨hcz29_0, hcz29_1, hcz29_2, hcz29_3⟩ := MBlk.c4 BK374.out; obtain ⟨hfz29_0, hfz29_1, hfz29_2, hfz29_3⟩ := MBlk.f4 BK374.out))
     go_ret
     exact ⟨by first | rfl | (simp [errW_none, errW_some] <;> rfl) | (simp [*, errW_none, errW_some] <;> rfl), by repeat (first | (with_reducible first | exact HB.out | apply below_alloc | apply pw_below_drewN | apply below_drew1 | refine below_set ?_ GE374.out) | exact HB.out)⟩
     all_goals (rename_i hno_; exact absurd (show _ ∧ _ by simpa using c24b0) hno_)
    ·
     rw [if_neg c25] at H
     have c25b0 : (t373 == 41) = false := beq_eq_false_iff_ne.mpr c25
     have c25b1 : (t373 != 41) = true := bne_iff_ne.mpr c25
     by_cases c30 : t373 = 42
     ·
      rw [if_pos c30] at H
      have c30b0 : (t373 == 42) = true := beq_iff_eq.mpr c30
      have c30b1 : (t373 != 42) = false := bne_eq_false_iff_eq.mpr c30
      clear c30
      obtain rfl := Option.some.inj H
      go_enter Tryd.func6, Tryd.ntmps6
      go_wp2_with (first | ((with_reducible refine gate_callee (f := 10) rfl ?_); refine goesL_ (some 8) rfl rfl Tryd.func10 (by kernel_rfl) rfl #[] rfl (by (try simp only [List.map_toArray, List.map_cons, List.map_nil]); first | done | rfl | (simp only [List.length_drop, List.length_take]; rfl)) ?_; (with_reducible refine Calls.mono (crosswaylaw05_awake.calls k  true _ A2.out ?hgl_) ?_); (case hgl_ => exact ether_Glob_below HGL.out (by repeat (first | (with_reducible first | exact HB.out | apply below_alloc | apply pw_below_drewN | apply below_drew1) | exact HB.out))); rintro e w31 ⟨rfl, hb⟩; refine ⟨_, rfl, ?_⟩; have n0_ := Aside0.mk (below_step (by repeat (first | (with_reducible first | exact HB.out | apply below_alloc | apply pw_below_drewN | apply below_drew1) | exact HB.out)) hb); clear HB; have HB := n0_; clear n0_; (try clear hb); (try clear hb2); (try clear hk); (try clear hi)) | ((with_reducible refine gate_callee (f := 15) rfl ?_); refine goesL_ (some 11) rfl rfl Tryd.func15 (by kernel_rfl) rfl #[.string a0] rfl (by (try simp only [List.map_toArray, List.map_cons, List.map_nil]); first | done | rfl | (simp only [List.length_drop, List.length_take]; rfl)) ?_; (with_reducible refine (ether_Take.calls k a0 t369 t370 t371 t372 t373 _ A3.out).mono ?_); rintro e w32 ⟨rfl, hb⟩; refine ⟨_, rfl, ?_⟩; have n0_ := Aside0.mk (below_step (by repeat (first | (with_reducible first | exact HB.out | apply below_alloc | apply pw_below_drewN | apply below_drew1) | exact HB.out)) hb); clear HB; have HB := n0_; clear n0_; (try clear hb); (try clear hb2); (try clear hk); (try clear hi)) | ((with_reducible refine gate_dst (N := 4) rfl ?_); (try (refine gate_guard (by rfl) ?_; dsimp only)); refine box_event ?hg (N := 4) ?hd (cs := #[.int .u64 0, .int .u64 0, .int .i64 0, .string (⟨#[]⟩ : ByteArray)]) (t := 25) ?hr ?_; (case hd => rfl); (case hg => rfl); (case hr => first | (go_simp; done) | (go_simp; rfl)); intro gb374 hg w33 hbox hb; have n0_ := Aside0.mk (below_step (by repeat (first | (with_reducible first | exact HB.out | apply below_alloc | apply pw_below_drewN | apply below_drew1) | exact HB.out)) hb); have n1_ := Aside0.mk (hbox); have n2_ := Aside0.mk ((by rw [hg]; exact (below_size (by repeat (first | (with_reducible first | exact HB.out | apply below_alloc | apply pw_below_drewN | apply below_drew1) | exact HB.out))) : w.heap.size ≤ gb374)); have n3_ := Aside0.mk ((by rw [hg]; exact (below_size (by repeat (first | (with_reducible first | exact HB.out | apply below_alloc | apply pw_below_drewN | apply below_drew1) | exact HB.out))) : w.heap.size ≤ gb374)); clear HB; have HB := n0_; have BK374 := n1_; have GW374 := n2_; have GE374 := n3_; clear n0_ n1_ n2_ n3_; clear hb hbox hg; obtain ⟨hcz34_0, hcz34_1, hcz34_2, hcz34_3⟩ := MBlk.c4 BK374.out; obtain ⟨hfz34_0, hfz34_1, hfz34_2, hfz34_3⟩ := MBlk.f4 BK374.out))
      go_ret
      exact ⟨by first | rfl | (simp [errW_none, errW_some] <;> rfl) | (simp [*, errW_none, errW_some] <;> rfl), by repeat (first | (with_reducible first | exact HB.out | apply below_alloc | apply pw_below_drewN | apply below_drew1 | refine below_set ?_ GE374.out) | exact HB.out)⟩
      all_goals (rename_i hno_; exact absurd (show _ ∧ _ by simpa using c24b0) hno_)
     ·
      rw [if_neg c30] at H
      have c30b0 : (t373 == 42) = false := beq_eq_false_iff_ne.mpr c30
      have c30b1 : (t373 != 42) = true := bne_iff_ne.mpr c30
      obtain rfl := Option.some.inj H
      go_enter Tryd.func6, Tryd.ntmps6
      go_wp2_with (first | ((with_reducible refine gate_callee (f := 10) rfl ?_); refine goesL_ (some 8) rfl rfl Tryd.func10 (by kernel_rfl) rfl #[] rfl (by (try simp only [List.map_toArray, List.map_cons, List.map_nil]); first | done | rfl | (simp only [List.length_drop, List.length_take]; rfl)) ?_; (with_reducible refine Calls.mono (crosswaylaw05_awake.calls k  true _ A2.out ?hgl_) ?_); (case hgl_ => exact ether_Glob_below HGL.out (by repeat (first | (with_reducible first | exact HB.out | apply below_alloc | apply pw_below_drewN | apply below_drew1) | exact HB.out))); rintro e w35 ⟨rfl, hb⟩; refine ⟨_, rfl, ?_⟩; have n0_ := Aside0.mk (below_step (by repeat (first | (with_reducible first | exact HB.out | apply below_alloc | apply pw_below_drewN | apply below_drew1) | exact HB.out)) hb); clear HB; have HB := n0_; clear n0_; (try clear hb); (try clear hb2); (try clear hk); (try clear hi)) | ((with_reducible refine gate_callee (f := 15) rfl ?_); refine goesL_ (some 11) rfl rfl Tryd.func15 (by kernel_rfl) rfl #[.string a0] rfl (by (try simp only [List.map_toArray, List.map_cons, List.map_nil]); first | done | rfl | (simp only [List.length_drop, List.length_take]; rfl)) ?_; (with_reducible refine (ether_Take.calls k a0 t369 t370 t371 t372 t373 _ A3.out).mono ?_); rintro e w36 ⟨rfl, hb⟩; refine ⟨_, rfl, ?_⟩; have n0_ := Aside0.mk (below_step (by repeat (first | (with_reducible first | exact HB.out | apply below_alloc | apply pw_below_drewN | apply below_drew1) | exact HB.out)) hb); clear HB; have HB := n0_; clear n0_; (try clear hb); (try clear hb2); (try clear hk); (try clear hi)) | ((with_reducible refine gate_dst (N := 4) rfl ?_); (try (refine gate_guard (by rfl) ?_; dsimp only)); refine box_event ?hg (N := 4) ?hd (cs := #[.int .u64 0, .int .u64 0, .int .i64 0, .string (⟨#[]⟩ : ByteArray)]) (t := 25) ?hr ?_; (case hd => rfl); (case hg => rfl); (case hr => first | (go_simp; done) | (go_simp; rfl)); intro gb374 hg w37 hbox hb; have n0_ := Aside0.mk (below_step (by repeat (first | (with_reducible first | exact HB.out | apply below_alloc | apply pw_below_drewN | apply below_drew1) | exact HB.out)) hb); have n1_ := Aside0.mk (hbox); have n2_ := Aside0.mk ((by rw [hg]; exact (below_size (by repeat (first | (with_reducible first | exact HB.out | apply below_alloc | apply pw_below_drewN | apply below_drew1) | exact HB.out))) : w.heap.size ≤ gb374)); have n3_ := Aside0.mk ((by rw [hg]; exact (below_size (by repeat (first | (with_reducible first | exact HB.out | apply below_alloc | apply pw_below_drewN | apply below_drew1) | exact HB.out))) : w.heap.size ≤ gb374)); clear HB; have HB := n0_; have BK374 := n1_; have GW374 := n2_; have GE374 := n3_; clear n0_ n1_ n2_ n3_; clear hb hbox hg; obtain ⟨hcz38_0, hcz38_1, hcz38_2, hcz38_3⟩ := MBlk.c4 BK374.out; obtain ⟨hfz38_0, hfz38_1, hfz38_2, hfz38_3⟩ := MBlk.f4 BK374.out))
      go_ret
      exact ⟨by first | rfl | (simp [errW_none, errW_some] <;> rfl) | (simp [*, errW_none, errW_some] <;> rfl), by repeat (first | (with_reducible first | exact HB.out | apply below_alloc | apply pw_below_drewN | apply below_drew1 | refine below_set ?_ GE374.out) | exact HB.out)⟩
      all_goals (rename_i hno_; exact absurd (show _ ∧ _ by simpa using c24b0) hno_)
   ·
    rw [if_neg c24] at H
    have c24b0 : (t369 == 0 && (t370 == 0 && (t371 == 0 && (t372.toList == ([] : List UInt8))))) = false := by simpa using c24
    (try (have c24b1 : decide (t369 = 0 && (t370 == 0 && (t371 == 0 && (t372.toList == ([] : List UInt8))))) = false := by simpa using c24))
    (try (have c24b2 : (t369 == 0 && (t370 == 0 && (t371 == 0 && (t372.toList == ([] : List UInt8))))) = false := by simpa using c24))
    (try (have c24b3 : ¬ (t369 = 0 && (t370 == 0 && (t371 == 0 && (t372.toList == ([] : List UInt8))))) := by simpa using c24))
    clear c24
    exact absurd ((Option.some.inj H).trans HRT.out) (by decide)
  ·
   replace c23 := Bool.eq_false_iff.mpr c23
   subst c23
   rw [if_neg (show ¬ (false = true) by decide)] at H
   exact absurd ((Option.some.inj H).trans HRT.out) (by decide)

end Go.Proofs.YthajbaheejdoaaaDoor.PBase
