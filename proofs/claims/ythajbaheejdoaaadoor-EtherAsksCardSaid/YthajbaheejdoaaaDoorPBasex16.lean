/- Functions of the program as Lean functions, each with a proof that a call comes to what it says. Conditions: those of each theorem. Laid by a program of this session. -/
import Derived.Test.YthajbaheejdoaaaDoorPBasex0
import Derived.Test.YthajbaheejdoaaaDoorPBasex3
import Derived.Test.YthajbaheejdoaaaDoorPBasex4
import Derived.Test.YthajbaheejdoaaaDoorPBasex6
import Derived.Test.YthajbaheejdoaaaDoorPBasex9
namespace Go.Proofs.YthajbaheejdoaaaDoor.PBase
open Go.RowKit Go.Proofs.YthajbaheejdoaaaDoor Go.Proofs.YthajbaheejdoaaaDoorW.PrintWords Go.Proofs.YthajbaheejdoaaaDoorW.PrintLast Go.Proofs.YthajbaheejdoaaaDoorW.PrintMore
attribute [local go_sem] max2_int min2_int max_two min_two max_three min_three max_four min_four   -- for this text's walks alone
set_option linter.unusedVariables false
set_option linter.unusedSimpArgs false

attribute [local go_sem high] eqA29
/-! ### crosswaylaw05_EtherAsks: function 7 -/
mutual
def crosswaylaw05_EtherAsks.j0 : Nat → ByteArray → Int → Bool → Int → Int → Bool → Int → Int → Int → Bool → Int → Int → Option (Bool)
 | 0, _, _, _, _, _, _, _, _, _, _, _, _ => none
 | k + 1, x1, x2, x7, x378000, x378001, x378002, x378003, x378004, x378005, x378006, x378007, x378008 => (ether_LayArp.f x378000 x378001 x378002 x378003 x378004 x378005 x378006 x378007 x378008).bind fun bt379 => (if bt379.2 = 0 then (if bt379.1.size + x1.size ≤ 9223372036854775807 then ((ether_TakeArp.f k (bt379.1 ++ x1)).bind fun bt381 => (if bt381.2.2.2.2.2.2.2.2.2 = 0 then (if (!(bt381.1 == x378000) || (!(bt381.2.1 == x378001) || ((!(bt381.2.2.1 == x378002) || (!(bt381.2.2.2.1 == x378003) || (!(bt381.2.2.2.2.1 == x378004)))) || (!(bt381.2.2.2.2.2.1 == x378005) || ((!(bt381.2.2.2.2.2.2.1 == x378006) || (!(bt381.2.2.2.2.2.2.2.1 == x378007) || (!(bt381.2.2.2.2.2.2.2.2.1 == x378008))))))))) = true then (crosswaylaw05_EtherAsks.j1 k x2 x7 bt379.1 true) else (crosswaylaw05_EtherAsks.j1 k x2 x7 bt379.1 ((bt379.1.size : Int) != 28))) else (crosswaylaw05_EtherAsks.j1 k x2 x7 bt379.1 true))) else (none)) else (if x7 = true then (if bt379.1.toList = ([] : List UInt8) then (some (bt379.2 == 40)) else (some false)) else (some false)))
def crosswaylaw05_EtherAsks.j1 : Nat → Int → Bool → ByteArray → Bool → Option (Bool)
 | 0, _, _, _, _ => none
 | k + 1, x2, x7, x8, x54 => if x54 = true then (some false) else (if x2 < 0 then (if 0 ≤ (Int.tmod (wrap64 (-(wrap64 (x2 + 1)))) 28) then (if (Int.tmod (wrap64 (-(wrap64 (x2 + 1)))) 28) ≤ (x8.size : Int) then ((ether_TakeArp.f k (x8.extract 0 ((Int.tmod (wrap64 (-(wrap64 (x2 + 1)))) 28) : Int).toNat)).bind fun bt392 => (if x7 = true then (if (bt392.1 == 0 && (bt392.2.1 == 0 && ((!bt392.2.2.1 && (bt392.2.2.2.1 == 0 && (bt392.2.2.2.2.1 == 0))) && (bt392.2.2.2.2.2.1 == 0 && ((!bt392.2.2.2.2.2.2.1 && (bt392.2.2.2.2.2.2.2.1 == 0 && (bt392.2.2.2.2.2.2.2.2.1 == 0)))))))) = true then (some (bt392.2.2.2.2.2.2.2.2.2 == 41)) else (some false)) else (some false))) else (none)) else (none)) else (if 0 ≤ (Int.tmod x2 28) then (if (Int.tmod x2 28) ≤ (x8.size : Int) then ((ether_TakeArp.f k (x8.extract 0 ((Int.tmod x2 28) : Int).toNat)).bind fun bt403 => (if x7 = true then (if (bt403.1 == 0 && (bt403.2.1 == 0 && ((!bt403.2.2.1 && (bt403.2.2.2.1 == 0 && (bt403.2.2.2.2.1 == 0))) && (bt403.2.2.2.2.2.1 == 0 && ((!bt403.2.2.2.2.2.2.1 && (bt403.2.2.2.2.2.2.2.1 == 0 && (bt403.2.2.2.2.2.2.2.2.1 == 0)))))))) = true then (some (bt403.2.2.2.2.2.2.2.2.2 == 41)) else (some false)) else (some false))) else (none)) else (none)))
end
def crosswaylaw05_EtherAsks.f (k : Nat) (a0_0 : Int) (a0_1 : Int) (a0_2 : Bool) (a0_3 : Int) (a0_4 : Int) (a0_5 : Int) (a0_6 : Bool) (a0_7 : Int) (a0_8 : Int) (a1 : ByteArray) (a2 : Int) : Option (Bool) := (crosswaylaw05_awake.f k).bind fun t378 => (if (a1.size : Int) > 5000 then (if 0 ≤ 5000 then (if 5000 ≤ (a1.size : Int) then (crosswaylaw05_EtherAsks.j0 k (a1.extract 0 5000) a2 t378 a0_0 a0_1 a0_2 a0_3 a0_4 a0_5 a0_6 a0_7 a0_8) else (none)) else (none)) else (crosswaylaw05_EtherAsks.j0 k a1 a2 t378 a0_0 a0_1 a0_2 a0_3 a0_4 a0_5 a0_6 a0_7 a0_8))
theorem crosswaylaw05_EtherAsks.mono_l : ∀ k, (∀ y0 y1 y2 y3 y4 y5 y6 y7 y8 y9 y10 y11, LeO (crosswaylaw05_EtherAsks.j0 k y0 y1 y2 y3 y4 y5 y6 y7 y8 y9 y10 y11) (crosswaylaw05_EtherAsks.j0 (k + 1) y0 y1 y2 y3 y4 y5 y6 y7 y8 y9 y10 y11)) ∧ (∀ y0 y1 y2 y3, LeO (crosswaylaw05_EtherAsks.j1 k y0 y1 y2 y3) (crosswaylaw05_EtherAsks.j1 (k + 1) y0 y1 y2 y3))
 | 0 => ⟨fun _ _ _ _ _ _ _ _ _ _ _ _ r h => by simp [crosswaylaw05_EtherAsks.j0] at h, fun _ _ _ _ r h => by simp [crosswaylaw05_EtherAsks.j1] at h⟩
 | k + 1 => by
  obtain ⟨ih0, ih1⟩ := crosswaylaw05_EtherAsks.mono_l k
  refine ⟨?_, ?_⟩
  ·
   intro y0 y1 y2 y3 y4 y5 y6 y7 y8 y9 y10 y11
   unfold crosswaylaw05_EtherAsks.j0
   repeat' first
   | (with_reducible exact ih0 _ _ _ _ _ _ _ _ _ _ _ _)
   | (with_reducible exact ih1 _ _ _ _)
   | (with_reducible exact crosswaylaw05_awake.mono _)
   | (with_reducible exact ether_TakeArp.mono _ _)
   | (with_reducible exact LeO.refl _)
   | (with_reducible exact LeO.none _)
   | (with_reducible refine LeO.ite ?_ ?_)
   | (with_reducible refine LeO.bind ?_ (fun _ => ?_))
   | exact ih0 _ _ _ _ _ _ _ _ _ _ _ _
   | exact ih1 _ _ _ _
   | exact crosswaylaw05_awake.mono _
   | exact ether_TakeArp.mono _ _
   | exact LeO.none _
   | refine LeO.ite ?_ ?_
   | refine LeO.bind ?_ (fun _ => ?_)
  ·
   intro y0 y1 y2 y3
   unfold crosswaylaw05_EtherAsks.j1
   repeat' first
   | (with_reducible exact ih0 _ _ _ _ _ _ _ _ _ _ _ _)
   | (with_reducible exact ih1 _ _ _ _)
   | (with_reducible exact crosswaylaw05_awake.mono _)
   | (with_reducible exact ether_TakeArp.mono _ _)
   | (with_reducible exact LeO.refl _)
   | (with_reducible exact LeO.none _)
   | (with_reducible refine LeO.ite ?_ ?_)
   | (with_reducible refine LeO.bind ?_ (fun _ => ?_))
   | exact ih0 _ _ _ _ _ _ _ _ _ _ _ _
   | exact ih1 _ _ _ _
   | exact crosswaylaw05_awake.mono _
   | exact ether_TakeArp.mono _ _
   | exact LeO.none _
   | refine LeO.ite ?_ ?_
   | refine LeO.bind ?_ (fun _ => ?_)
theorem crosswaylaw05_EtherAsks.mono : ∀ a0 a1 a2 a3 a4 a5 a6 a7 a8 a9 a10 k, LeO (crosswaylaw05_EtherAsks.f k a0 a1 a2 a3 a4 a5 a6 a7 a8 a9 a10) (crosswaylaw05_EtherAsks.f (k + 1) a0 a1 a2 a3 a4 a5 a6 a7 a8 a9 a10) := by
 intro a0 a1 a2 a3 a4 a5 a6 a7 a8 a9 a10 k
 obtain ⟨ih0, ih1⟩ := crosswaylaw05_EtherAsks.mono_l k
 unfold crosswaylaw05_EtherAsks.f
 repeat' first
   | (with_reducible exact ih0 _ _ _ _ _ _ _ _ _ _ _ _)
   | (with_reducible exact ih1 _ _ _ _)
   | (with_reducible exact crosswaylaw05_awake.mono _)
   | (with_reducible exact ether_TakeArp.mono _ _)
   | (with_reducible exact LeO.refl _)
   | (with_reducible exact LeO.none _)
   | (with_reducible refine LeO.ite ?_ ?_)
   | (with_reducible refine LeO.bind ?_ (fun _ => ?_))
   | exact ih0 _ _ _ _ _ _ _ _ _ _ _ _
   | exact ih1 _ _ _ _
   | exact crosswaylaw05_awake.mono _
   | exact ether_TakeArp.mono _ _
   | exact LeO.none _
   | refine LeO.ite ?_ ?_
   | refine LeO.bind ?_ (fun _ => ?_)
set_option maxHeartbeats 8000000 in
set_option maxRecDepth 100000 in
theorem crosswaylaw05_EtherAsks.calls (k : Nat) (a0_0 : Int) (a0_1 : Int) (a0_2 : Bool) (a0_3 : Int) (a0_4 : Int) (a0_5 : Int) (a0_6 : Bool) (a0_7 : Int) (a0_8 : Int) (a1 : ByteArray) (a2 : Int) (r : Bool) (w : World) (h : crosswaylaw05_EtherAsks.f k a0_0 a0_1 a0_2 a0_3 a0_4 a0_5 a0_6 a0_7 a0_8 a1 a2 = some r) (hrt : r = true) (hg : ether_Glob w) :
  Calls Tryd.prog 7 #[.agg #[.int .i64 a0_0, .int .u64 a0_1, .bool a0_2, .int .u64 a0_3, .int .u64 a0_4, .int .u64 a0_5, .bool a0_6, .int .u64 a0_7, .int .u64 a0_8], .string a1, .int .i64 a2] w fun e w' => e = .returned (.bool r) ∧ Below w.heap.size w w' := by
 have HGL := Aside0.mk hg
 clear hg
 have HRT := Aside0.mk hrt
 clear hrt
 have hu29 := Tryd.underlying29
 have HB := Aside0.mk (Below.refl w.heap.size w)
 have H : ((crosswaylaw05_awake.f k).bind fun t378 => (if (a1.size : Int) > 5000 then (if 0 ≤ 5000 then (if 5000 ≤ (a1.size : Int) then (crosswaylaw05_EtherAsks.j0 k (a1.extract 0 5000) a2 t378 a0_0 a0_1 a0_2 a0_3 a0_4 a0_5 a0_6 a0_7 a0_8) else (none)) else (none)) else (crosswaylaw05_EtherAsks.j0 k a1 a2 t378 a0_0 a0_1 a0_2 a0_3 a0_4 a0_5 a0_6 a0_7 a0_8))) = some r := h
 clear h
 replace H := Option.bind_eq_some_iff.mp H
 obtain ⟨t378, A40, H⟩ := H
 have A4 := Aside0.mk A40
 clear A40
 have HC5 := Aside0.mk H
 clear H
 go_enter Tryd.func7, Tryd.ntmps7
 go_upto_if 17 with (first | ((with_reducible refine gate_dst (N := 3) rfl ?_); (try (refine gate_guard (by rfl) ?_; dsimp only)); refine box_event ?hg (N := 3) ?hd (cs := #[.int .i64 a0_0, .int .u64 a0_1, .bool a0_2, .int .u64 a0_3, .int .u64 a0_4, .int .u64 a0_5, .bool a0_6, .int .u64 a0_7, .int .u64 a0_8]) (t := 29) ?hr ?_; (case hd => rfl); (case hg => rfl); (case hr => first | (go_simp; done) | (go_simp; rfl)); intro gb377 hg w6 hbox hb; have n0_ := Aside0.mk (below_step (by repeat (first | (with_reducible first | exact HB.out | apply below_alloc | apply pw_below_drewN | apply below_drew1) | exact HB.out)) hb); have n1_ := Aside0.mk (hbox); have n2_ := Aside0.mk ((by rw [hg]; exact (below_size (by repeat (first | (with_reducible first | exact HB.out | apply below_alloc | apply pw_below_drewN | apply below_drew1) | exact HB.out))) : w.heap.size ≤ gb377)); have n3_ := Aside0.mk ((by rw [hg]; exact (below_size (by repeat (first | (with_reducible first | exact HB.out | apply below_alloc | apply pw_below_drewN | apply below_drew1) | exact HB.out))) : w.heap.size ≤ gb377)); clear HB; have HB := n0_; have BK377 := n1_; have GW377 := n2_; have GE377 := n3_; clear n0_ n1_ n2_ n3_; clear hb hbox hg) | ((with_reducible refine gate_callee (f := 10) rfl ?_); refine goesL_ (some 14) rfl rfl Tryd.func10 (by kernel_rfl) rfl #[] rfl (by (try simp only [List.map_toArray, List.map_cons, List.map_nil]); first | done | rfl | (simp only [List.length_drop, List.length_take]; rfl)) ?_; (with_reducible refine Calls.mono (crosswaylaw05_awake.calls k  t378 _ A4.out ?hgl_) ?_); (case hgl_ => exact ether_Glob_below HGL.out (by repeat (first | (with_reducible first | exact HB.out | apply below_alloc | apply pw_below_drewN | apply below_drew1 | refine below_set ?_ GE377.out) | exact HB.out))); rintro e w7 ⟨rfl, hb⟩; refine ⟨_, rfl, ?_⟩; have n0_ := Aside0.mk (blk_below (g := gb377) (o := .cells #[.int .i64 a0_0, .int .u64 a0_1, .bool a0_2, .int .u64 a0_3, .int .u64 a0_4, .int .u64 a0_5, .bool a0_6, .int .u64 a0_7, .int .u64 a0_8] 29 (0, 0)) (by (with_reducible repeat (first | refine blk_drewN ?_ _ | refine blk_drew ?_ | refine blk_alloc ?_ _)); exact BK377.out) hb); have n1_ := Aside0.mk (below_step (by repeat (first | (with_reducible first | exact HB.out | apply below_alloc | apply pw_below_drewN | apply below_drew1 | refine below_set ?_ GE377.out) | exact HB.out)) hb); clear BK377; clear HB; have BK377 := n0_; have HB := n1_; clear n0_ n1_; (try clear hb); (try clear hb2); (try clear hk); (try clear hi)))
 (try simp only [Act.put, List.setIfInBounds_toArray, List.set_cons_zero, List.set_cons_succ])
 go_cut [1] (fun v1 wc => ∃ (kq : Nat) (x1_4 : ByteArray), v1 = .string x1_4 ∧ Aside0 (crosswaylaw05_EtherAsks.j0 kq x1_4 a2 t378 a0_0 a0_1 a0_2 a0_3 a0_4 a0_5 a0_6 a0_7 a0_8 = some r) ∧ Aside0 (kq ≤ k) ∧ Aside0 (wc.heap[gb377]? = some (.cells #[.int .i64 a0_0, .int .u64 a0_1, .bool a0_2, .int .u64 a0_3, .int .u64 a0_4, .int .u64 a0_5, .bool a0_6, .int .u64 a0_7, .int .u64 a0_8] 29 (0, 0))) ∧ Aside0 (Below w.heap.size w wc))
 case first =>
  have H := HC5.out
  clear HC5
  by_cases c8 : (a1.size : Int) > 5000
  ·
   rw [if_pos c8] at H
   have c8b0 : decide (5000 < (a1.size : Int)) = true := decide_eq_true c8
   have c8b1 : decide (5000 < a1.size) = true := decide_eq_true (by omega)
   clear c8
   (first | rw [c8b0] | (simp only [i64_w, i32_w]; rw [c8b0]) | skip)
   by_cases c9 : 0 ≤ 5000
   ·
    rw [if_pos c9] at H
    have c9b0 := eq_true c9
    have c9b1 : decide (0 ≤ 5000) = true := decide_eq_true c9
    clear c9
    by_cases c10 : 5000 ≤ (a1.size : Int)
    ·
     rw [if_pos c10] at H
     have c10b0 := eq_true c10
     have c10b1 : decide (5000 ≤ (a1.size : Int)) = true := decide_eq_true c10
     clear c10
     have H' := Aside0.mk H
     clear H
     go_wp2
     go_meet
     case rel => exact ⟨_, (a1.extract 0 5000), (by first | rfl | (simp; done) | (simp [*]; done)), H', ⟨by first | omega | exact Nat.le_refl _⟩, ⟨by (with_reducible repeat (first | refine blk_drewN ?_ _ | refine blk_drew ?_ | refine blk_alloc ?_ _)); exact BK377.out⟩, ⟨by repeat (first | (with_reducible first | exact HB.out | apply below_alloc | apply pw_below_drewN | apply below_drew1 | refine below_set ?_ GE377.out) | exact HB.out)⟩⟩
    ·
     rw [if_neg c10] at H
     exact absurd H (by simp)
   ·
    rw [if_neg c9] at H
    exact absurd H (by simp)
  ·
   rw [if_neg c8] at H
   have c8b0 : decide (5000 < (a1.size : Int)) = false := decide_eq_false c8
   have c8b1 : decide (5000 < a1.size) = false := decide_eq_false (by omega)
   clear c8
   (first | rw [c8b0] | (simp only [i64_w, i32_w]; rw [c8b0]) | skip)
   have H' := Aside0.mk H
   clear H
   go_wp2
   go_meet
   case rel => exact ⟨_, (a1), (by first | rfl | (simp; done) | (simp [*]; done)), H', ⟨by first | omega | exact Nat.le_refl _⟩, ⟨by (with_reducible repeat (first | refine blk_drewN ?_ _ | refine blk_drew ?_ | refine blk_alloc ?_ _)); exact BK377.out⟩, ⟨by repeat (first | (with_reducible first | exact HB.out | apply below_alloc | apply pw_below_drewN | apply below_drew1 | refine below_set ?_ GE377.out) | exact HB.out)⟩⟩
 case rest =>
  clear HC5
  try clear c1
  try clear p2
  try clear c7
  try clear c8
  try clear c8b0
  try clear c8b1
  try clear c9
  try clear c9b0
  try clear c9b1
  try clear c10
  try clear c10b0
  try clear c10b1
  obtain ⟨kq, x1_4, rfl, HA, HJ4, BK377, HB⟩ := hcut
  cases kq with
  | zero => exact absurd HA.out (by simp [crosswaylaw05_EtherAsks.j0])
  | succ kj4 =>
   have H := HA.out
   clear HA
   simp only [crosswaylaw05_EtherAsks.j0] at H
   replace H := Option.bind_eq_some_iff.mp H
   obtain ⟨⟨t379, t380⟩, A110, H⟩ := H
   replace H : (if t380 = 0 then (if t379.size + x1_4.size ≤ 9223372036854775807 then ((ether_TakeArp.f kj4 (t379 ++ x1_4)).bind fun bt381 => (if bt381.2.2.2.2.2.2.2.2.2 = 0 then (if (!(bt381.1 == a0_0) || (!(bt381.2.1 == a0_1) || ((!(bt381.2.2.1 == a0_2) || (!(bt381.2.2.2.1 == a0_3) || (!(bt381.2.2.2.2.1 == a0_4)))) || (!(bt381.2.2.2.2.2.1 == a0_5) || ((!(bt381.2.2.2.2.2.2.1 == a0_6) || (!(bt381.2.2.2.2.2.2.2.1 == a0_7) || (!(bt381.2.2.2.2.2.2.2.2.1 == a0_8))))))))) = true then (crosswaylaw05_EtherAsks.j1 kj4 a2 t378 t379 true) else (crosswaylaw05_EtherAsks.j1 kj4 a2 t378 t379 ((t379.size : Int) != 28))) else (crosswaylaw05_EtherAsks.j1 kj4 a2 t378 t379 true))) else (none)) else (if t378 = true then (if t379.toList = ([] : List UInt8) then (some (t380 == 40)) else (some false)) else (some false))) = some r := H
   have A11 := Aside0.mk A110
   clear A110
   by_cases c12 : t380 = 0
   ·
    rw [if_pos c12] at H
    have c12b0 : (t380 == 0) = true := beq_iff_eq.mpr c12
    have c12b1 : (t380 != 0) = false := bne_eq_false_iff_eq.mpr c12
    clear c12
    by_cases c13 : t379.size + x1_4.size ≤ 9223372036854775807
    ·
     rw [if_pos c13] at H
     have c13b0 := eq_true c13
     have c13b1 : decide (t379.size + x1_4.size ≤ 9223372036854775807) = true := decide_eq_true c13
     try have c13b2 : (9223372036854775807 < t379.size + x1_4.size) = False := eq_false (Nat.not_lt.2 c13)
     replace H := Option.bind_eq_some_iff.mp H
     obtain ⟨⟨t381, t382, t383, t384, t385, t386, t387, t388, t389, t390⟩, A140, H⟩ := H
     replace H : (if t390 = 0 then (if (!(t381 == a0_0) || (!(t382 == a0_1) || ((!(t383 == a0_2) || (!(t384 == a0_3) || (!(t385 == a0_4)))) || (!(t386 == a0_5) || ((!(t387 == a0_6) || (!(t388 == a0_7) || (!(t389 == a0_8))))))))) = true then (crosswaylaw05_EtherAsks.j1 kj4 a2 t378 t379 true) else (crosswaylaw05_EtherAsks.j1 kj4 a2 t378 t379 ((t379.size : Int) != 28))) else (crosswaylaw05_EtherAsks.j1 kj4 a2 t378 t379 true)) = some r := H
     have A14 := Aside0.mk A140
     clear A140
     have HC15 := Aside0.mk H
     clear H
     have hcz16_0 : wc.cell? ⟨gb377, 0, none⟩ = some (.int .i64 a0_0) := (blk_cell BK377.out 0).trans rfl
     have hcz16_1 : wc.cell? ⟨gb377, 1, none⟩ = some (.int .u64 a0_1) := (blk_cell BK377.out 1).trans rfl
     have hcz16_2 : wc.cell? ⟨gb377, 2, none⟩ = some (.bool a0_2) := (blk_cell BK377.out 2).trans rfl
     have hcz16_3 : wc.cell? ⟨gb377, 3, none⟩ = some (.int .u64 a0_3) := (blk_cell BK377.out 3).trans rfl
     have hcz16_4 : wc.cell? ⟨gb377, 4, none⟩ = some (.int .u64 a0_4) := (blk_cell BK377.out 4).trans rfl
     have hcz16_5 : wc.cell? ⟨gb377, 5, none⟩ = some (.int .u64 a0_5) := (blk_cell BK377.out 5).trans rfl
     have hcz16_6 : wc.cell? ⟨gb377, 6, none⟩ = some (.bool a0_6) := (blk_cell BK377.out 6).trans rfl
     have hcz16_7 : wc.cell? ⟨gb377, 7, none⟩ = some (.int .u64 a0_7) := (blk_cell BK377.out 7).trans rfl
     have hcz16_8 : wc.cell? ⟨gb377, 8, none⟩ = some (.int .u64 a0_8) := (blk_cell BK377.out 8).trans rfl
     have hfz16_0 := blk_frozen BK377.out 0
     have hfz16_1 := blk_frozen BK377.out 1
     have hfz16_2 := blk_frozen BK377.out 2
     have hfz16_3 := blk_frozen BK377.out 3
     have hfz16_4 := blk_frozen BK377.out 4
     have hfz16_5 := blk_frozen BK377.out 5
     have hfz16_6 := blk_frozen BK377.out 6
     have hfz16_7 := blk_frozen BK377.out 7
     have hfz16_8 := blk_frozen BK377.out 8
     go_upto_region 8 with (first | ((with_reducible refine gate_callee (f := 13) rfl ?_); refine goesL_ (some 22) rfl rfl Tryd.func13 (by kernel_rfl) rfl #[.agg #[.int .i64 a0_0, .int .u64 a0_1, .bool a0_2, .int .u64 a0_3, .int .u64 a0_4, .int .u64 a0_5, .bool a0_6, .int .u64 a0_7, .int .u64 a0_8]] rfl (by (try simp only [List.map_toArray, List.map_cons, List.map_nil]); first | done | rfl | (simp only [List.length_drop, List.length_take]; rfl)) ?_; (with_reducible refine Calls.mono (ether_LayArp.calls a0_0 a0_1 a0_2 a0_3 a0_4 a0_5 a0_6 a0_7 a0_8 t379 t380 _ A11.out ?hgl_) ?_); (case hgl_ => exact ether_Glob_below HGL.out (by repeat (first | (with_reducible first | exact HB.out | apply below_alloc | apply pw_below_drewN | apply below_drew1 | refine below_set ?_ GE377.out) | exact HB.out))); rintro e w17 ⟨rfl, hb⟩; refine ⟨_, rfl, ?_⟩; have n0_ := Aside0.mk (blk_below (g := gb377) (o := .cells #[.int .i64 a0_0, .int .u64 a0_1, .bool a0_2, .int .u64 a0_3, .int .u64 a0_4, .int .u64 a0_5, .bool a0_6, .int .u64 a0_7, .int .u64 a0_8] 29 (0, 0)) (by (with_reducible repeat (first | refine blk_drewN ?_ _ | refine blk_drew ?_ | refine blk_alloc ?_ _)); exact BK377.out) hb); have n1_ := Aside0.mk (below_step (by repeat (first | (with_reducible first | exact HB.out | apply below_alloc | apply pw_below_drewN | apply below_drew1 | refine below_set ?_ GE377.out) | exact HB.out)) hb); clear BK377; clear HB; have BK377 := n0_; have HB := n1_; clear n0_ n1_; (try clear hb); (try clear hb2); (try clear hk); (try clear hi)) | ((with_reducible refine gate_callee (f := 17) rfl ?_); refine goesL_ (some 40) rfl rfl Tryd.func17 (by kernel_rfl) rfl #[.string (t379 ++ x1_4)] rfl (by (try simp only [List.map_toArray, List.map_cons, List.map_nil]); first | done | rfl | (simp only [List.length_drop, List.length_take]; rfl)) ?_; (with_reducible refine Calls.mono (ether_TakeArp.calls kj4 (t379 ++ x1_4) t381 t382 t383 t384 t385 t386 t387 t388 t389 t390 _ A14.out ?hgl_) ?_); (case hgl_ => exact ether_Glob_below HGL.out (by repeat (first | (with_reducible first | exact HB.out | apply below_alloc | apply pw_below_drewN | apply below_drew1 | refine below_set ?_ GE377.out) | exact HB.out))); rintro e w18 ⟨rfl, hb⟩; refine ⟨_, rfl, ?_⟩; have n0_ := Aside0.mk (blk_below (g := gb377) (o := .cells #[.int .i64 a0_0, .int .u64 a0_1, .bool a0_2, .int .u64 a0_3, .int .u64 a0_4, .int .u64 a0_5, .bool a0_6, .int .u64 a0_7, .int .u64 a0_8] 29 (0, 0)) (by (with_reducible repeat (first | refine blk_drewN ?_ _ | refine blk_drew ?_ | refine blk_alloc ?_ _)); exact BK377.out) hb); have n1_ := Aside0.mk (below_step (by repeat (first | (with_reducible first | exact HB.out | apply below_alloc | apply pw_below_drewN | apply below_drew1 | refine below_set ?_ GE377.out) | exact HB.out)) hb); clear BK377; clear HB; have BK377 := n0_; have HB := n1_; clear n0_ n1_; (try clear hb); (try clear hb2); (try clear hk); (try clear hi)) | ((with_reducible refine gate_dst (N := 10) rfl ?_); (try (refine gate_guard (by rfl) ?_; dsimp only)); refine box_event ?hg (N := 10) ?hd (cs := #[.int .i64 0, .int .u64 0, .bool false, .int .u64 0, .int .u64 0, .int .u64 0, .bool false, .int .u64 0, .int .u64 0]) (t := 29) ?hr ?_; (case hd => rfl); (case hg => rfl); (case hr => first | (go_simp; done) | (go_simp; rfl)); intro gb391 hg w19 hbox hb; have n0_ := Aside0.mk (blk_below (g := gb377) (o := .cells #[.int .i64 a0_0, .int .u64 a0_1, .bool a0_2, .int .u64 a0_3, .int .u64 a0_4, .int .u64 a0_5, .bool a0_6, .int .u64 a0_7, .int .u64 a0_8] 29 (0, 0)) (by (with_reducible repeat (first | refine blk_drewN ?_ _ | refine blk_drew ?_ | refine blk_alloc ?_ _)); exact BK377.out) hb); have n1_ := Aside0.mk (below_step (by repeat (first | (with_reducible first | exact HB.out | apply below_alloc | apply pw_below_drewN | apply below_drew1 | refine below_set ?_ GE377.out) | exact HB.out)) hb); have n2_ := Aside0.mk (hbox); have n3_ := Aside0.mk ((by rw [hg]; exact (below_size (by repeat (first | (with_reducible first | exact HB.out | apply below_alloc | apply pw_below_drewN | apply below_drew1 | refine below_set ?_ GE377.out) | exact HB.out))) : w.heap.size ≤ gb391)); have n4_ := Aside0.mk ((by rw [hg]; exact (below_size (by repeat (first | (with_reducible first | exact HB.out | apply below_alloc | apply pw_below_drewN | apply below_drew1 | refine below_set ?_ GE377.out) | exact HB.out))) : w.heap.size ≤ gb391)); have n5_ := Aside0.mk ((by rw [hg]; exact Nat.ne_of_lt (blk_lt (g := gb377) (o := .cells #[.int .i64 a0_0, .int .u64 a0_1, .bool a0_2, .int .u64 a0_3, .int .u64 a0_4, .int .u64 a0_5, .bool a0_6, .int .u64 a0_7, .int .u64 a0_8] 29 (0, 0)) (by (with_reducible repeat (first | refine blk_drewN ?_ _ | refine blk_drew ?_ | refine blk_alloc ?_ _)); exact BK377.out)) : gb377 ≠ gb391)); have n6_ := Aside0.mk ((by rw [hg]; exact Nat.ne_of_gt (blk_lt (g := gb377) (o := .cells #[.int .i64 a0_0, .int .u64 a0_1, .bool a0_2, .int .u64 a0_3, .int .u64 a0_4, .int .u64 a0_5, .bool a0_6, .int .u64 a0_7, .int .u64 a0_8] 29 (0, 0)) (by (with_reducible repeat (first | refine blk_drewN ?_ _ | refine blk_drew ?_ | refine blk_alloc ?_ _)); exact BK377.out)) : gb391 ≠ gb377)); clear BK377; clear HB; have BK377 := n0_; have HB := n1_; have BK391 := n2_; have GW391 := n3_; have GE391 := n4_; have NB377_391 := n5_; have NB391_377 := n6_; clear n0_ n1_ n2_ n3_ n4_ n5_ n6_; clear hb hbox hg; have hnb20 := NB391_377.out; have hnc20 := NB377_391.out; obtain ⟨hcz21_0, hcz21_1, hcz21_2, hcz21_3, hcz21_4, hcz21_5, hcz21_6, hcz21_7, hcz21_8⟩ := MBlk.c9 BK391.out; obtain ⟨hfz21_0, hfz21_1, hfz21_2, hfz21_3, hfz21_4, hfz21_5, hfz21_6, hfz21_7, hfz21_8⟩ := MBlk.f9 BK391.out))
     (try simp only [Act.put, List.setIfInBounds_toArray, List.set_cons_zero, List.set_cons_succ])
     go_cut [54] (fun v54 wc => ∃ (kq : Nat) (x54_14 : Bool), v54 = .bool x54_14 ∧ Aside0 (crosswaylaw05_EtherAsks.j1 kq a2 t378 t379 x54_14 = some r) ∧ Aside0 (kq ≤ kj4) ∧ Aside0 (wc.heap[gb377]? = some (.cells #[.int .i64 a0_0, .int .u64 a0_1, .bool a0_2, .int .u64 a0_3, .int .u64 a0_4, .int .u64 a0_5, .bool a0_6, .int .u64 a0_7, .int .u64 a0_8] 29 (0, 0))) ∧ Aside0 (wc.heap[gb391]? = some (.cells #[.int .i64 t381, .int .u64 t382, .bool t383, .int .u64 t384, .int .u64 t385, .int .u64 t386, .bool t387, .int .u64 t388, .int .u64 t389] 29 (0, 0))) ∧ Aside0 (Below w.heap.size w wc))
     case first =>
      have H := HC15.out
      clear HC15
      by_cases c22 : t390 = 0
      ·
       rw [if_pos c22] at H
       have c22b0 : (t390 == 0) = true := beq_iff_eq.mpr c22
       have c22b1 : (t390 != 0) = false := bne_eq_false_iff_eq.mpr c22
       clear c22
       (first | rw [c22b0] | (simp only [i64_w, i32_w]; rw [c22b0]) | skip)
       by_cases c23 : (!(t381 == a0_0) || (!(t382 == a0_1) || ((!(t383 == a0_2) || (!(t384 == a0_3) || (!(t385 == a0_4)))) || (!(t386 == a0_5) || ((!(t387 == a0_6) || (!(t388 == a0_7) || (!(t389 == a0_8))))))))) = true
       ·
        rw [if_pos c23] at H
        have c23b0 : (!(t381 == a0_0) || (!(t382 == a0_1) || ((!(t383 == a0_2) || (!(t384 == a0_3) || (!(t385 == a0_4)))) || (!(t386 == a0_5) || ((!(t387 == a0_6) || (!(t388 == a0_7) || (!(t389 == a0_8))))))))) = true := c23
        clear c23
        have H' := Aside0.mk H
        clear H
        have hnb24 := NB391_377.out
        have hnc24 := NB377_391.out
        have hcz25_0 : w19.cell? ⟨gb391, 0, none⟩ = some (.int .i64 0) := (blk_cell BK391.out 0).trans rfl
        have hcz25_1 : w19.cell? ⟨gb391, 1, none⟩ = some (.int .u64 0) := (blk_cell BK391.out 1).trans rfl
        have hcz25_2 : w19.cell? ⟨gb391, 2, none⟩ = some (.bool false) := (blk_cell BK391.out 2).trans rfl
        have hcz25_3 : w19.cell? ⟨gb391, 3, none⟩ = some (.int .u64 0) := (blk_cell BK391.out 3).trans rfl
        have hcz25_4 : w19.cell? ⟨gb391, 4, none⟩ = some (.int .u64 0) := (blk_cell BK391.out 4).trans rfl
        have hcz25_5 : w19.cell? ⟨gb391, 5, none⟩ = some (.int .u64 0) := (blk_cell BK391.out 5).trans rfl
        have hcz25_6 : w19.cell? ⟨gb391, 6, none⟩ = some (.bool false) := (blk_cell BK391.out 6).trans rfl
        have hcz25_7 : w19.cell? ⟨gb391, 7, none⟩ = some (.int .u64 0) := (blk_cell BK391.out 7).trans rfl
        have hcz25_8 : w19.cell? ⟨gb391, 8, none⟩ = some (.int .u64 0) := (blk_cell BK391.out 8).trans rfl
        have hfz25_0 := blk_frozen BK391.out 0
        have hfz25_1 := blk_frozen BK391.out 1
        have hfz25_2 := blk_frozen BK391.out 2
        have hfz25_3 := blk_frozen BK391.out 3
        have hfz25_4 := blk_frozen BK391.out 4
        have hfz25_5 := blk_frozen BK391.out 5
        have hfz25_6 := blk_frozen BK391.out 6
        have hfz25_7 := blk_frozen BK391.out 7
        have hfz25_8 := blk_frozen BK391.out 8
        have hcz26_0 : w19.cell? ⟨gb377, 0, none⟩ = some (.int .i64 a0_0) := (blk_cell BK377.out 0).trans rfl
        have hcz26_1 : w19.cell? ⟨gb377, 1, none⟩ = some (.int .u64 a0_1) := (blk_cell BK377.out 1).trans rfl
        have hcz26_2 : w19.cell? ⟨gb377, 2, none⟩ = some (.bool a0_2) := (blk_cell BK377.out 2).trans rfl
        have hcz26_3 : w19.cell? ⟨gb377, 3, none⟩ = some (.int .u64 a0_3) := (blk_cell BK377.out 3).trans rfl
        have hcz26_4 : w19.cell? ⟨gb377, 4, none⟩ = some (.int .u64 a0_4) := (blk_cell BK377.out 4).trans rfl
        have hcz26_5 : w19.cell? ⟨gb377, 5, none⟩ = some (.int .u64 a0_5) := (blk_cell BK377.out 5).trans rfl
        have hcz26_6 : w19.cell? ⟨gb377, 6, none⟩ = some (.bool a0_6) := (blk_cell BK377.out 6).trans rfl
        have hcz26_7 : w19.cell? ⟨gb377, 7, none⟩ = some (.int .u64 a0_7) := (blk_cell BK377.out 7).trans rfl
        have hcz26_8 : w19.cell? ⟨gb377, 8, none⟩ = some (.int .u64 a0_8) := (blk_cell BK377.out 8).trans rfl
        have hfz26_0 := blk_frozen BK377.out 0
        have hfz26_1 := blk_frozen BK377.out 1
        have hfz26_2 := blk_frozen BK377.out 2
        have hfz26_3 := blk_frozen BK377.out 3
        have hfz26_4 := blk_frozen BK377.out 4
        have hfz26_5 := blk_frozen BK377.out 5
        have hfz26_6 := blk_frozen BK377.out 6
        have hfz26_7 := blk_frozen BK377.out 7
        have hfz26_8 := blk_frozen BK377.out 8
        go_wp2
        go_meet
        case rel => exact ⟨_, (true), (by first | rfl | (simp; done) | (simp [*]; done)), H', ⟨by have := HJ4.out; first | omega | exact Nat.le_refl _⟩, ⟨by (with_reducible repeat (first | refine blk_drewN ?_ _ | refine blk_drew ?_ | refine blk_alloc ?_ _)); refine blk_far ?_ NB377_391.out _; (with_reducible repeat (first | refine blk_drewN ?_ _ | refine blk_drew ?_ | refine blk_alloc ?_ _)); refine blk_far ?_ NB377_391.out _; (with_reducible repeat (first | refine blk_drewN ?_ _ | refine blk_drew ?_ | refine blk_alloc ?_ _)); refine blk_far ?_ NB377_391.out _; (with_reducible repeat (first | refine blk_drewN ?_ _ | refine blk_drew ?_ | refine blk_alloc ?_ _)); refine blk_far ?_ NB377_391.out _; (with_reducible repeat (first | refine blk_drewN ?_ _ | refine blk_drew ?_ | refine blk_alloc ?_ _)); refine blk_far ?_ NB377_391.out _; (with_reducible repeat (first | refine blk_drewN ?_ _ | refine blk_drew ?_ | refine blk_alloc ?_ _)); refine blk_far ?_ NB377_391.out _; (with_reducible repeat (first | refine blk_drewN ?_ _ | refine blk_drew ?_ | refine blk_alloc ?_ _)); refine blk_far ?_ NB377_391.out _; (with_reducible repeat (first | refine blk_drewN ?_ _ | refine blk_drew ?_ | refine blk_alloc ?_ _)); refine blk_far ?_ NB377_391.out _; (with_reducible repeat (first | refine blk_drewN ?_ _ | refine blk_drew ?_ | refine blk_alloc ?_ _)); refine blk_far ?_ NB377_391.out _; (with_reducible repeat (first | refine blk_drewN ?_ _ | refine blk_drew ?_ | refine blk_alloc ?_ _)); exact BK377.out⟩, ⟨by (with_reducible repeat (first | refine blk_drewN ?_ _ | refine blk_drew ?_ | refine blk_alloc ?_ _)); refine blk_put (cs := #[.int .i64 t381, .int .u64 t382, .bool t383, .int .u64 t384, .int .u64 t385, .int .u64 t386, .bool t387, .int .u64 t388, .int .u64 0]) ?_ 8 _ rfl; (with_reducible repeat (first | refine blk_drewN ?_ _ | refine blk_drew ?_ | refine blk_alloc ?_ _)); refine blk_put (cs := #[.int .i64 t381, .int .u64 t382, .bool t383, .int .u64 t384, .int .u64 t385, .int .u64 t386, .bool t387, .int .u64 0, .int .u64 0]) ?_ 7 _ rfl; (with_reducible repeat (first | refine blk_drewN ?_ _ | refine blk_drew ?_ | refine blk_alloc ?_ _)); refine blk_put (cs := #[.int .i64 t381, .int .u64 t382, .bool t383, .int .u64 t384, .int .u64 t385, .int .u64 t386, .bool false, .int .u64 0, .int .u64 0]) ?_ 6 _ rfl; (with_reducible repeat (first | refine blk_drewN ?_ _ | refine blk_drew ?_ | refine blk_alloc ?_ _)); refine blk_put (cs := #[.int .i64 t381, .int .u64 t382, .bool t383, .int .u64 t384, .int .u64 t385, .int .u64 0, .bool false, .int .u64 0, .int .u64 0]) ?_ 5 _ rfl; (with_reducible repeat (first | refine blk_drewN ?_ _ | refine blk_drew ?_ | refine blk_alloc ?_ _)); refine blk_put (cs := #[.int .i64 t381, .int .u64 t382, .bool t383, .int .u64 t384, .int .u64 0, .int .u64 0, .bool false, .int .u64 0, .int .u64 0]) ?_ 4 _ rfl; (with_reducible repeat (first | refine blk_drewN ?_ _ | refine blk_drew ?_ | refine blk_alloc ?_ _)); refine blk_put (cs := #[.int .i64 t381, .int .u64 t382, .bool t383, .int .u64 0, .int .u64 0, .int .u64 0, .bool false, .int .u64 0, .int .u64 0]) ?_ 3 _ rfl; (with_reducible repeat (first | refine blk_drewN ?_ _ | refine blk_drew ?_ | refine blk_alloc ?_ _)); refine blk_put (cs := #[.int .i64 t381, .int .u64 t382, .bool false, .int .u64 0, .int .u64 0, .int .u64 0, .bool false, .int .u64 0, .int .u64 0]) ?_ 2 _ rfl; (with_reducible repeat (first | refine blk_drewN ?_ _ | refine blk_drew ?_ | refine blk_alloc ?_ _)); refine blk_put (cs := #[.int .i64 t381, .int .u64 0, .bool false, .int .u64 0, .int .u64 0, .int .u64 0, .bool false, .int .u64 0, .int .u64 0]) ?_ 1 _ rfl; (with_reducible repeat (first | refine blk_drewN ?_ _ | refine blk_drew ?_ | refine blk_alloc ?_ _)); refine blk_put (cs := #[.int .i64 0, .int .u64 0, .bool false, .int .u64 0, .int .u64 0, .int .u64 0, .bool false, .int .u64 0, .int .u64 0]) ?_ 0 _ rfl; (with_reducible repeat (first | refine blk_drewN ?_ _ | refine blk_drew ?_ | refine blk_alloc ?_ _)); exact BK391.out⟩, ⟨by repeat (first | (with_reducible first | exact HB.out | apply below_alloc | apply pw_below_drewN | apply below_drew1 | refine below_set ?_ GE377.out | refine below_set ?_ GE391.out) | exact HB.out)⟩⟩
       ·
        rw [if_neg c23] at H
        have c23b0 : (!(t381 == a0_0) || (!(t382 == a0_1) || ((!(t383 == a0_2) || (!(t384 == a0_3) || (!(t385 == a0_4)))) || (!(t386 == a0_5) || ((!(t387 == a0_6) || (!(t388 == a0_7) || (!(t389 == a0_8))))))))) = false := by simpa using c23
        clear c23
        have H' := Aside0.mk H
        clear H
        have hnb27 := NB391_377.out
        have hnc27 := NB377_391.out
        have hcz28_0 : w19.cell? ⟨gb391, 0, none⟩ = some (.int .i64 0) := (blk_cell BK391.out 0).trans rfl
        have hcz28_1 : w19.cell? ⟨gb391, 1, none⟩ = some (.int .u64 0) := (blk_cell BK391.out 1).trans rfl
        have hcz28_2 : w19.cell? ⟨gb391, 2, none⟩ = some (.bool false) := (blk_cell BK391.out 2).trans rfl
        have hcz28_3 : w19.cell? ⟨gb391, 3, none⟩ = some (.int .u64 0) := (blk_cell BK391.out 3).trans rfl
        have hcz28_4 : w19.cell? ⟨gb391, 4, none⟩ = some (.int .u64 0) := (blk_cell BK391.out 4).trans rfl
        have hcz28_5 : w19.cell? ⟨gb391, 5, none⟩ = some (.int .u64 0) := (blk_cell BK391.out 5).trans rfl
        have hcz28_6 : w19.cell? ⟨gb391, 6, none⟩ = some (.bool false) := (blk_cell BK391.out 6).trans rfl
        have hcz28_7 : w19.cell? ⟨gb391, 7, none⟩ = some (.int .u64 0) := (blk_cell BK391.out 7).trans rfl
        have hcz28_8 : w19.cell? ⟨gb391, 8, none⟩ = some (.int .u64 0) := (blk_cell BK391.out 8).trans rfl
        have hfz28_0 := blk_frozen BK391.out 0
        have hfz28_1 := blk_frozen BK391.out 1
        have hfz28_2 := blk_frozen BK391.out 2
        have hfz28_3 := blk_frozen BK391.out 3
        have hfz28_4 := blk_frozen BK391.out 4
        have hfz28_5 := blk_frozen BK391.out 5
        have hfz28_6 := blk_frozen BK391.out 6
        have hfz28_7 := blk_frozen BK391.out 7
        have hfz28_8 := blk_frozen BK391.out 8
        have hcz29_0 : w19.cell? ⟨gb377, 0, none⟩ = some (.int .i64 a0_0) := (blk_cell BK377.out 0).trans rfl
        have hcz29_1 : w19.cell? ⟨gb377, 1, none⟩ = some (.int .u64 a0_1) := (blk_cell BK377.out 1).trans rfl
        have hcz29_2 : w19.cell? ⟨gb377, 2, none⟩ = some (.bool a0_2) := (blk_cell BK377.out 2).trans rfl
        have hcz29_3 : w19.cell? ⟨gb377, 3, none⟩ = some (.int .u64 a0_3) := (blk_cell BK377.out 3).trans rfl
        have hcz29_4 : w19.cell? ⟨gb377, 4, none⟩ = some (.int .u64 a0_4) := (blk_cell BK377.out 4).trans rfl
        have hcz29_5 : w19.cell? ⟨gb377, 5, none⟩ = some (.int .u64 a0_5) := (blk_cell BK377.out 5).trans rfl
        have hcz29_6 : w19.cell? ⟨gb377, 6, none⟩ = some (.bool a0_6) := (blk_cell BK377.out 6).trans rfl
        have hcz29_7 : w19.cell? ⟨gb377, 7, none⟩ = some (.int .u64 a0_7) := (blk_cell BK377.out 7).trans rfl
        have hcz29_8 : w19.cell? ⟨gb377, 8, none⟩ = some (.int .u64 a0_8) := (blk_cell BK377.out 8).trans rfl
        have hfz29_0 := blk_frozen BK377.out 0
        have hfz29_1 := blk_frozen BK377.out 1
        have hfz29_2 := blk_frozen BK377.out 2
        have hfz29_3 := blk_frozen BK377.out 3
        have hfz29_4 := blk_frozen BK377.out 4
        have hfz29_5 := blk_frozen BK377.out 5
        have hfz29_6 := blk_frozen BK377.out 6
        have hfz29_7 := blk_frozen BK377.out 7
        have hfz29_8 := blk_frozen BK377.out 8
        go_wp2
        go_meet
        case rel => exact ⟨_, (((t379.size : Int) != 28)), (by first | rfl | (simp; done) | (simp [*]; done)), H', ⟨by have := HJ4.out; first | omega | exact Nat.le_refl _⟩, ⟨by (with_reducible repeat (first | refine blk_drewN ?_ _ | refine blk_drew ?_ | refine blk_alloc ?_ _)); refine blk_far ?_ NB377_391.out _; (with_reducible repeat (first | refine blk_drewN ?_ _ | refine blk_drew ?_ | refine blk_alloc ?_ _)); refine blk_far ?_ NB377_391.out _; (with_reducible repeat (first | refine blk_drewN ?_ _ | refine blk_drew ?_ | refine blk_alloc ?_ _)); refine blk_far ?_ NB377_391.out _; (with_reducible repeat (first | refine blk_drewN ?_ _ | refine blk_drew ?_ | refine blk_alloc ?_ _)); refine blk_far ?_ NB377_391.out _; (with_reducible repeat (first | refine blk_drewN ?_ _ | refine blk_drew ?_ | refine blk_alloc ?_ _)); refine blk_far ?_ NB377_391.out _; (with_reducible repeat (first | refine blk_drewN ?_ _ | refine blk_drew ?_ | refine blk_alloc ?_ _)); refine blk_far ?_ NB377_391.out _; (with_reducible repeat (first | refine blk_drewN ?_ _ | refine blk_drew ?_ | refine blk_alloc ?_ _)); refine blk_far ?_ NB377_391.out _; (with_reducible repeat (first | refine blk_drewN ?_ _ | refine blk_drew ?_ | refine blk_alloc ?_ _)); refine blk_far ?_ NB377_391.out _; (with_reducible repeat (first | refine blk_drewN ?_ _ | refine blk_drew ?_ | refine blk_alloc ?_ _)); refine blk_far ?_ NB377_391.out _; (with_reducible repeat (first | refine blk_drewN ?_ _ | refine blk_drew ?_ | refine blk_alloc ?_ _)); exact BK377.out⟩, ⟨by (with_reducible repeat (first | refine blk_drewN ?_ _ | refine blk_drew ?_ | refine blk_alloc ?_ _)); refine blk_put (cs := #[.int .i64 t381, .int .u64 t382, .bool t383, .int .u64 t384, .int .u64 t385, .int .u64 t386, .bool t387, .int .u64 t388, .int .u64 0]) ?_ 8 _ rfl; (with_reducible repeat (first | refine blk_drewN ?_ _ | refine blk_drew ?_ | refine blk_alloc ?_ _)); refine blk_put (cs := #[.int .i64 t381, .int .u64 t382, .bool t383, .int .u64 t384, .int .u64 t385, .int .u64 t386, .bool t387, .int .u64 0, .int .u64 0]) ?_ 7 _ rfl; (with_reducible repeat (first | refine blk_drewN ?_ _ | refine blk_drew ?_ | refine blk_alloc ?_ _)); refine blk_put (cs := #[.int .i64 t381, .int .u64 t382, .bool t383, .int .u64 t384, .int .u64 t385, .int .u64 t386, .bool false, .int .u64 0, .int .u64 0]) ?_ 6 _ rfl; (with_reducible repeat (first | refine blk_drewN ?_ _ | refine blk_drew ?_ | refine blk_alloc ?_ _)); refine blk_put (cs := #[.int .i64 t381, .int .u64 t382, .bool t383, .int .u64 t384, .int .u64 t385, .int .u64 0, .bool false, .int .u64 0, .int .u64 0]) ?_ 5 _ rfl; (with_reducible repeat (first | refine blk_drewN ?_ _ | refine blk_drew ?_ | refine blk_alloc ?_ _)); refine blk_put (cs := #[.int .i64 t381, .int .u64 t382, .bool t383, .int .u64 t384, .int .u64 0, .int .u64 0, .bool false, .int .u64 0, .int .u64 0]) ?_ 4 _ rfl; (with_reducible repeat (first | refine blk_drewN ?_ _ | refine blk_drew ?_ | refine blk_alloc ?_ _)); refine blk_put (cs := #[.int .i64 t381, .int .u64 t382, .bool t383, .int .u64 0, .int .u64 0, .int .u64 0, .bool false, .int .u64 0, .int .u64 0]) ?_ 3 _ rfl; (with_reducible repeat (first | refine blk_drewN ?_ _ | refine blk_drew ?_ | refine blk_alloc ?_ _)); refine blk_put (cs := #[.int .i64 t381, .int .u64 t382, .bool false, .int .u64 0, .int .u64 0, .int .u64 0, .bool false, .int .u64 0, .int .u64 0]) ?_ 2 _ rfl; (with_reducible repeat (first | refine blk_drewN ?_ _ | refine blk_drew ?_ | refine blk_alloc ?_ _)); refine blk_put (cs := #[.int .i64 t381, .int .u64 0, .bool false, .int .u64 0, .int .u64 0, .int .u64 0, .bool false, .int .u64 0, .int .u64 0]) ?_ 1 _ rfl; (with_reducible repeat (first | refine blk_drewN ?_ _ | refine blk_drew ?_ | refine blk_alloc ?_ _)); refine blk_put (cs := #[.int .i64 0, .int .u64 0, .bool false, .int .u64 0, .int .u64 0, .int .u64 0, .bool false, .int .u64 0, .int .u64 0]) ?_ 0 _ rfl; (with_reducible repeat (first | refine blk_drewN ?_ _ | refine blk_drew ?_ | refine blk_alloc ?_ _)); exact BK391.out⟩, ⟨by repeat (first | (with_reducible first | exact HB.out | apply below_alloc | apply pw_below_drewN | apply below_drew1 | refine below_set ?_ GE377.out | refine below_set ?_ GE391.out) | exact HB.out)⟩⟩
      ·
       rw [if_neg c22] at H
       have c22b0 : (t390 == 0) = false := beq_eq_false_iff_ne.mpr c22
       have c22b1 : (t390 != 0) = true := bne_iff_ne.mpr c22
       (first | rw [c22b0] | (simp only [i64_w, i32_w]; rw [c22b0]) | skip)
       have H' := Aside0.mk H
       clear H
       go_wp2
       go_meet
       case rel => exact ⟨_, (true), (by first | rfl | (simp; done) | (simp [*]; done)), H', ⟨by have := HJ4.out; first | omega | exact Nat.le_refl _⟩, ⟨by (with_reducible repeat (first | refine blk_drewN ?_ _ | refine blk_drew ?_ | refine blk_alloc ?_ _)); refine blk_far ?_ NB377_391.out _; (with_reducible repeat (first | refine blk_drewN ?_ _ | refine blk_drew ?_ | refine blk_alloc ?_ _)); refine blk_far ?_ NB377_391.out _; (with_reducible repeat (first | refine blk_drewN ?_ _ | refine blk_drew ?_ | refine blk_alloc ?_ _)); refine blk_far ?_ NB377_391.out _; (with_reducible repeat (first | refine blk_drewN ?_ _ | refine blk_drew ?_ | refine blk_alloc ?_ _)); refine blk_far ?_ NB377_391.out _; (with_reducible repeat (first | refine blk_drewN ?_ _ | refine blk_drew ?_ | refine blk_alloc ?_ _)); refine blk_far ?_ NB377_391.out _; (with_reducible repeat (first | refine blk_drewN ?_ _ | refine blk_drew ?_ | refine blk_alloc ?_ _)); refine blk_far ?_ NB377_391.out _; (with_reducible repeat (first | refine blk_drewN ?_ _ | refine blk_drew ?_ | refine blk_alloc ?_ _)); refine blk_far ?_ NB377_391.out _; (with_reducible repeat (first | refine blk_drewN ?_ _ | refine blk_drew ?_ | refine blk_alloc ?_ _)); refine blk_far ?_ NB377_391.out _; (with_reducible repeat (first | refine blk_drewN ?_ _ | refine blk_drew ?_ | refine blk_alloc ?_ _)); refine blk_far ?_ NB377_391.out _; (with_reducible repeat (first | refine blk_drewN ?_ _ | refine blk_drew ?_ | refine blk_alloc ?_ _)); exact BK377.out⟩, ⟨by (with_reducible repeat (first | refine blk_drewN ?_ _ | refine blk_drew ?_ | refine blk_alloc ?_ _)); refine blk_put (cs := #[.int .i64 t381, .int .u64 t382, .bool t383, .int .u64 t384, .int .u64 t385, .int .u64 t386, .bool t387, .int .u64 t388, .int .u64 0]) ?_ 8 _ rfl; (with_reducible repeat (first | refine blk_drewN ?_ _ | refine blk_drew ?_ | refine blk_alloc ?_ _)); refine blk_put (cs := #[.int .i64 t381, .int .u64 t382, .bool t383, .int .u64 t384, .int .u64 t385, .int .u64 t386, .bool t387, .int .u64 0, .int .u64 0]) ?_ 7 _ rfl; (with_reducible repeat (first | refine blk_drewN ?_ _ | refine blk_drew ?_ | refine blk_alloc ?_ _)); refine blk_put (cs := #[.int .i64 t381, .int .u64 t382, .bool t383, .int .u64 t384, .int .u64 t385, .int .u64 t386, .bool false, .int .u64 0, .int .u64 0]) ?_ 6 _ rfl; (with_reducible repeat (first | refine blk_drewN ?_ _ | refine blk_drew ?_ | refine blk_alloc ?_ _)); refine blk_put (cs := #[.int .i64 t381, .int .u64 t382, .bool t383, .int .u64 t384, .int .u64 t385, .int .u64 0, .bool false, .int .u64 0, .int .u64 0]) ?_ 5 _ rfl; (with_reducible repeat (first | refine blk_drewN ?_ _ | refine blk_drew ?_ | refine blk_alloc ?_ _)); refine blk_put (cs := #[.int .i64 t381, .int .u64 t382, .bool t383, .int .u64 t384, .int .u64 0, .int .u64 0, .bool false, .int .u64 0, .int .u64 0]) ?_ 4 _ rfl; (with_reducible repeat (first | refine blk_drewN ?_ _ | refine blk_drew ?_ | refine blk_alloc ?_ _)); refine blk_put (cs := #[.int .i64 t381, .int .u64 t382, .bool t383, .int .u64 0, .int .u64 0, .int .u64 0, .bool false, .int .u64 0, .int .u64 0]) ?_ 3 _ rfl; (with_reducible repeat (first | refine blk_drewN ?_ _ | refine blk_drew ?_ | refine blk_alloc ?_ _)); refine blk_put (cs := #[.int .i64 t381, .int .u64 t382, .bool false, .int .u64 0, .int .u64 0, .int .u64 0, .bool false, .int .u64 0, .int .u64 0]) ?_ 2 _ rfl; (with_reducible repeat (first | refine blk_drewN ?_ _ | refine blk_drew ?_ | refine blk_alloc ?_ _)); refine blk_put (cs := #[.int .i64 t381, .int .u64 0, .bool false, .int .u64 0, .int .u64 0, .int .u64 0, .bool false, .int .u64 0, .int .u64 0]) ?_ 1 _ rfl; (with_reducible repeat (first | refine blk_drewN ?_ _ | refine blk_drew ?_ | refine blk_alloc ?_ _)); refine blk_put (cs := #[.int .i64 0, .int .u64 0, .bool false, .int .u64 0, .int .u64 0, .int .u64 0, .bool false, .int .u64 0, .int .u64 0]) ?_ 0 _ rfl; (with_reducible repeat (first | refine blk_drewN ?_ _ | refine blk_drew ?_ | refine blk_alloc ?_ _)); exact BK391.out⟩, ⟨by repeat (first | (with_reducible first | exact HB.out | apply below_alloc | apply pw_below_drewN | apply below_drew1 | refine below_set ?_ GE377.out | refine below_set ?_ GE391.out) | exact HB.out)⟩⟩
     case rest =>
      clear HC15
      try clear c1
      try clear c2
      try clear p2
      try clear c7
      try clear c8
      try clear c8b0
      try clear c8b1
      try clear c9
      try clear c9b0
      try clear c9b1
      try clear c10
      try clear c10b0
      try clear c10b1
      try clear c12
      try clear c12b0
      try clear c12b1
      try clear c13
      try clear c13b0
      try clear c13b1
      try clear c13b2
      try clear c17
      try clear c20
      try clear c22
      try clear c22b0
      try clear c22b1
      try clear c23
      try clear c23b0
      try clear c24
      try clear c27
      try clear hcz16_0
      try clear hcz16_1
      try clear hcz16_2
      try clear hcz16_3
      try clear hcz16_4
      try clear hcz16_5
      try clear hcz16_6
      try clear hcz16_7
      try clear hcz16_8
      try clear hcz21_0
      try clear hcz21_1
      try clear hcz21_2
      try clear hcz21_3
      try clear hcz21_4
      try clear hcz21_5
      try clear hcz21_6
      try clear hcz21_7
      try clear hcz21_8
      try clear hcz25_0
      try clear hcz25_1
      try clear hcz25_2
      try clear hcz25_3
      try clear hcz25_4
      try clear hcz25_5
      try clear hcz25_6
      try clear hcz25_7
      try clear hcz25_8
      try clear hcz26_0
      try clear hcz26_1
      try clear hcz26_2
      try clear hcz26_3
      try clear hcz26_4
      try clear hcz26_5
      try clear hcz26_6
      try clear hcz26_7
      try clear hcz26_8
      try clear hcz28_0
      try clear hcz28_1
      try clear hcz28_2
      try clear hcz28_3
      try clear hcz28_4
      try clear hcz28_5
      try clear hcz28_6
      try clear hcz28_7
      try clear hcz28_8
      try clear hcz29_0
      try clear hcz29_1
      try clear hcz29_2
      try clear hcz29_3
      try clear hcz29_4
      try clear hcz29_5
      try clear hcz29_6
      try clear hcz29_7
      try clear hcz29_8
      try clear hfz16_0
      try clear hfz16_1
      try clear hfz16_2
      try clear hfz16_3
      try clear hfz16_4
      try clear hfz16_5
      try clear hfz16_6
      try clear hfz16_7
      try clear hfz16_8
      try clear hfz21_0
      try clear hfz21_1
      try clear hfz21_2
      try clear hfz21_3
      try clear hfz21_4
      try clear hfz21_5
      try clear hfz21_6
      try clear hfz21_7
      try clear hfz21_8
      try clear hfz25_0
      try clear hfz25_1
      try clear hfz25_2
      try clear hfz25_3
      try clear hfz25_4
      try clear hfz25_5
      try clear hfz25_6
      try clear hfz25_7
      try clear hfz25_8
      try clear hfz26_0
      try clear hfz26_1
      try clear hfz26_2
      try clear hfz26_3
      try clear hfz26_4
      try clear hfz26_5
      try clear hfz26_6
      try clear hfz26_7
      try clear hfz26_8
      try clear hfz28_0
      try clear hfz28_1
      try clear hfz28_2
      try clear hfz28_3
      try clear hfz28_4
      try clear hfz28_5
      try clear hfz28_6
      try clear hfz28_7
      try clear hfz28_8
      try clear hfz29_0
      try clear hfz29_1
      try clear hfz29_2
      try clear hfz29_3
      try clear hfz29_4
      try clear hfz29_5
      try clear hfz29_6
      try clear hfz29_7
      try clear hfz29_8
      try clear p2
      obtain ⟨kq, x54_14, rfl, HA, HJ14, BK377, BK391, HB⟩ := hcut
      cases kq with
      | zero => exact absurd HA.out (by simp [crosswaylaw05_EtherAsks.j1])
      | succ kj14 =>
       have H := HA.out
       clear HA
       simp only [crosswaylaw05_EtherAsks.j1] at H
       by_cases c30 : x54_14 = true
       ·
        subst c30
        rw [if_pos rfl] at H
        exact absurd ((Option.some.inj H).trans HRT.out) (by decide)
       ·
        replace c30 := Bool.eq_false_iff.mpr c30
        subst c30
        rw [if_neg (show ¬ (false = true) by decide)] at H
        by_cases c31 : a2 < 0
        ·
         rw [if_pos c31] at H
         have c31b0 : decide (a2 < 0) = true := decide_eq_true c31
         clear c31
         obtain ⟨ji32, hji32⟩ : ∃ j_ : Int, (Int.tmod (wrap64 (-(wrap64 (a2 + 1)))) 28) = j_ := ⟨_, rfl⟩
         replace H : (if 0 ≤ (ji32) then (if (ji32) ≤ (t379.size : Int) then ((ether_TakeArp.f kj14 (t379.extract 0 ((ji32) : Int).toNat)).bind fun bt392 => (if t378 = true then (if (bt392.1 == 0 && (bt392.2.1 == 0 && ((!bt392.2.2.1 && (bt392.2.2.2.1 == 0 && (bt392.2.2.2.2.1 == 0))) && (bt392.2.2.2.2.2.1 == 0 && ((!bt392.2.2.2.2.2.2.1 && (bt392.2.2.2.2.2.2.2.1 == 0 && (bt392.2.2.2.2.2.2.2.2.1 == 0)))))))) = true then (some (bt392.2.2.2.2.2.2.2.2.2 == 41)) else (some false)) else (some false))) else (none)) else (none)) = some r := by first | (rw [hji32] at H; exact H) | (simp only [hji32] at H ⊢; exact H)
         by_cases c33 : 0 ≤ (ji32)
         ·
          rw [if_pos c33] at H
          have c33b0 := eq_true c33
          have c33b1 : decide (0 ≤ (ji32)) = true := decide_eq_true c33
          clear c33
          by_cases c34 : (ji32) ≤ (t379.size : Int)
          ·
           rw [if_pos c34] at H
           have c34b0 := eq_true c34
           have c34b1 : decide ((ji32) ≤ (t379.size : Int)) = true := decide_eq_true c34
           clear c34
           replace H := Option.bind_eq_some_iff.mp H
           obtain ⟨⟨t392, t393, t394, t395, t396, t397, t398, t399, t400, t401⟩, A350, H⟩ := H
           replace H : (if t378 = true then (if (t392 == 0 && (t393 == 0 && ((!t394 && (t395 == 0 && (t396 == 0))) && (t397 == 0 && ((!t398 && (t399 == 0 && (t400 == 0)))))))) = true then (some (t401 == 41)) else (some false)) else (some false)) = some r := H
           have A35 := Aside0.mk A350
           clear A350
           by_cases c36 : t378 = true
           ·
            subst c36
            rw [if_pos rfl] at H
            by_cases c37 : (t392 == 0 && (t393 == 0 && ((!t394 && (t395 == 0 && (t396 == 0))) && (t397 == 0 && ((!t398 && (t399 == 0 && (t400 == 0)))))))) = true
            ·
             rw [if_pos c37] at H
             have c37b0 : (t392 == 0 && (t393 == 0 && ((!t394 && (t395 == 0 && (t396 == 0))) && (t397 == 0 && ((!t398 && (t399 == 0 && (t400 == 0)))))))) = true := c37
             (try (have c37b1 : decide (t392 = 0 && (t393 == 0 && ((!t394 && (t395 == 0 && (t396 == 0))) && (t397 == 0 && ((!t398 && (t399 == 0 && (t400 == 0)))))))) = true := by simpa using c37))
             (try (have c37b2 : (t392 == 0 && (t393 == 0 && ((!t394 && (t395 == 0 && (t396 == 0))) && (t397 == 0 && ((!t398 && (t399 == 0 && (t400 == 0)))))))) = true := by simpa using c37))
             clear c37
             obtain rfl := Option.some.inj H
             go_wp2_with (first | ((with_reducible refine gate_callee (f := 17) rfl ?_); refine goesL_ (some 65) rfl rfl Tryd.func17 (by kernel_rfl) rfl #[.string (t379.extract 0 ((ji32) : Int).toNat)] rfl (by (try simp only [List.map_toArray, List.map_cons, List.map_nil]); first | done | (simp only [hji32]; rfl) | rfl | (simp only [List.length_drop, List.length_take]; rfl)) ?_; (with_reducible refine Calls.mono (ether_TakeArp.calls kj14 (t379.extract 0 ((ji32) : Int).toNat) t392 t393 t394 t395 t396 t397 t398 t399 t400 t401 _ A35.out ?hgl_) ?_); (case hgl_ => exact ether_Glob_below HGL.out (by repeat (first | (with_reducible first | exact HB.out | apply below_alloc | apply pw_below_drewN | apply below_drew1 | refine below_set ?_ GE377.out | refine below_set ?_ GE391.out) | exact HB.out))); rintro e w38 ⟨rfl, hb⟩; refine ⟨_, rfl, ?_⟩; have n0_ := Aside0.mk (blk_below (g := gb377) (o := .cells #[.int .i64 a0_0, .int .u64 a0_1, .bool a0_2, .int .u64 a0_3, .int .u64 a0_4, .int .u64 a0_5, .bool a0_6, .int .u64 a0_7, .int .u64 a0_8] 29 (0, 0)) (by (with_reducible repeat (first | refine blk_drewN ?_ _ | refine blk_drew ?_ | refine blk_alloc ?_ _)); exact BK377.out) hb); have n1_ := Aside0.mk (blk_below (g := gb391) (o := .cells #[.int .i64 t381, .int .u64 t382, .bool t383, .int .u64 t384, .int .u64 t385, .int .u64 t386, .bool t387, .int .u64 t388, .int .u64 t389] 29 (0, 0)) (by (with_reducible repeat (first | refine blk_drewN ?_ _ | refine blk_drew ?_ | refine blk_alloc ?_ _)); exact BK391.out) hb); have n2_ := Aside0.mk (below_step (by repeat (first | (with_reducible first | exact HB.out | apply below_alloc | apply pw_below_drewN | apply below_drew1 | refine below_set ?_ GE377.out | refine below_set ?_ GE391.out) | exact HB.out)) hb); clear BK377; clear BK391; clear HB; have BK377 := n0_; have BK391 := n1_; have HB := n2_; clear n0_ n1_ n2_; (try clear hb); (try clear hb2); (try clear hk); (try clear hi)) | ((with_reducible refine gate_dst (N := 12) rfl ?_); (try (refine gate_guard (by rfl) ?_; dsimp only)); refine box_event ?hg (N := 12) ?hd (cs := #[.int .i64 0, .int .u64 0, .bool false, .int .u64 0, .int .u64 0, .int .u64 0, .bool false, .int .u64 0, .int .u64 0]) (t := 29) ?hr ?_; (case hd => rfl); (case hg => rfl); (case hr => first | (go_simp; done) | (go_simp; rfl)); intro gb402 hg w39 hbox hb; have n0_ := Aside0.mk (blk_below (g := gb377) (o := .cells #[.int .i64 a0_0, .int .u64 a0_1, .bool a0_2, .int .u64 a0_3, .int .u64 a0_4, .int .u64 a0_5, .bool a0_6, .int .u64 a0_7, .int .u64 a0_8] 29 (0, 0)) (by (with_reducible repeat (first | refine blk_drewN ?_ _ | refine blk_drew ?_ | refine blk_alloc ?_ _)); exact BK377.out) hb); have n1_ := Aside0.mk (blk_below (g := gb391) (o := .cells #[.int .i64 t381, .int .u64 t382, .bool t383, .int .u64 t384, .int .u64 t385, .int .u64 t386, .bool t387, .int .u64 t388, .int .u64 t389] 29 (0, 0)) (by (with_reducible repeat (first | refine blk_drewN ?_ _ | refine blk_drew ?_ | refine blk_alloc ?_ _)); exact BK391.out) hb); have n2_ := Aside0.mk (below_step (by repeat (first | (with_reducible first | exact HB.out | apply below_alloc | apply pw_below_drewN | apply below_drew1 | refine below_set ?_ GE377.out | refine below_set ?_ GE391.out) | exact HB.out)) hb); have n3_ := Aside0.mk (hbox); have n4_ := Aside0.mk ((by rw [hg]; exact (below_size (by repeat (first | (with_reducible first | exact HB.out | apply below_alloc | apply pw_below_drewN | apply below_drew1 | refine below_set ?_ GE377.out | refine below_set ?_ GE391.out) | exact HB.out))) : w.heap.size ≤ gb402)); have n5_ := Aside0.mk ((by rw [hg]; exact (below_size (by repeat (first | (with_reducible first | exact HB.out | apply below_alloc | apply pw_below_drewN | apply below_drew1 | refine below_set ?_ GE377.out | refine below_set ?_ GE391.out) | exact HB.out))) : w.heap.size ≤ gb402)); have n6_ := Aside0.mk ((by rw [hg]; exact Nat.ne_of_lt (blk_lt (g := gb377) (o := .cells #[.int .i64 a0_0, .int .u64 a0_1, .bool a0_2, .int .u64 a0_3, .int .u64 a0_4, .int .u64 a0_5, .bool a0_6, .int .u64 a0_7, .int .u64 a0_8] 29 (0, 0)) (by (with_reducible repeat (first | refine blk_drewN ?_ _ | refine blk_drew ?_ | refine blk_alloc ?_ _)); exact BK377.out)) : gb377 ≠ gb402)); have n7_ := Aside0.mk ((by rw [hg]; exact Nat.ne_of_gt (blk_lt (g := gb377) (o := .cells #[.int .i64 a0_0, .int .u64 a0_1, .bool a0_2, .int .u64 a0_3, .int .u64 a0_4, .int .u64 a0_5, .bool a0_6, .int .u64 a0_7, .int .u64 a0_8] 29 (0, 0)) (by (with_reducible repeat (first | refine blk_drewN ?_ _ | refine blk_drew ?_ | refine blk_alloc ?_ _)); exact BK377.out)) : gb402 ≠ gb377)); have n8_ := Aside0.mk ((by rw [hg]; exact Nat.ne_of_lt (blk_lt (g := gb391) (o := .cells #[.int .i64 t381, .int .u64 t382, .bool t383, .int .u64 t384, .int .u64 t385, .int .u64 t386, .bool t387, .int .u64 t388, .int .u64 t389] 29 (0, 0)) (by (with_reducible repeat (first | refine blk_drewN ?_ _ | refine blk_drew ?_ | refine blk_alloc ?_ _)); exact BK391.out)) : gb391 ≠ gb402)); have n9_ := Aside0.mk ((by rw [hg]; exact Nat.ne_of_gt (blk_lt (g := gb391) (o := .cells #[.int .i64 t381, .int .u64 t382, .bool t383, .int .u64 t384, .int .u64 t385, .int .u64 t386, .bool t387, .int .u64 t388, .int .u64 t389] 29 (0, 0)) (by (with_reducible repeat (first | refine blk_drewN ?_ _ | refine blk_drew ?_ | refine blk_alloc ?_ _)); exact BK391.out)) : gb402 ≠ gb391)); clear BK377; clear BK391; clear HB; have BK377 := n0_; have BK391 := n1_; have HB := n2_; have BK402 := n3_; have GW402 := n4_; have GE402 := n5_; have NB377_402 := n6_; have NB402_377 := n7_; have NB391_402 := n8_; have NB402_391 := n9_; clear n0_ n1_ n2_ n3_ n4_ n5_ n6_ n7_ n8_ n9_; clear hb hbox hg; have hnb40 := NB402_377.out; have hnc40 := NB377_402.out; have hnb41 := NB402_391.out; have hnc41 := NB391_402.out; obtain ⟨hcz42_0, hcz42_1, hcz42_2, hcz42_3, hcz42_4, hcz42_5, hcz42_6, hcz42_7, hcz42_8⟩ := MBlk.c9 BK402.out; obtain ⟨hfz42_0, hfz42_1, hfz42_2, hfz42_3, hfz42_4, hfz42_5, hfz42_6, hfz42_7, hfz42_8⟩ := MBlk.f9 BK402.out))
             go_ret
             exact ⟨by first | rfl | (simp [errW_none, errW_some] <;> rfl) | (simp only [← hji32]; first | rfl | (simp [errW_none, errW_some] <;> rfl)) | (simp [*, errW_none, errW_some] <;> rfl), by repeat (first | (with_reducible first | exact HB.out | apply below_alloc | apply pw_below_drewN | apply below_drew1 | refine below_set ?_ GE377.out | refine below_set ?_ GE391.out | refine below_set ?_ GE402.out) | exact HB.out)⟩
            ·
             rw [if_neg c37] at H
             have c37b0 : (t392 == 0 && (t393 == 0 && ((!t394 && (t395 == 0 && (t396 == 0))) && (t397 == 0 && ((!t398 && (t399 == 0 && (t400 == 0)))))))) = false := by simpa using c37
             (try (have c37b1 : decide (t392 = 0 && (t393 == 0 && ((!t394 && (t395 == 0 && (t396 == 0))) && (t397 == 0 && ((!t398 && (t399 == 0 && (t400 == 0)))))))) = false := by simpa using c37))
             (try (have c37b2 : (t392 == 0 && (t393 == 0 && ((!t394 && (t395 == 0 && (t396 == 0))) && (t397 == 0 && ((!t398 && (t399 == 0 && (t400 == 0)))))))) = false := by simpa using c37))
             (try (have c37b3 : ¬ (t392 = 0 && (t393 == 0 && ((!t394 && (t395 == 0 && (t396 == 0))) && (t397 == 0 && ((!t398 && (t399 == 0 && (t400 == 0)))))))) := by simpa using c37))
             clear c37
             exact absurd ((Option.some.inj H).trans HRT.out) (by decide)
           ·
            replace c36 := Bool.eq_false_iff.mpr c36
            subst c36
            rw [if_neg (show ¬ (false = true) by decide)] at H
            exact absurd ((Option.some.inj H).trans HRT.out) (by decide)
          ·
           rw [if_neg c34] at H
           exact absurd H (by simp)
         ·
          rw [if_neg c33] at H
          exact absurd H (by simp)
        ·
         rw [if_neg c31] at H
         have c31b0 : decide (a2 < 0) = false := decide_eq_false c31
         clear c31
         obtain ⟨ji43, hji43⟩ : ∃ j_ : Int, (Int.tmod a2 28) = j_ := ⟨_, rfl⟩
         replace H : (if 0 ≤ (ji43) then (if (ji43) ≤ (t379.size : Int) then ((ether_TakeArp.f kj14 (t379.extract 0 ((ji43) : Int).toNat)).bind fun bt403 => (if t378 = true then (if (bt403.1 == 0 && (bt403.2.1 == 0 && ((!bt403.2.2.1 && (bt403.2.2.2.1 == 0 && (bt403.2.2.2.2.1 == 0))) && (bt403.2.2.2.2.2.1 == 0 && ((!bt403.2.2.2.2.2.2.1 && (bt403.2.2.2.2.2.2.2.1 == 0 && (bt403.2.2.2.2.2.2.2.2.1 == 0)))))))) = true then (some (bt403.2.2.2.2.2.2.2.2.2 == 41)) else (some false)) else (some false))) else (none)) else (none)) = some r := by first | (rw [hji43] at H; exact H) | (simp only [hji43] at H ⊢; exact H)
         by_cases c44 : 0 ≤ (ji43)
         ·
          rw [if_pos c44] at H
          have c44b0 := eq_true c44
          have c44b1 : decide (0 ≤ (ji43)) = true := decide_eq_true c44
          clear c44
          by_cases c45 : (ji43) ≤ (t379.size : Int)
          ·
           rw [if_pos c45] at H
           have c45b0 := eq_true c45
           have c45b1 : decide ((ji43) ≤ (t379.size : Int)) = true := decide_eq_true c45
           clear c45
           replace H := Option.bind_eq_some_iff.mp H
           obtain ⟨⟨t403, t404, t405, t406, t407, t408, t409, t410, t411, t412⟩, A460, H⟩ := H
           replace H : (if t378 = true then (if (t403 == 0 && (t404 == 0 && ((!t405 && (t406 == 0 && (t407 == 0))) && (t408 == 0 && ((!t409 && (t410 == 0 && (t411 == 0)))))))) = true then (some (t412 == 41)) else (some false)) else (some false)) = some r := H
           have A46 := Aside0.mk A460
           clear A460
           by_cases c47 : t378 = true
           ·
            subst c47
            rw [if_pos rfl] at H
            by_cases c48 : (t403 == 0 && (t404 == 0 && ((!t405 && (t406 == 0 && (t407 == 0))) && (t408 == 0 && ((!t409 && (t410 == 0 && (t411 == 0)))))))) = true
            ·
             rw [if_pos c48] at H
             have c48b0 : (t403 == 0 && (t404 == 0 && ((!t405 && (t406 == 0 && (t407 == 0))) && (t408 == 0 && ((!t409 && (t410 == 0 && (t411 == 0)))))))) = true := c48
             (try (have c48b1 : decide (t403 = 0 && (t404 == 0 && ((!t405 && (t406 == 0 && (t407 == 0))) && (t408 == 0 && ((!t409 && (t410 == 0 && (t411 == 0)))))))) = true := by simpa using c48))
             (try (have c48b2 : (t403 == 0 && (t404 == 0 && ((!t405 && (t406 == 0 && (t407 == 0))) && (t408 == 0 && ((!t409 && (t410 == 0 && (t411 == 0)))))))) = true := by simpa using c48))
             clear c48
             obtain rfl := Option.some.inj H
             go_wp2_with (first | ((with_reducible refine gate_callee (f := 17) rfl ?_); refine goesL_ (some 65) rfl rfl Tryd.func17 (by kernel_rfl) rfl #[.string (t379.extract 0 ((ji43) : Int).toNat)] rfl (by (try simp only [List.map_toArray, List.map_cons, List.map_nil]); first | done | (simp only [hji43]; rfl) | rfl | (simp only [List.length_drop, List.length_take]; rfl)) ?_; (with_reducible refine Calls.mono (ether_TakeArp.calls kj14 (t379.extract 0 ((ji43) : Int).toNat) t403 t404 t405 t406 t407 t408 t409 t410 t411 t412 _ A46.out ?hgl_) ?_); (case hgl_ => exact ether_Glob_below HGL.out (by repeat (first | (with_reducible first | exact HB.out | apply below_alloc | apply pw_below_drewN | apply below_drew1 | refine below_set ?_ GE377.out | refine below_set ?_ GE391.out) | exact HB.out))); rintro e w49 ⟨rfl, hb⟩; refine ⟨_, rfl, ?_⟩; have n0_ := Aside0.mk (blk_below (g := gb377) (o := .cells #[.int .i64 a0_0, .int .u64 a0_1, .bool a0_2, .int .u64 a0_3, .int .u64 a0_4, .int .u64 a0_5, .bool a0_6, .int .u64 a0_7, .int .u64 a0_8] 29 (0, 0)) (by (with_reducible repeat (first | refine blk_drewN ?_ _ | refine blk_drew ?_ | refine blk_alloc ?_ _)); exact BK377.out) hb); have n1_ := Aside0.mk (blk_below (g := gb391) (o := .cells #[.int .i64 t381, .int .u64 t382, .bool t383, .int .u64 t384, .int .u64 t385, .int .u64 t386, .bool t387, .int .u64 t388, .int .u64 t389] 29 (0, 0)) (by (with_reducible repeat (first | refine blk_drewN ?_ _ | refine blk_drew ?_ | refine blk_alloc ?_ _)); exact BK391.out) hb); have n2_ := Aside0.mk (below_step (by repeat (first | (with_reducible first | exact HB.out | apply below_alloc | apply pw_below_drewN | apply below_drew1 | refine below_set ?_ GE377.out | refine below_set ?_ GE391.out) | exact HB.out)) hb); clear BK377; clear BK391; clear HB; have BK377 := n0_; have BK391 := n1_; have HB := n2_; clear n0_ n1_ n2_; (try clear hb); (try clear hb2); (try clear hk); (try clear hi)) | ((with_reducible refine gate_dst (N := 12) rfl ?_); (try (refine gate_guard (by rfl) ?_; dsimp only)); refine box_event ?hg (N := 12) ?hd (cs := #[.int .i64 0, .int .u64 0, .bool false, .int .u64 0, .int .u64 0, .int .u64 0, .bool false, .int .u64 0, .int .u64 0]) (t := 29) ?hr ?_; (case hd => rfl); (case hg => rfl); (case hr => first | (go_simp; done) | (go_simp; rfl)); intro gb413 hg w50 hbox hb; have n0_ := Aside0.mk (blk_below (g := gb377) (o := .cells #[.int .i64 a0_0, .int .u64 a0_1, .bool a0_2, .int .u64 a0_3, .int .u64 a0_4, .int .u64 a0_5, .bool a0_6, .int .u64 a0_7, .int .u64 a0_8] 29 (0, 0)) (by (with_reducible repeat (first | refine blk_drewN ?_ _ | refine blk_drew ?_ | refine blk_alloc ?_ _)); exact BK377.out) hb); have n1_ := Aside0.mk (blk_below (g := gb391) (o := .cells #[.int .i64 t381, .int .u64 t382, .bool t383, .int .u64 t384, .int .u64 t385, .int .u64 t386, .bool t387, .int .u64 t388, .int .u64 t389] 29 (0, 0)) (by (with_reducible repeat (first | refine blk_drewN ?_ _ | refine blk_drew ?_ | refine blk_alloc ?_ _)); exact BK391.out) hb); have n2_ := Aside0.mk (below_step (by repeat (first | (with_reducible first | exact HB.out | apply below_alloc | apply pw_below_drewN | apply below_drew1 | refine below_set ?_ GE377.out | refine below_set ?_ GE391.out) | exact HB.out)) hb); have n3_ := Aside0.mk (hbox); have n4_ := Aside0.mk ((by rw [hg]; exact (below_size (by repeat (first | (with_reducible first | exact HB.out | apply below_alloc | apply pw_below_drewN | apply below_drew1 | refine below_set ?_ GE377.out | refine below_set ?_ GE391.out) | exact HB.out))) : w.heap.size ≤ gb413)); have n5_ := Aside0.mk ((by rw [hg]; exact (below_size (by repeat (first | (with_reducible first | exact HB.out | apply below_alloc | apply pw_below_drewN | apply below_drew1 | refine below_set ?_ GE377.out | refine below_set ?_ GE391.out) | exact HB.out))) : w.heap.size ≤ gb413)); have n6_ := Aside0.mk ((by rw [hg]; exact Nat.ne_of_lt (blk_lt (g := gb377) (o := .cells #[.int .i64 a0_0, .int .u64 a0_1, .bool a0_2, .int .u64 a0_3, .int .u64 a0_4, .int .u64 a0_5, .bool a0_6, .int .u64 a0_7, .int .u64 a0_8] 29 (0, 0)) (by (with_reducible repeat (first | refine blk_drewN ?_ _ | refine blk_drew ?_ | refine blk_alloc ?_ _)); exact BK377.out)) : gb377 ≠ gb413)); have n7_ := Aside0.mk ((by rw [hg]; exact Nat.ne_of_gt (blk_lt (g := gb377) (o := .cells #[.int .i64 a0_0, .int .u64 a0_1, .bool a0_2, .int .u64 a0_3, .int .u64 a0_4, .int .u64 a0_5, .bool a0_6, .int .u64 a0_7, .int .u64 a0_8] 29 (0, 0)) (by (with_reducible repeat (first | refine blk_drewN ?_ _ | refine blk_drew ?_ | refine blk_alloc ?_ _)); exact BK377.out)) : gb413 ≠ gb377)); have n8_ := Aside0.mk ((by rw [hg]; exact Nat.ne_of_lt (blk_lt (g := gb391) (o := .cells #[.int .i64 t381, .int .u64 t382, .bool t383, .int .u64 t384, .int .u64 t385, .int .u64 t386, .bool t387, .int .u64 t388, .int .u64 t389] 29 (0, 0)) (by (with_reducible repeat (first | refine blk_drewN ?_ _ | refine blk_drew ?_ | refine blk_alloc ?_ _)); exact BK391.out)) : gb391 ≠ gb413)); have n9_ := Aside0.mk ((by rw [hg]; exact Nat.ne_of_gt (blk_lt (g := gb391) (o := .cells #[.int .i64 t381, .int .u64 t382, .bool t383, .int .u64 t384, .int .u64 t385, .int .u64 t386, .bool t387, .int .u64 t388, .int .u64 t389] 29 (0, 0)) (by (with_reducible repeat (first | refine blk_drewN ?_ _ | refine blk_drew ?_ | refine blk_alloc ?_ _)); exact BK391.out)) : gb413 ≠ gb391)); clear BK377; clear BK391; clear HB; have BK377 := n0_; have BK391 := n1_; have HB := n2_; have BK413 := n3_; have GW413 := n4_; have GE413 := n5_; have NB377_413 := n6_; have NB413_377 := n7_; have NB391_413 := n8_; have NB413_391 := n9_; clear n0_ n1_ n2_ n3_ n4_ n5_ n6_ n7_ n8_ n9_; clear hb hbox hg; have hnb51 := NB413_377.out; have hnc51 := NB377_413.out; have hnb52 := NB413_391.out; have hnc52 := NB391_413.out; obtain ⟨hcz53_0, hcz53_1, hcz53_2, hcz53_3, hcz53_4, hcz53_5, hcz53_6, hcz53_7, hcz53_8⟩ := MBlk.c9 BK413.out; obtain ⟨hfz53_0, hfz53_1, hfz53_2, hfz53_3, hfz53_4, hfz53_5, hfz53_6, hfz53_7, hfz53_8⟩ := MBlk.f9 BK413.out))
             go_ret
             exact ⟨by first | rfl | (simp [errW_none, errW_some] <;> rfl) | (simp only [← hji43]; first | rfl | (simp [errW_none, errW_some] <;> rfl)) | (simp [*, errW_none, errW_some] <;> rfl), by repeat (first | (with_reducible first | exact HB.out | apply below_alloc | apply pw_below_drewN | apply below_drew1 | refine below_set ?_ GE377.out | refine below_set ?_ GE391.out | refine below_set ?_ GE413.out) | exact HB.out)⟩
            ·
             rw [if_neg c48] at H
             have c48b0 : (t403 == 0 && (t404 == 0 && ((!t405 && (t406 == 0 && (t407 == 0))) && (t408 == 0 && ((!t409 && (t410 == 0 && (t411 == 0)))))))) = false := by simpa using c48
             (try (have c48b1 : decide (t403 = 0 && (t404 == 0 && ((!t405 && (t406 == 0 && (t407 == 0))) && (t408 == 0 && ((!t409 && (t410 == 0 && (t411 == 0)))))))) = false := by simpa using c48))
             (try (have c48b2 : (t403 == 0 && (t404 == 0 && ((!t405 && (t406 == 0 && (t407 == 0))) && (t408 == 0 && ((!t409 && (t410 == 0 && (t411 == 0)))))))) = false := by simpa using c48))
             (try (have c48b3 : ¬ (t403 = 0 && (t404 == 0 && ((!t405 && (t406 == 0 && (t407 == 0))) && (t408 == 0 && ((!t409 && (t410 == 0 && (t411 == 0)))))))) := by simpa using c48))
             clear c48
             exact absurd ((Option.some.inj H).trans HRT.out) (by decide)
           ·
            replace c47 := Bool.eq_false_iff.mpr c47
            subst c47
            rw [if_neg (show ¬ (false = true) by decide)] at H
            exact absurd ((Option.some.inj H).trans HRT.out) (by decide)
          ·
           rw [if_neg c45] at H
           exact absurd H (by simp)
         ·
          rw [if_neg c44] at H
          exact absurd H (by simp)
    ·
     rw [if_neg c13] at H
     exact absurd H (by simp)
   ·
    rw [if_neg c12] at H
    have c12b0 : (t380 == 0) = false := beq_eq_false_iff_ne.mpr c12
    have c12b1 : (t380 != 0) = true := bne_iff_ne.mpr c12
    by_cases c54 : t378 = true
    ·
     subst c54
     rw [if_pos rfl] at H
     by_cases c55 : t379.toList = ([] : List UInt8)
     ·
      rw [if_pos c55] at H
      have c55b0 : (t379.toList == ([] : List UInt8)) = true := beq_iff_eq.mpr c55
      have c55b1 : (t379.toList != ([] : List UInt8)) = false := bne_eq_false_iff_eq.mpr c55
      clear c55
      obtain rfl := Option.some.inj H
      have hcz56_0 : wc.cell? ⟨gb377, 0, none⟩ = some (.int .i64 a0_0) := (blk_cell BK377.out 0).trans rfl
      have hcz56_1 : wc.cell? ⟨gb377, 1, none⟩ = some (.int .u64 a0_1) := (blk_cell BK377.out 1).trans rfl
      have hcz56_2 : wc.cell? ⟨gb377, 2, none⟩ = some (.bool a0_2) := (blk_cell BK377.out 2).trans rfl
      have hcz56_3 : wc.cell? ⟨gb377, 3, none⟩ = some (.int .u64 a0_3) := (blk_cell BK377.out 3).trans rfl
      have hcz56_4 : wc.cell? ⟨gb377, 4, none⟩ = some (.int .u64 a0_4) := (blk_cell BK377.out 4).trans rfl
      have hcz56_5 : wc.cell? ⟨gb377, 5, none⟩ = some (.int .u64 a0_5) := (blk_cell BK377.out 5).trans rfl
      have hcz56_6 : wc.cell? ⟨gb377, 6, none⟩ = some (.bool a0_6) := (blk_cell BK377.out 6).trans rfl
      have hcz56_7 : wc.cell? ⟨gb377, 7, none⟩ = some (.int .u64 a0_7) := (blk_cell BK377.out 7).trans rfl
      have hcz56_8 : wc.cell? ⟨gb377, 8, none⟩ = some (.int .u64 a0_8) := (blk_cell BK377.out 8).trans rfl
      have hfz56_0 := blk_frozen BK377.out 0
      have hfz56_1 := blk_frozen BK377.out 1
      have hfz56_2 := blk_frozen BK377.out 2
      have hfz56_3 := blk_frozen BK377.out 3
      have hfz56_4 := blk_frozen BK377.out 4
      have hfz56_5 := blk_frozen BK377.out 5
      have hfz56_6 := blk_frozen BK377.out 6
      have hfz56_7 := blk_frozen BK377.out 7
      have hfz56_8 := blk_frozen BK377.out 8
      go_wp2_with (first | ((with_reducible refine gate_callee (f := 13) rfl ?_); refine goesL_ (some 22) rfl rfl Tryd.func13 (by kernel_rfl) rfl #[.agg #[.int .i64 a0_0, .int .u64 a0_1, .bool a0_2, .int .u64 a0_3, .int .u64 a0_4, .int .u64 a0_5, .bool a0_6, .int .u64 a0_7, .int .u64 a0_8]] rfl (by (try simp only [List.map_toArray, List.map_cons, List.map_nil]); first | done | rfl | (simp only [List.length_drop, List.length_take]; rfl)) ?_; (with_reducible refine Calls.mono (ether_LayArp.calls a0_0 a0_1 a0_2 a0_3 a0_4 a0_5 a0_6 a0_7 a0_8 t379 t380 _ A11.out ?hgl_) ?_); (case hgl_ => exact ether_Glob_below HGL.out (by repeat (first | (with_reducible first | exact HB.out | apply below_alloc | apply pw_below_drewN | apply below_drew1 | refine below_set ?_ GE377.out) | exact HB.out))); rintro e w57 ⟨rfl, hb⟩; refine ⟨_, rfl, ?_⟩; have n0_ := Aside0.mk (blk_below (g := gb377) (o := .cells #[.int .i64 a0_0, .int .u64 a0_1, .bool a0_2, .int .u64 a0_3, .int .u64 a0_4, .int .u64 a0_5, .bool a0_6, .int .u64 a0_7, .int .u64 a0_8] 29 (0, 0)) (by (with_reducible repeat (first | refine blk_drewN ?_ _ | refine blk_drew ?_ | refine blk_alloc ?_ _)); exact BK377.out) hb); have n1_ := Aside0.mk (below_step (by repeat (first | (with_reducible first | exact HB.out | apply below_alloc | apply pw_below_drewN | apply below_drew1 | refine below_set ?_ GE377.out) | exact HB.out)) hb); clear BK377; clear HB; have BK377 := n0_; have HB := n1_; clear n0_ n1_; (try clear hb); (try clear hb2); (try clear hk); (try clear hi)))
      go_ret
      exact ⟨by first | rfl | (simp [errW_none, errW_some] <;> rfl) | (simp [*, errW_none, errW_some] <;> rfl), by repeat (first | (with_reducible first | exact HB.out | apply below_alloc | apply pw_below_drewN | apply below_drew1 | refine below_set ?_ GE377.out) | exact HB.out)⟩
     ·
      rw [if_neg c55] at H
      have c55b0 : (t379.toList == ([] : List UInt8)) = false := beq_eq_false_iff_ne.mpr c55
      have c55b1 : (t379.toList != ([] : List UInt8)) = true := bne_iff_ne.mpr c55
      exact absurd ((Option.some.inj H).trans HRT.out) (by decide)
    ·
     replace c54 := Bool.eq_false_iff.mpr c54
     subst c54
     rw [if_neg (show ¬ (false = true) by decide)] at H
     exact absurd ((Option.some.inj H).trans HRT.out) (by decide)

end Go.Proofs.YthajbaheejdoaaaDoor.PBase
